/-
  Several texts, one behind the other.
-/
import Derived.Test.YtcofohnmkmknbaaGreatDoorAmSound
import Derived.Defers
import Derived.Recover
import Derived.ProofKit
import Derived.OpenShut
import Derived.Carry
import Derived.Handed
set_option linter.unusedSimpArgs false
set_option linter.unusedVariables false
namespace Go.Am
section
noncomputable section

def PO (σ:af):SV→Option E
 | .oc o=>match σ.obj o with
  | some (.row x _)=>some x
  | _=>none
 | sv=>sv.jx

def HS (P:Program)(σ:af):ResultVar→Option E
 | .tmp t=>PO σ (σ.tmp t)
 | .cell t ty=>match σ.tmp t with
  | .addr o off=>match σ.obj o,lN P ty,w9 P ty with
   | some (.box cs),some true,some n=>if off+n≤cs.length then(SV.agg ((cs.drop off).take n)).jx else none
   | some (.box cs),some false,_=>(cs[off]?).bind (PO σ)
   | _,_,_=>none
  | .e p _=>match σ.hs,lN P ty,w9 P ty with
   | some (.store _ h),some agg,some n=>some (.ld agg n h p)
   | _,_,_=>none
  | _=>none

def yz (P:Program)(σ:af):List ResultVar→Option E
 | []=>some .ax
 | r :: rs=>match HS P σ r,yz P σ rs with
  | some x,some y=>some (.aa x y)
  | _,_=>none

def T5 (P:Program)(rs:List ResultVar)(σ:af):Option E:=
 match rs with
 | [r]=>HS P σ r
 | rs=>yz P σ rs

def F0 (ρ:dJ)(σ:af):Sets:=ρ.S.or fun b _=>∃o x sz,σ.obj o=some (.row x sz)∧ρ.aE o=b

section
variable {P:Program} {w w0:World} {X:kG} {a:Act} {σ:af} {env:List D} {ρ:dJ}

theorem bU.fin {v:Value}{d:D}(h:bU w ρ.S v d):bU w (F0 ρ σ) v d:=h.keep (bW.refl _ _) (ρ.S.rN _)

theorem aap {o:Nat}{x:E}{sz:Nat}(ho:σ.obj o=some (.row x sz))(h:iB w ρ env o (.row x sz)):∃d,x.eval env=some d∧bU w (F0 ρ σ) (ρ.val o) d:=by
 obtain⟨vs,ty,es,hh,hx,hz,hl,hr,hv,hm,hS⟩:=h
 refine⟨_,hx,?_⟩
 rw[hv]
 refine .bq (size:=sz) (val:=fun i j=>vs.getD (i*sz+j) undef) rfl (Nat.le_refl _) hm hz (fun i e j d he hd=>(hr i e j d he hd).1) (fun i e j d he hd=>.inr ⟨o,x,sz,ho,rfl⟩) (fun i e j d he hd=>?_) fun i e j d he hd=>?_
 ·obtain⟨_,v,Qcz,_⟩:=hr i e j d he hd
  rw[Nat.zero_add,gD hh,Qcz,Array.getD_eq_getD_getElem?,Qcz]
  rfl
 ·obtain⟨_,v,Qcz,hrd⟩:=hr i e j d he hd
  rw[Array.getD_eq_getD_getElem?,Qcz]
  exact hrd.fin

theorem Ke {sv:SV}{x:E}{v:Value}(h:PO σ sv=some x)(hr:ef w ρ env v sv)(fP:∀o y,σ.obj o=some y→iB w ρ env o y):∃d,x.eval env=some d∧bU w (F0 ρ σ) v d:=by
 unfold PO at h
 split at h
 ·rename_i o
  split at h
  ·rename_i y sz ho
   cases h
   rw[hr.sH]
   exact aap ho (fP o _ ho)
  ·cases h
 ·obtain⟨d,hd,hrd⟩:=SV.ck h hr
  exact⟨d,hd,hrd.fin⟩

def lC (tmps:Array Value):ResultVar→Sem Value
 | .tmp t=>pure (tmps.getD t undef)
 | .cell a t=>do loadVar t (←asAddr (tmps.getD a undef))

theorem Gq (h:cu w0 X w a σ env ρ){r:ResultVar}{x:E}{d:D}(hx:HS P σ r=some x)(he:x.eval env=some d):∃v,(lC a.tmps r).run P w=.ok v w∧bU w (F0 ρ σ) v d:=by
 unfold HS at hx
 split at hx
 ·rename_i t
  obtain⟨d',hd,hrd⟩:=Ke hx (h.tmps t) h.dO
  rw[he] at hd
  cases hd
  exact⟨_,rfl,hrd⟩
 ·rename_i t ty
  split at hx
  ·rename_i o off ht
   have wN:=h.tmps t
   rw[ht] at wN
   have hv:=wN.lP
   have hrun:∀{v:Value},(loadVar ty ⟨ρ.aE o,off,none⟩).run P w=.ok v w→(lC a.tmps (.cell t ty)).run P w=.ok v w:=by
    intro v hl
    simp only[lC,hv,asAddr,Sem.run_bind,Sem.run_pure,Result.andThen_ok,hl]
   split at hx
   ·rename_i cs n ho hg hn
    obtain⟨vs,tyb,hh,hlen,hone,hr,_⟩:=h.dO o _ ho
    split at hx
    ·rename_i hle
     have hs:ef w ρ env (.agg ((vs.toList.drop off).take n).toArray) (.agg ((cs.drop off).take n)):=by
      refine .agg (by simp[hlen]) (fun i v hv=>?_) fun i v c hv hc=>?_
      ·simp only[List.getElem?_toArray,List.getElem?_take] at hv
       split at hv
       ·exact hone (off+i) v (by simpa using hv)
       ·cases hv
      ·simp only[List.getElem?_toArray,List.getElem?_take] at hv hc
       split at hv
       ·rename_i hi
        rw[if_pos hi] at hc
        exact hr (off+i) v c (by simpa using hv) (by simpa using hc)
       ·cases hv
     obtain⟨d',hd,hrd⟩:=SV.ck hx hs
     rw[he] at hd
     cases hd
     refine⟨_,hrun (sL (vs:=(vs.toList.drop off).take n) hg hn (by simp[hlen];omega) fun j v hv=>?_),hrd.fin⟩
     rw[gD hh]
     rw[List.getElem?_take] at hv
     split at hv
     ·simpa using hv
     ·cases hv
    ·cases hx
   ·rename_i cs ho hg
    obtain⟨vs,tyb,hh,hlen,hone,hr,_⟩:=h.dO o _ ho
    obtain⟨c,hc,hx⟩:=Option.bind_eq_some_iff.1 hx
    have hi:off<vs.size:=by rw[hlen];exact(List.getElem?_eq_some_iff.1 hc).1
    obtain⟨d',hd,hrd⟩:=Ke hx (hr off vs[off] c (by simp[hi]) hc) h.dO
    rw[he] at hd
    cases hd
    exact⟨_,hrun (Qfq (v:=vs[off]) hg (by rw[gD hh];simp[hi])),hrd⟩
   ·cases hx
  ·rename_i p s ht
   have wN:=h.tmps t
   rw[ht] at wN
   obtain⟨dp,hp,Ye,_⟩:=wN.kC
   split at hx
   ·rename_i cf hh agg n sA hg hn
    cases hx
    obtain⟨bs,tM,hst,_⟩:=h.dO bN (.store cf hh) (by rw[af.dV,if_pos rfl];exact sA)
    simp only[E.eval,tM,hp,Option.bind_some] at he
    obtain⟨b,off,u,hv,hrun,RO,_⟩:=NN hg hn Ye (.inr hst) he
    refine⟨u,?_,RO.fin⟩
    simp only[lC,hv,asAddr,Sem.run_bind,Sem.run_pure,Result.andThen_ok,hrun]
   ·cases hx
  ·cases hx

theorem Dr (h:cu w0 X w a σ env ρ):∀{rs:List ResultVar} {x:E} {d:D},yz P σ rs=some x→x.eval env=some d→∃vs ds,(rs.mapM (lC a.tmps)).run P w=.ok vs w∧d=.bh ds∧vs.length=ds.length∧vs.length=rs.length∧∀(i:Nat) (v:Value) (d:D),vs[i]? = some v→ds[i]? = some d→bU w (F0 ρ σ) v d
 | [],x,d,hx,he=>by
  simp[yz] at hx
  subst hx
  simp[E.eval] at he
  exact⟨[],[],rfl,he.symm,rfl,rfl,by simp⟩
 | r :: rs,x,d,hx,he=>by
  simp only[yz] at hx
  split at hx
  ·rename_i y z hy hz
   cases hx
   simp only[E.eval,Option.bind_eq_some_iff] at he
   obtain⟨d1,W6,d2,RZ,he⟩:=he
   obtain⟨v,h1,h3⟩:=Gq h hy W6
   obtain⟨vs,ds,h4,rfl,h6,h6',h7⟩:=Dr h hz RZ
   simp only[D.aa] at he
   cases he
   refine⟨v :: vs,d1 :: ds,by simp only[List.mapM_cons,Sem.run_bind,h1,Result.andThen_ok,h4,Sem.run_pure],rfl,by simp[h6],by simp[h6'],fun i v' d' hv hd=>?_⟩
   cases i with
   | zero=>simp at hv hd;subst hv hd;exact h3
   | succ i=>exact h7 i v' d' (by simpa using hv) (by simpa using hd)
  ·cases hx

theorem qq (fn:Func)(tmps:Array Value){vs:List Value}(h:(fn.results.toList.mapM (lC tmps)).run P w=.ok vs w):(results fn tmps).run P w=.ok (if h:vs.length=1 then vs[0] else .tuple vs.toArray) w:=by
 have he:results fn tmps=(do let vs ←fn.results.mapM (lC tmps);pure (if h:vs.size=1 then vs[0] else .tuple vs)):=by
  unfold results
  congr 1
 rw[he,Array.mapM_eq_mapM_toList]
 simp only[Sem.run_bind,Sem.run_map,h,Result.andThen_ok,Sem.run_pure,List.size_toArray]
 congr 1

theorem Kf (h:cu w0 X w a σ env ρ){fn:Func}{x:E}{d:D}(hx:T5 P fn.results.toList σ=some x)(he:x.eval env=some d):∃v,(results fn a.tmps).run P w=.ok v w∧bU w (F0 ρ σ) v d:=by
 unfold T5 at hx
 split at hx
 ·rename_i r hr
  obtain⟨v,h1,h3⟩:=Gq h hx he
  refine⟨v,?_,h3⟩
  have:=qq (P:=P) (w:=w) fn a.tmps (vs:=[v]) (by rw[hr];simp only[List.mapM_cons,List.mapM_nil,Sem.run_bind,h1,Result.andThen_ok,Sem.run_pure])
  simpa using this
 ·rename_i hne
  obtain⟨vs,ds,h1,rfl,h3,h3',h4⟩:=Dr h hx he
  have:=qq (P:=P) (w:=w) fn a.tmps h1
  rw[dif_neg ?_] at this
  ·exact⟨_,this,.bh (by simpa using h3) fun i v d hv hd=>h4 i v d (by simpa using hv) hd⟩
  ·intro hl
   rw[hl] at h3'
   match tI:fn.results.toList,h3' with
   | [r],_=>exact hne r tI

end

def bR (P:Program)(fn:Func):List Bool:=(fn.params.toList.map fun t=>decide (lN P t=some false))++List.replicate fn.nfree true

def cM (fn:Func):Nat:=fn.params.size+fn.nfree

def jP:Nat→List Bool→List SV
 | _,[]=>[]
 | i,b :: r=>.e (.sym i) b :: jP (i+1) r

def cL (cf:cz)(n np:Nat)(bs:List Bool):af:={ tmps:=jP 0 bs++List.replicate (n-bs.length) .cE,mem:=List.replicate n none,hs:=some (.store cf (.sym np)) }

def nc (P:Program)(rs:List ResultVar)(σ:af):Option E:=
 match T5 P rs σ,σ.hs with
 | some x,some (.store _ h)=>some (.aa x (.aa h .ax))
 | _,_=>none

def kO (P:Program)(cf:cz)(fn:Func):Option T:=
 match fn.body with
 | none=>none
 | some c=>if fn.ntmps<cM fn∨bN<fn.ntmps then none else compile P (nc P fn.results.toList) c 0 (cM fn+1) (cL cf fn.ntmps (cM fn) (bR P fn)) [] fun _ _ σ=>(nc P fn.results.toList σ).map T.ret

def dZ:List Bool→List D→Bool
 | [],[]=>true
 | b :: r,d :: s=>(!b||d.one)&&dZ r s
 | _,_=>false

theorem gG:∀{bs:List Bool} {ds:List D},dZ bs ds=true→bs.length=ds.length∧∀(i:Nat) (b:Bool) (d:D),bs[i]? = some b→ds[i]? = some d→b=true→d.one=true
 | [],[],_=>⟨rfl,by simp⟩
 | [],_ :: _,h=>by simp[dZ] at h
 | _ :: _,[],h=>by simp[dZ] at h
 | b :: r,d :: s,h=>by
  simp only[dZ,Bool.and_eq_true,Bool.or_eq_true,Bool.not_eq_true'] at h
  obtain⟨h1,h2⟩:=gG h.2
  refine⟨by simp[h1],fun i b' d' hb hd ht=>?_⟩
  cases i with
  | zero=>simp at hb hd;subst hb hd;exact h.1.resolve_left (by simp[ht])
  | succ i=>exact h2 i b' d' (by simpa using hb) (by simpa using hd) ht

theorem qP:∀{bs:List Bool} {k i:Nat} {c:SV},(jP k bs)[i]? = some c→∃b,bs[i]? = some b∧c=.e (.sym (k+i)) b
 | [],_,_,_,h=>by simp[jP] at h
 | b :: r,k,0,c,h=>by simp[jP] at h;exact⟨b,rfl,h.symm⟩
 | b :: r,k,i+1,c,h=>by
  obtain⟨b',h1,h2⟩:=qP (bs:=r) (k:=k+1) (i:=i) (by simpa[jP] using h)
  exact⟨b',by simpa using h1,by rw[h2,show k+1+i=k+(i+1) from by omega]⟩

theorem eP:∀(bs:List Bool) (k:Nat),(jP k bs).length=bs.length
 | [],_=>rfl
 | _ :: r,k=>by simp[jP,eP r]

theorem KX {w w':World}{a:Act}{σ:af}{env:List D}{ρ:dJ}{S:Sets}{aJ may:Nat→Prop}{G7:List Deferred}{bs:List D}{cf:cz}{x:E}(h:cu w ⟨may,S,aJ,G7⟩ w' a σ env ρ)(hst:dF w' ρ.S ρ.aJ bs)(dN:σ.obj bN=some (.store cf x))(uX:∀b,may b→aJ b):Left w S aJ may w' (F0 ρ σ) ρ.aJ bs:=by
 have h0:=nW h hst ⟨cf,x,dN⟩ uX
 have wO:∀b off,ρ.aJ b→¬F0 ρ σ b off:=by
  intro b off W5 hs
  rcases hs with hs | ⟨o,x',sz,ho,hb⟩
  ·exact hst.Cw b off W5 hs
  ·have:=h.inj o bN _ _ b ho dN hb W5
   subst this
   rw[dN] at ho
   cases ho
 refine⟨?_,Sets.le_trans h.sub (ρ.S.rN _),h.os,h.tape,h.output,h.grown,h.old,h0.ft,fun b o hs=>?_,fun b o hs=>?_⟩
 ·refine⟨hst.n,fun i e sz cs hi=>?_,wO,fun i dL hi=>?_,hst.inj,fun i z hi hz=>?_⟩
  ·obtain⟨hf',us,g1,g2,g3,g4,g5,g6⟩:=hst.cells i e sz cs hi
   exact⟨hf',us,g1,g2,g3,g4,fun j u d hu hd=>(g5 j u d hu hd).fin,fun off=>wO _ off hf'⟩
  ·obtain⟨hf',es,clock,g1,g2,g3,g4⟩:=hst.maps i dL hi
   refine⟨hf',es,clock,g1,g2,fun off=>wO _ off hf',fun j e kv he hkv=>?_⟩
   obtain⟨dk,dv,g5,g6,g7⟩:=g4 j e kv he hkv
   exact⟨dk,dv,g5,g6.fin,g7.fin⟩
  ·obtain⟨hf',g1,_⟩:=hst.FJ i z hi hz
   exact⟨hf',g1,fun off=>wO _ off hf'⟩
 ·rcases hs with hs | ⟨o',x',sz,ho,rfl⟩
  ·exact h0.new b o hs
  ·rcases(h.own o' _ _ ho rfl).1 with g | g | g
   ·cases g.1
   ·exact .inr (.inr g)
   ·exact .inr (.inl g)
 ·rcases hs with hs | ⟨o',x',sz,ho,rfl⟩
  ·exact h.cells b o hs
  ·exact(h.own o' _ _ ho rfl).2

def JC (Qd:D→D→Prop)(Qp:D→D→Prop):iD→Prop
 | .ret (.bh [d,st])=>Qd d st
 | .fc d st _ _=>Qp d st
 | _=>False

theorem tD {P:Program} {cf:cz} {f:FuncId} {fn:Func} {t:T} {ds:List D} {bs:List D} {Qd Qp:D→D→Prop} (hf:P.funcs[f]? = some fn) (hc:kO P cf fn=some t) (hfit:dZ (bR P fn) ds=true) (fQ:den P t (ds++[.st bs]) (JC Qd Qp))
  {w:World} {S:Sets} {aJ may:Nat→Prop} {vs:Array Value} (hst:dF w S aJ bs) (dP:nJ w S aJ) (hfl:∀b,aJ b→b<w.heap.size) (hS:∀b o,S b o→b<w.heap.size) (hvl:vs.size=ds.length) (hrd:∀(i:Nat) (v:Value) (x:D),vs[i]? = some v→ds[i]? = some x→bU w S v x)
  (hmay:∀b,aJ b→cf.ro=true∨may b) (uX:∀b,may b→aJ b) :
  Calls P f vs w fun e w'=>∃(o:Out) (v:Value) (S':Sets) (bV:Nat→Prop) (bs':List D),(match o with | .ret d=>Qd d (.st bs') | .fc d=>Qp d (.st bs'))∧o.ends w' S' v e∧Left w S aJ may w' S' bV bs':=by
 obtain⟨q_,GS⟩:=gG hfit
 have BF:(bR P fn).length=cM fn:=by simp[bR,cM]
 unfold kO at hc
 split at hc
 ·cases hc
 ·rename_i c hbody
  split at hc
  ·cases hc
  ·rename_i hnt
   rw[not_or] at hnt
   refine(callsIn_wide (n:=0)).1 (callsIn_of_wp_marks (F:=Fence.wide) hf hbody trivial ?_)
   show c.wpIn (FW none) 0 P _ _ _
   have bn:cu w ⟨may,S,aJ,[]⟩ w { tmps:=vs++Array.replicate (fn.ntmps-vs.size) undef,defers:=[] } (cL cf fn.ntmps (cM fn) (bR P fn)) (ds++[.st bs]) { aE:=fun _=>0,val:=fun _=>undef,S:=S,aJ:=aJ }:=by
    have fP:∀o x,(cL cf fn.ntmps (cM fn) (bR P fn)).obj o=some x→o=bN∧x=.store cf (.sym (cM fn)):=by
     intro o x hx
     simp only[af.dV,cL,List.getD_eq_getElem?_getD,List.getElem?_replicate] at hx
     split at hx
     ·cases hx;exact⟨by assumption,rfl⟩
     ·split at hx <;> simp at hx
    refine⟨by simp[cL,eP,hvl,q_],fun t=>?_,fun o x hx=>?_,fun o o' x x' b hx hx' _ _=>?_,fun o x b hx hb=>?_,hS,rfl,.refl _,rfl,Nat.le_refl _,fun _ _ _=>rfl,Sets.le_refl _,fun _ _ h=>.inl h,rfl,fun l rec hl=>⟨(dP l rec hl).1,fun hm=>(dP l rec hl).2 (uX l hm),(dP l rec hl).2⟩⟩
    ·simp only[af.gw,cL,List.getD_eq_getElem?_getD]
     rcases Nat.lt_or_ge t (bR P fn).length with ht | ht
     ·rw[List.getElem?_append_left (by rw[eP];exact ht)]
      cases hs:(jP 0 (bR P fn))[t]? with
      | none=>exact .cE
      | some c=>
       obtain⟨b,hb,rfl⟩:=qP hs
       have UU:t<ds.length:=by omega
       have htv:t<vs.size:=by omega
       simp only[Option.getD_some,Nat.zero_add]
       have hval:(vs++Array.replicate (fn.ntmps-vs.size) undef).getD t undef=vs[t]:=by
        rw[Array.getD_eq_getD_getElem?,Array.getElem?_append_left htv,Array.getElem?_eq_getElem htv]
        rfl
       rw[hval]
       exact .e (d:=ds[t]) (by simp[E.eval,List.getElem?_append_left UU,UU]) (hrd t _ _ (Array.getElem?_eq_getElem htv) (List.getElem?_eq_getElem UU)) fun Yu=>GS t b _ hb (List.getElem?_eq_getElem UU) Yu
     ·rw[List.getElem?_append_right (by rw[eP];exact ht),List.getElem?_replicate]
      split <;> exact .cE
    ·obtain⟨rfl,rfl⟩:=fP o x hx
     refine⟨bs,?_,hst,rfl⟩
     simp only[E.eval]
     rw[List.getElem?_append_right (by omega)]
     simp[show cM fn-ds.length=0 from by omega]
    ·obtain⟨rfl,_⟩:=fP o x hx
     obtain⟨rfl,_⟩:=fP o' x' hx'
     rfl
    ·obtain⟨rfl,rfl⟩:=fP o x hx
     exact⟨(hmay b hb).imp (fun e=>⟨e,hb⟩) .inr,hfl b hb⟩
   have hmk:∀{w1 w':World} {X1:kG} {a':Act} {σ:af} {env:List D} {ρ:dJ} {u:FrameMode} {R:Ending→World→Prop},u≠.run→Ext w ⟨may,S,aJ,[]⟩ w1 X1→cu w1 X1 w' a' σ env ρ→(∀w2,cu w ⟨may,S,aJ,X1.G7⟩ w2 a' σ env ρ→(∀b o,w2.cell? ⟨b,o,none⟩=w'.cell? ⟨b,o,none⟩)→(∀o x b,σ.obj o=some x→bY ρ o x b→w2.heap[b]? = w'.heap[b]?)→LeavesIn Fence.wide 0 P fn a'.tmps R [] u w2)→LeavesInM Fence.wide 0 P fn a'.tmps R a'.defers u w':=by
    intro w1 w' X1 a' σ env ρ u R hu hx hr h
    obtain⟨cs,h1,h2,h3⟩:=hx.G7
    have h0:=hx.rep hr bn.hold
    rw[hr.zT,h1,List.append_nil]
    refine yW hu cs w' h2 (fun D hD=>?_) fun w2 hm=>h w2 (cu.marked hr h0 (fun D hD=>?_) hm) hm.cell fun o x b hx hb=>hm.other b fun hD=>?_
    ·obtain⟨g1,g2,g3,g4⟩:=h3 D hD
     exact(hr.old D (Array.getElem?_eq_some_iff.1 g1).1 g2).trans g1
    ·obtain⟨g1,g2,g3,g4⟩:=h3 D hD
     exact⟨(Array.getElem?_eq_some_iff.1 g1).1,g2,g3,g4⟩
    ·obtain⟨g1,g2,g3,g4⟩:=h3 b hD
     have:=(Array.getElem?_eq_some_iff.1 g1).1
     rcases(hr.own o x b hx hb).1 with g | g | g
     ·exact g3 g.2
     ·omega
     ·exact g2 g
   obtain⟨R,hR⟩:∃R:Ending→World→Prop,R=fun e w'=>∃(o:Out) (v:Value) (S':Sets) (bV:Nat→Prop) (bs':List D),(match o with | .ret d=>Qd d (.st bs') | .fc d=>Qp d (.st bs'))∧o.ends w' S' v e∧Left w S aJ may w' S' bV bs':=⟨_,rfl⟩
   rw[←hR]
   have hend:∀(w1:World) (X1:kG) (σ:af) (x:E) (env:List D) (ρ:dJ) (a':Act) (w':World) (d':D),Ext w ⟨may,S,aJ,[]⟩ w1 X1→nc P fn.results.toList σ=some x→cu w1 X1 w' a' σ env ρ→x.eval env=some d' →
     ∃d0 bs',d'=.bh [d0,.st bs']∧(Qd d0 (.st bs')→LeavesInM Fence.wide 0 P fn a'.tmps R a'.defers .returning w'):=by
    intro w1 X1 σ x env ρ a' w' d' Od hx hr he
    unfold nc at hx
    split at hx
    ·rename_i y Qdy hh hy sA
     cases hx
     have dN:σ.obj bN=some (.store Qdy hh):=by rw[af.dV,if_pos rfl];exact sA
     obtain⟨bs',tM,_,_⟩:=hr.dO _ _ dN
     simp only[E.eval,tM,Option.bind_some,D.aa,Option.bind_eq_some_iff] at he
     obtain⟨d2,h2,he⟩:=he
     cases he
     refine⟨d2,bs',rfl,fun hq=>hmk (by simp) Od hr fun w2 CD _ _=>?_⟩
     obtain⟨lg,tK,uU,_⟩:=CD.dO _ _ dN
     rw[tM] at tK
     cases tK
     obtain⟨v,h1,h3⟩:=Kf CD hy h2
     refine⟨v,h1,?_⟩
     rw[hR]
     exact⟨.ret d2,v,F0 ρ σ,ρ.aJ,bs',hq,⟨rfl,h3⟩,KX CD uU dN uX⟩
    ·cases hx
   have Qsx:o6 fn.ntmps (cL cf fn.ntmps (cM fn) (bR P fn)):=⟨by simp[cL,eP,BF];omega,by simp[cL]⟩
   have hs:=nN (P:=P) (N:=fn.ntmps) c (B:=fun w1 X1=>Ext w ⟨may,S,aJ,[]⟩ w1 X1) (iS:=fun w' a' d'=>∃d0 bs',d'=.bh [d0,.st bs']∧(Qd d0 (.st bs')→LeavesInM Fence.wide 0 P fn a'.tmps R a'.defers .returning w')) (rd:=none) (nd:=0)
    (rv:=nc P fn.results.toList) (fun w1 X1 hB σ x hx env ρ a w' d hr he=>hend w1 X1 σ x env ρ a w' d hB hx hr he) (fun l e=>by cases e) (.inr (.inr fun _ _ _ _ h k=>h.trans k)) 0 _ [] _ t (ds++[.st bs]) (by rw[List.length_append,←q_,BF];exact hc) _ _ w w ⟨may,S,aJ,[]⟩ _ (Ext.refl _ _) fQ bn Qsx (fun id e he=>by simp[lK] at he)
   refine wpIn_mono hs fun e a' w' h=>?_
   cases e with
   | normal=>
    obtain⟨w1,X1,env',σ',ρ',t',Od,_,hk,fz,hr',_⟩:=h
    obtain⟨x,hx,rfl⟩:=Option.map_eq_some_iff.1 hk
    obtain⟨d',he,hq⟩:=fz
    obtain⟨d0,bs',rfl,h3⟩:=hend w1 X1 σ' x env' ρ' a' w' d' Od hx hr' he
    exact h3 hq
   | ret=>
    obtain⟨d',hq,d0,bs',rfl,h3⟩:=h
    exact h3 hq
   | exit id=>obtain⟨_,_,e,_,_,_,he,_⟩:=h;simp[lK] at he
   | goto l=>exact h.elim
   | panic c=>
    obtain⟨w1,X1,σ,env,ρ,v,d,bs',Od,rfl,hr,hrd,fp,Ce,_,_,hq⟩:=h
    refine hmk (by simp) Od hr fun w2 CD hcell Qhv=>?_
    show R _ w2
    rw[hR]
    obtain⟨Qdy,hh,dN⟩:=Ce
    have hk:bW ρ.S w' w2:=fun b o _=>hcell b o
    have uU:dF w2 ρ.S ρ.aJ bs':=fp.to ⟨fun _ _ h=>h,rfl,fun _=>rfl,fun _=>rfl,fun _=>rfl⟩ (fun _ _ h=>h) (fun b hb=>Qhv bN _ b dN hb) fun v d i x _ _ h=>h.keep hk (Sets.le_refl _)
    exact⟨.fc d,v,ρ.S,ρ.aJ,bs',hq,⟨rfl,hrd.keep hk (Sets.le_refl _)⟩,nW CD uU ⟨Qdy,hh,dN⟩ uX⟩
   | outgrown=>exact h.elim

def tG (o:Out)(st:D):iD→Prop:=
 match o with
 | .ret d=>fun s=>s=.ret (.bh [d,st])
 | .fc d=>fun s=>∃sl kd,s=.fc d st sl kd

theorem tG.as {o:Out}{st:D}{s:iD}(h:tG o st s):JC (fun d gO=>o=.ret d∧gO=st) (fun d gO=>o=.fc d∧gO=st) s:=by
 cases o with
 | ret d=>cases h;exact⟨rfl,rfl⟩
 | fc d=>obtain⟨_,_,rfl⟩:=h;exact⟨rfl,rfl⟩

theorem Oq {P:Program}{cf:cz}{f:FuncId}{fn:Func}{t:T}{ds:List D}{bs:List D}{o:Out}(hro:cf.ro=true)(hf:P.funcs[f]? = some fn)(hc:kO P cf fn=some t)(hfit:dZ (bR P fn) ds=true)(fQ:den P t (ds++[.st bs]) (tG o (.st bs))) :
  k8 P f (.st bs) ds o:=by
 intro w S aJ rp vs hb hst dP hfl hS hvl hrd
 cases hb
 refine(tD (may:=fun _=>False) hf hc hfit (dI (fun s hs=>hs.as) fQ) hst dP hfl hS hvl hrd (fun _ _=>.inl hro) fun _ hf=>hf.elim).mono ?_
 rintro e w' ⟨o',v,S',bV,bs',hq,gj,hl⟩
 have:o'=o∧bs'=bs:=by cases o' <;> (obtain⟨rfl,h2⟩:=hq;cases h2;exact⟨rfl,rfl⟩)
 obtain⟨rfl,rfl⟩:=this
 exact⟨v,S',gj,⟨⟨hl.os,hl.tape.tape,hl.output,hl.size,fun b hb=>hl.old b hb fun hf=>hf⟩,hl.tape.dr⟩,hl.le,by rw[hl.st.n,hst.n],fun b o hs=>(hl.new b o hs).imp_right fun g=>g.resolve_left fun hf=>hf,hl.lt⟩

theorem CI {P:Program}{cf:cz}{f:FuncId}{fn:Func}{t:T}{ds:List D}{bs bs':List D}{o:Out}(hf:P.funcs[f]? = some fn)(hc:kO P cf fn=some t)(hfit:dZ (bR P fn) ds=true)(fQ:den P t (ds++[.st bs]) (tG o (.st bs'))) :
  eN P f (.st bs) ds o (.st bs'):=by
 intro w S aJ rp vs hb hst dP hfl hS hvl hrd
 cases hb
 refine(tD (may:=aJ) hf hc hfit (dI (fun s hs=>hs.as) fQ) hst dP hfl hS hvl hrd (fun _ h=>.inr h) fun _ h=>h).mono ?_
 rintro e w' ⟨o',v,S',bV,Wz,hq,gj,hl⟩
 have:o'=o∧Wz=bs':=by cases o' <;> (obtain⟨rfl,h2⟩:=hq;cases h2;exact⟨rfl,rfl⟩)
 obtain⟨rfl,rfl⟩:=this
 exact⟨v,S',bV,_,gj,rfl,hl.st,fun b o hs=>World.cell?_of_block (a:=⟨b,o,none⟩) (hl.old b (hS b o hs) fun hf=>hst.Cw b o hf hs),hl.le,hl.os,hl.tape,hl.output,hl.size,hl.old,hl.ft,hl.new,hl.lt⟩

end
end

section
noncomputable section

def qF:Code→List Oper
 | .region _ ops _=>ops.toList
 | .seq a b | .cond _ a b=>qF a++qF b
 | .block _ b | .loop b | .scope b=>qF b
 | .rangeFunc _ _ a b=>qF a++qF b
 | _=>[]

def tmpsOf (xs:List Operand):List Nat:=xs.filterMap fun | .tmp t=>some t | _=>none

def captured (os:List Oper):List Nat:=os.flatMap fun o=>match o.op with
 | .makeFunc _ _ cs=>tmpsOf cs.toList
 | _=>[]

def TD (os:List Oper):List Nat:=os.flatMap fun o=>match o.op with
 | .store _ (.tmp t) _=>[t]
 | _=>[]

def boxed (os:List Oper):List Nat:=os.filterMap fun o=>match o.op with
 | .box _ _=>o.dst
 | _=>none

def YU (os:List Oper):List Nat:=os.filterMap fun o=>match o.op with
 | .alloc _=>o.dst
 | _=>none

def handed (os:List Oper):List Nat:=os.flatMap fun o=>match o.op with
 | .call c=>tmpsOf c.args.toList
 | _=>[]

def yC:Code→List Oper
 | .seq a b | .cond _ a b=>yC a++yC b
 | .block _ b | .loop b | .scope b=>yC b
 | .rangeFunc _ _ a b=>qF a++qF b
 | _=>[]

def Js (ro:Bool)(wr fc more:List Nat)(Ot:List (Nat×Nat))(fn:Func):cz:=
  let os:=match fn.body with | some c=>qF c | none=>[]
  let cap:=captured os++(match fn.body with | some c=>(yC c).flatMap (fun o=>tmpsOf o.op.operands.toList) | none=>[])
  let st:=TD os
  { ro:=ro,wr:=wr,fc:=fc,Ot:=Ot,
    ab7:=(boxed os).filter fun d=>cap.contains d&&!st.contains d&&!more.contains d,
    Ca:=((boxed os).filter fun d=>cap.contains d&&st.contains d)++((YU os).filter fun d=>(cap.contains d||(handed os).contains d)&&!(Ot.map (·.2)).contains d)++more }

end
end

section
noncomputable section

def Out.iw:Out→Bool
 | .ret d | .fc d=>d.iw

theorem eN.Uv {P:Program}{f:FuncId}{ds:List D}{o:Out}{h':D}(h:eN P f (.st []) ds o h')(hds:eG ds=true)(ho:o.iw=true)(bs:List D):k8 P f (.st bs) ds o:=by
 intro w S aJ rp vs hb hst dP hfl hS hvl hrd
 let S0:Sets:={ mem:=S.mem,loc:=fun _=>0,n:=0,cap:=fun _=>0 }
 have IL:dF w S0 (fun _=>False) []:=⟨rfl,fun i e sz cs hi=>by simp at hi,fun b off hf=>hf.elim,fun i dL hi=>by simp at hi,fun i j x y hi=>by simp at hi,fun i z hi=>by simp at hi⟩
 refine(h w S0 (fun _=>False) [] vs rfl IL (fun l rec hl=>by cases hl) (fun _ hf=>hf.elim) hS hvl fun i v x hv hx=>(hrd i v x hv hx).free (fun _ _ h=>h) (ji hds hx)).mono ?_
 rintro e w' ⟨v,S',bV,bs',gj,_,_,hK,hle,hos,BD,hout,hsz,hold,hft,hnew,hlt⟩
 refine⟨v,{ S with mem:=S'.mem },?_,⟨⟨hos,BD.tape,hout,hsz,fun b hb=>hold b hb fun hf=>hf⟩,BD.dr⟩,⟨hle.mem,Nat.le_refl _,fun _ _=>rfl,fun _ _=>rfl,rfl,fun _ _=>rfl⟩,rfl,fun b o hs=>?_,hlt⟩
 ·cases o with
  | ret d=>exact⟨gj.1,gj.2.free (fun _ _ h=>h) ho⟩
  | fc d=>exact⟨gj.1,gj.2.free (fun _ _ h=>h) ho⟩
 ·rcases hnew b o hs with g | g | g
  ·exact .inl g
  ·exact g.elim
  ·exact .inr g

end
end

section
noncomputable section

def xa (m:Option D):D:=match m with | none=>.v .nilIface | some d=>d

def Kj:Code→Option (Nat×Nat×Code)
 | .seq (.region _ ops false) rest=>match ops.toList with
  | [o0,o1]=>(match o0.op,o0.guard,o0.dst,o1.op,o1.guard,o1.dst with
   | .call { callee:=.builtin .recover,args:=_,argTypes:=_ },none,some d,.assign (.tmp t),none,some d'=>if t=d then some (d,d',rest) else none
   | _,_,_,_,_,_=>none)
  | _=>none
 | _=>none

def r_ (P:Program)(cf:cz)(fn:Func):Option T:=
 match fn.body with
 | none=>none
 | some c=>match Kj c with
  | none=>none
  | some (d,d',rest)=>if gN rest=false then none else if fn.ntmps<cM fn∨bN<fn.ntmps∨fn.ntmps≤d∨fn.ntmps≤d' then none else
   compile P (nc P fn.results.toList) rest 0 (cM fn+2) (((cL cf fn.ntmps (cM fn) (bR P fn)).put (some d) (.e (.sym (cM fn+1)) true)).put (some d') (.e (.sym (cM fn+1)) true)) [] fun _ _ σ=>(nc P fn.results.toList σ).map T.ret

section
variable {P:Program}

theorem Ge {cf:cz} {fn:Func} {ds bs:List D} {w:World} {S:Sets} {aJ may:Nat→Prop} {vs:Array Value} (hfit:dZ (bR P fn) ds=true) (hst:dF w S aJ bs) (dP:nJ w S aJ) (uX:∀b,may b→aJ b) (hfl:∀b,aJ b→b<w.heap.size) (hS:∀b o,S b o→b<w.heap.size) (hvl:vs.size=ds.length) (hrd:∀(i:Nat) (v:Value) (x:D),vs[i]? = some v→ds[i]? = some x→bU w S v x)
  (hmay:∀b,aJ b→cf.ro=true∨may b) :
  cu w ⟨may,S,aJ,[]⟩ w { tmps:=vs++Array.replicate (fn.ntmps-vs.size) undef,defers:=[] } (cL cf fn.ntmps (cM fn) (bR P fn)) (ds++[.st bs]) { aE:=fun _=>0,val:=fun _=>undef,S:=S,aJ:=aJ }:=by
 obtain⟨q_,GS⟩:=gG hfit
 have BF:(bR P fn).length=cM fn:=by simp[bR,cM]
 have fP:∀o x,(cL cf fn.ntmps (cM fn) (bR P fn)).obj o=some x→o=bN∧x=.store cf (.sym (cM fn)):=by
  intro o x hx
  simp only[af.dV,cL,List.getD_eq_getElem?_getD,List.getElem?_replicate] at hx
  split at hx
  ·cases hx;exact⟨by assumption,rfl⟩
  ·split at hx <;> simp at hx
 refine⟨by simp[cL,eP,hvl,q_],fun t=>?_,fun o x hx=>?_,fun o o' x x' b hx hx' _ _=>?_,fun o x b hx hb=>?_,hS,rfl,.refl _,rfl,Nat.le_refl _,fun _ _ _=>rfl,Sets.le_refl _,fun _ _ h=>.inl h,rfl,fun l rec hl=>⟨(dP l rec hl).1,fun hm=>(dP l rec hl).2 (uX l hm),(dP l rec hl).2⟩⟩
 ·simp only[af.gw,cL,List.getD_eq_getElem?_getD]
  rcases Nat.lt_or_ge t (bR P fn).length with ht | ht
  ·rw[List.getElem?_append_left (by rw[eP];exact ht)]
   cases hs:(jP 0 (bR P fn))[t]? with
   | none=>exact .cE
   | some c=>
    obtain⟨b,hb,rfl⟩:=qP hs
    have UU:t<ds.length:=by omega
    have htv:t<vs.size:=by omega
    simp only[Option.getD_some,Nat.zero_add]
    have hval:(vs++Array.replicate (fn.ntmps-vs.size) undef).getD t undef=vs[t]:=by
     rw[Array.getD_eq_getD_getElem?,Array.getElem?_append_left htv,Array.getElem?_eq_getElem htv]
     rfl
    rw[hval]
    exact .e (d:=ds[t]) (by simp[E.eval,List.getElem?_append_left UU,UU]) (hrd t _ _ (Array.getElem?_eq_getElem htv) (List.getElem?_eq_getElem UU)) fun Yu=>GS t b _ hb (List.getElem?_eq_getElem UU) Yu
  ·rw[List.getElem?_append_right (by rw[eP];exact ht),List.getElem?_replicate]
   split <;> exact .cE
 ·obtain⟨rfl,rfl⟩:=fP o x hx
  refine⟨bs,?_,hst,rfl⟩
  simp only[E.eval]
  rw[List.getElem?_append_right (by omega)]
  simp[show cM fn-ds.length=0 from by omega]
 ·obtain⟨rfl,_⟩:=fP o x hx
  obtain⟨rfl,_⟩:=fP o' x' hx'
  rfl
 ·obtain⟨rfl,rfl⟩:=fP o x hx
  exact⟨(hmay b hb).imp (fun e=>⟨e,hb⟩) .inr,hfl b hb⟩

theorem HR {fn:Func}{w:World}{S:Sets}{aJ may:Nat→Prop}{σ:af}{x:E}{env:List D}{ρ:dJ}{a':Act}{w':World}{d':D}(uX:∀b,may b→aJ b)(hx:nc P fn.results.toList σ=some x)(hr:cu w ⟨may,S,aJ,[]⟩ w' a' σ env ρ)(he:x.eval env=some d') :
  a'.defers=[]∧∃(v:Value) (d0:D) (bs':List D) (S':Sets) (bV:Nat→Prop),(results fn a'.tmps).run P w'=.ok v w'∧d'=.bh [d0,.st bs']∧bU w' S' v d0∧Left w S aJ may w' S' bV bs':=by
 unfold nc at hx
 split at hx
 ·rename_i y Qdy hh hy sA
  cases hx
  have dN:σ.obj bN=some (.store Qdy hh):=by rw[af.dV,if_pos rfl];exact sA
  obtain⟨bs',tM,fp,_⟩:=hr.dO _ _ dN
  simp only[E.eval,tM,Option.bind_some,D.aa,Option.bind_eq_some_iff] at he
  obtain⟨d2,h2,he⟩:=he
  obtain⟨v,h1,h3⟩:=Kf hr hy h2
  cases he
  exact⟨hr.zT,v,d2,bs',F0 ρ σ,ρ.aJ,h1,rfl,h3,KX hr fp dN uX⟩
 ·cases hx

theorem VR {cf:cz}{f:FuncId}{fn:Func}{t:T}{cs:List D}{bs bs':List D}{m:Option D}{d0:D}(hf:P.funcs[f]? = some fn)(hc:r_ P cf fn=some t)(hfit:dZ (bR P fn) cs=true)(hm:(xa m).one=true)(fQ:den P t (cs++[.st bs,xa m]) fun s=>s=.ret (.bh [d0,.st bs'])) :
  A9 P f (.st bs) cs m (.st bs'):=by
 intro w S aJ rp vs u hb hst dP hfl hS hvl hrd hu
 cases hb
 unfold r_ at hc
 split at hc
 ·cases hc
 rename_i c hbody
 split at hc
 ·cases hc
 rename_i d d' rest hsplit
 split at hc
 ·cases hc
 rename_i Ll
 have Ll:gN rest=true:=by simpa using Ll
 split at hc
 ·cases hc
 rename_i hnt
 rw[not_or,not_or,not_or] at hnt
 obtain⟨hn1,hn2,Vb,hn4⟩:=hnt
 obtain⟨q_,GS⟩:=gG hfit
 have BF:(bR P fn).length=cM fn:=by simp[bR,cM]
 obtain⟨id,ops,o0,o1,as,ts,rfl,U8,ZH,h01,h02,h10,h11,h12⟩:∃id ops o0 o1 as ts,c=.seq (.region id ops false) rest∧ops.toList=[o0,o1]∧o0.op=.call { callee:=.builtin .recover,args:=as,argTypes:=ts }∧o0.guard=none∧o0.dst=some d∧o1.op=.assign (.tmp d)∧o1.guard=none∧o1.dst=some d':=by
  unfold Kj at hsplit
  split at hsplit
  ·rename_i id ops rest'
   split at hsplit
   ·rename_i o0 o1 U8
    split at hsplit
    ·rename_i as ts d1 t1 d2 g1 g2 g3 g4 g5 g6
     split at hsplit
     ·rename_i UU
      cases hsplit
      exact⟨id,ops,o0,o1,as,ts,rfl,U8,g1,g2,g3,by rw[g4,UU],g5,g6⟩
     ·cases hsplit
    ·cases hsplit
   ·cases hsplit
  ·cases hsplit
 have hoa:ops=#[o0,o1]:=by rw[←Array.toArray_toList (xs:=ops),U8]
 subst hoa
 have hstart:=Ge (may:=aJ) (cf:=cf) hfit hst dP (fun _ h=>h) hfl hS hvl hrd fun _ h=>.inr h
 have Vq:cs++[.st bs,xa m]=(cs++[.st bs])++[xa m]:=by simp
 have gp:∃v u',bU w S v (xa m)∧settle u'=.returning∧∀(c₀:Frame) (fs:List Frame),c₀.mode=u→(match recoverD (c₀ :: fs) with | some (v',cs')=>v'=v∧cs'={ c₀ with mode:=u' } :: fs | none=>v=.nilIface∧u'=u):=by
  cases m with
  | none=>
   refine⟨.nilIface,u,.v rfl,?_,fun c₀ fs hm=>?_⟩
   ·have hu:u=.returning:=hu
    rw[hu];rfl
   ·have hu:u=.returning:=hu
    subst hu
    simp[recoverD,hm]
  | some d=>
   obtain⟨v,hv,hu⟩:=hu
   refine⟨v,.panicking [{ v,recovered:=true }],hv,rfl,fun c₀ fs hm=>?_⟩
   subst hu
   simp[recoverD,hm]
 obtain⟨v,u',hv,Yc,gp⟩:=gp
 refine callsD_of_wpS hf hbody fun c₀ fs Zt=>?_
 have hlen:(cL cf fn.ntmps (cM fn) (bR P fn)).tmps.length=fn.ntmps:=by simp[cL,eP,BF];omega
 have Zn:=hstart.env (prefix_append _ [xa m])
 rw[←Vq] at Zn
 have Qh:∀{ρ:dJ},bU w ρ.S v (xa m)→ef w ρ (cs++[.st bs,xa m]) v (.e (.sym (cM fn+1)) true):=by
  intro ρ Cd
  refine .e (d:=xa m) ?_ Cd fun _=>hm
  simp only[E.eval]
  rw[List.getElem?_append_right (by omega)]
  simp[show cM fn+1-cs.length=1 from by omega]
 have Lh:=(Zn.put (dst:=some d) (v:=v) (fun d2 e=>by cases e;rw[hlen];exact Nat.lt_of_not_le Vb) (Qh hv)).put (dst:=some d') (v:=v) (fun d2 e=>by cases e;simp only[af.fM,List.length_set];rw[hlen];exact Nat.lt_of_not_le hn4) (Qh hv)
 have Qsx:o6 fn.ntmps (((cL cf fn.ntmps (cM fn) (bR P fn)).put (some d) (.e (.sym (cM fn+1)) true)).put (some d') (.e (.sym (cM fn+1)) true)):=⟨by simp[af.fM,hlen],by simp[af.fM,cL]⟩
 have Eo:=nN (P:=P) (N:=fn.ntmps) rest (B:=fun w1 X1=>w1=w∧X1=⟨aJ,S,aJ,[]⟩) (rd:=none) (nd:=0) (iS:=fun w' a' d'=>a'.defers=[]∧∃(v:Value) (d0:D) (bs':List D) (S':Sets) (bV:Nat→Prop),(results fn a'.tmps).run P w'=.ok v w'∧d'=.bh [d0,.st bs']∧bU w' S' v d0∧Left w S aJ aJ w' S' bV bs')
  (rv:=nc P fn.results.toList) (fun w1 X1 hB σ x hx env ρ a' w' d' hr he=>by obtain⟨rfl,rfl⟩:=hB;exact HR (fun _ h=>h) hx hr he) (fun l e=>by cases e) (.inl Ll) 0 _ [] _ t (cs++[.st bs,xa m]) (by rw[show(cs++[D.st bs,xa m]).length=cM fn+2 from by simp;omega];exact hc) _ _ w w _ _ ⟨rfl,rfl⟩ fQ Lh Qsx (fun id e he=>by simp[lK] at he)
 have Eo:=wpIn_wide.1 Eo
 have RY:∀(d1:D),(.ret d1:iD)=.ret (.bh [d0,.st bs'])→∀(w':World) (a':Act),(a'.defers=[]∧∃(v:Value) (d0:D) (bs':List D) (S':Sets) (bV:Nat→Prop),(results fn a'.tmps).run P w'=.ok v w'∧d1=.bh [d0,.st bs']∧bU w' S' v d0∧Left w S aJ aJ w' S' bV bs') →
   a'.defers=[]∧∃u'',{ c₀ with mode:=u' } :: fs={ c₀ with mode:=u'' } :: fs∧∃v,(results fn a'.tmps).run P w'=.ok v w'∧∃(v1:Value) (S':Sets) (bV:Nat→Prop) (ia:List D),Ending.returned v=.returned v1∧settle u''=.returning∧D.st bs'=.st ia∧Left w S aJ aJ w' S' bV ia:=by
  rintro d1 h1 w' a' ⟨g1,v2,d2,lg,S',bV,g2,rfl,g3,g4⟩
  cases h1
  exact⟨g1,u',rfl,v2,g2,v2,S',bV,bs',rfl,Yc,rfl,g4⟩
 refine wpS_seq (wpS_region ?_)
 rw[show List.range (#[o0,o1]:Array Oper).size=[0,1] from rfl]
 have hw0:∀tm,Region.wanted o0 tm=true:=fun tm=>by simp[Region.wanted,h01]
 have hw1:∀tm,Region.wanted o1 tm=true:=fun tm=>by simp[Region.wanted,h11]
 have U6:∀a:Act,(execOp a.eval o0).run P w=.ok .recover w:=by
  intro a
  unfold execOp
  rw[ZH]
  rfl
 have Li:∀a:Act,(execOp a.eval o1).run P w=.ok (.value (a.eval (.tmp d))) w:=by
  intro a
  unfold execOp
  rw[h10]
  rfl
 have Qm:∀cs',cs'=({ c₀ with mode:=u' }:Frame) :: fs→wpOpsS P #[o0,o1] (Exit.thenS (rest.wpS P (bodyPostS P fn c₀ fs fun e u' w'=>∃(v:Value) (S':Sets) (bV:Nat→Prop) (ia:List D),e=.returned v∧settle u'=.returning∧D.st bs'=.st ia∧Left w S aJ aJ w' S' bV ia)) (bodyPostS P fn c₀ fs fun e u' w'=>∃(v:Value) (S':Sets) (bV:Nat→Prop) (ia:List D),e=.returned v∧settle u'=.returning∧D.st bs'=.st ia∧Left w S aJ aJ w' S' bV ia)) [1] (({ tmps:=vs++Array.replicate (fn.ntmps-vs.size) undef,defers:=[] }:Act).put o0.dst v) cs' w:=by
  rintro cs' rfl
  simp only[wpOpsS,show(#[o0,o1]:Array Oper)[1]? = some o1 from rfl,hw1,if_true,Li,Oper.upon_value]
  have cV:(({ tmps:=vs++Array.replicate (fn.ntmps-vs.size) undef,defers:=[] }:Act).put o0.dst v).eval (.tmp d)=v:=by
   rw[h02]
   show(({ tmps:=vs++Array.replicate (fn.ntmps-vs.size) undef,defers:=[] }:Act).put (some d) v).tmps.getD d undef=v
   rw[Act.zh _ _ _ (by simp;omega),if_pos rfl]
  rw[cV,h02,h12]
  refine wpS_of_wp (wp_mono Eo fun e a' w' h=>?_)
  cases e with
  | normal=>
   obtain⟨w1,X1,env',σ',ρ',t',⟨hw1,hX1⟩,_,hk,fz,hr',_⟩:=h
   rw[hw1,hX1] at hr'
   obtain⟨x,hx,rfl⟩:=Option.map_eq_some_iff.1 hk
   obtain⟨d1,he,hq⟩:=fz
   exact RY d1 hq w' a' (HR (fun _ h=>h) hx hr' he)
  | ret=>
   obtain⟨d1,hq,h1⟩:=h
   exact RY d1 hq w' a' h1
  | exit id=>obtain⟨_,_,e,_,_,_,he,_⟩:=h;simp[lK] at he
  | goto l=>exact h.elim
  | panic c=>
   obtain⟨_,_,σ,env,ρ,v,d,bs',_,rfl,hr,hrd,fp,Ce,_,_,hq⟩:=h
   cases hq
  | outgrown=>exact h.elim
 rw[wpOpsS]
 simp only[show(#[o0,o1]:Array Oper)[0]? = some o0 from rfl,hw0,if_true,U6]
 have gp:=gp c₀ fs Zt
 split
 ·rename_i v' cs' aa7
  rw[aa7] at gp
  obtain⟨rfl,rfl⟩:=gp
  exact Qm _ rfl
 ·rename_i aa7
  rw[aa7] at gp
  obtain⟨rfl,qc⟩:=gp
  exact Qm (c₀ :: fs) (by rw[qc,←Zt])

end
end
end

section
noncomputable section

/-! ## a frame leaves with marks of loops ahead of what it has deferred -/

def Qhw (P:Program)(fn:Func)(tmps:Array Value)(R:Ending→World→Prop):List Deferred→FrameMode→World→Prop
 | [],u,w=>Leaves P fn tmps R [] u w
 | d :: ds,u,w=>Leaves P fn tmps R (d :: ds) u w∨(u≠.run∧∃r w',d.target=.collected r∧(Instr.takeDeferred r).run P w=.ok [] w'∧Qhw P fn tmps R ds u w')

theorem Qhw.of {P:Program}{fn:Func}{tmps:Array Value}{R:Ending→World→Prop}{ds:List Deferred}{u:FrameMode}{w:World}(h:Leaves P fn tmps R ds u w):Qhw P fn tmps R ds u w:=by
 cases ds with
 | nil=>exact h
 | cons d ds=>exact .inl h

theorem Qlx {P:Program}{fn:Func}{tmps:Array Value}{R:Ending→World→Prop}:∀(ds:List Deferred) (u:FrameMode) (w:World) (fr:Frame) (cs:List Frame),fr.mode=u→fr.defers=ds→fr.tmps=tmps→P.funcs[fr.fn]? = some fn→fr.kind=.normal →
  Qhw P fn tmps R ds u w→∃e w' fr',R e w'∧Comes P (lone fr cs w) (lone fr' cs w') e∧fr'.fn=fr.fn∧fr'.leaving P w' e
 | [],u,w,fr,cs,h1,h2,h3,h4,h5,h=>leaves_steps [] u w fr cs h1 h2 h3 h4 h5 h
 | d :: ds,u,w,fr,cs,h1,h2,h3,h4,h5,.inl h=>leaves_steps (d :: ds) u w fr cs h1 h2 h3 h4 h5 h
 | d :: ds,u,w,fr,cs,h1,h2,h3,h4,h5,.inr ⟨hu,r,w',ay8,Ek,avY⟩=>by
  have hs:=step_collected (cs:=cs) (h1 ▸ hu) h2 ay8 Ek
  obtain⟨e,w2,fr2,g1,g2,g3,g4⟩:=Qlx ds u w' { fr with defers:=[]++ds } cs h1 rfl h3 h4 h5 avY
  exact⟨e,w2,fr2,g1,Comes.of_steps (.one hs) g2,g3,g4⟩

def aij (P:Program)(fn:Func)(R:Ending→World→Prop):Exit→Act→World→Prop
 | .normal,a,w | .ret,a,w=>Qhw P fn a.tmps R a.defers .returning w
 | .panic chain,a,w=>Qhw P fn a.tmps R a.defers (.panicking chain) w
 | .outgrown,_,w=>R .outgrown w
 | _,_,_=>False

theorem akY {P:Program} {f:FuncId} {fn:Func} {c:Code} {args:Array Value} {w:World} {R:Ending→World→Prop} (hf:P.funcs[f]? = some fn) (hb:fn.body=some c)
  (h:c.wp P (aij P fn R) { tmps:=args++Array.replicate (fn.ntmps-args.size) undef,defers:=[] } w):Calls P f args w R:=by
 intro cs
 let b:Frame:={ (default:Frame) with fn:=f,kind:=.normal }
 have atw:Frame.enter P f args .normal=b.at { tmps:=args++Array.replicate (fn.ntmps-args.size) undef,defers:=[] } [.code c]:=by
  simp[Frame.enter,Frame.at,hf,hb,b]
 obtain⟨e,a',w',hq,apR⟩:=h b [] cs
 rw[←atw] at apR
 have out:∀todo (m:FrameMode),Qhw P fn a'.tmps R a'.defers m w'→∃e w2 fr',R e w2∧Comes P (lone { b.at a' todo with mode:=m } cs w') (lone fr' cs w2) e∧fr'.fn=f∧fr'.leaving P w2 e:=fun todo m hl=>
  Qlx a'.defers m w' { b.at a' todo with mode:=m } cs rfl rfl rfl hf rfl hl
 cases e with
 | normal=>
  obtain⟨e',w2,fr',hR,hs,hfn,hl⟩:=out [] .returning hq
  exact⟨e',w2,fr',hR,Comes.of_steps (Steps.trans apR (.one step_end)) hs,hfn,hl⟩
 | ret=>
  obtain⟨todo,hs0⟩:=apR
  obtain⟨e',w2,fr',hR,hs,hfn,hl⟩:=out todo .returning hq
  exact⟨e',w2,fr',hR,Comes.of_steps hs0 hs,hfn,hl⟩
 | panic chain=>
  obtain⟨todo,hs0⟩:=apR
  obtain⟨e',w2,fr',hR,hs,hfn,hl⟩:=out todo (.panicking chain) hq
  exact⟨e',w2,fr',hR,Comes.of_steps hs0 hs,hfn,hl⟩
 | exit id=>exact hq.elim
 | goto l=>exact hq.elim
 | outgrown=>exact⟨.outgrown,w',b,hq,apR.resolve_left (by simp[b]),rfl,trivial⟩

theorem rm {P:Program}{fn:Func}{tmps:Array Value}{R:Ending→World→Prop}{u:FrameMode}(hu:u≠.run){ds:List Deferred}:∀(cs:List Nat) (w:World),cs.Nodup→(∀D,D∈cs→w.heap[D]? = some (.deferred (some []))) →
  (∀w',WU w w' cs→Leaves P fn tmps R ds u w')→Qhw P fn tmps R ((cs.map fun D=>({ target:=.collected D,args:=#[] }:Deferred))++ds) u w
 | [],w,_,_,h=>.of (h w ⟨fun _ _=>rfl,rfl,rfl,.refl _,rfl,fun _ _=>rfl⟩)
 | D :: cs,w,hn,hD,h=>by
  rw[List.nodup_cons] at hn
  have hd:=hD D (by simp)
  refine .inr ⟨hu,D,_,rfl,run_takeDeferred hd,rm hu cs _ hn.2 (fun D' hD'=>?_) fun w' hm=>h w' ?_⟩
  ·rw[World.putObj_heap_other (fun e=>by subst e;exact hn.1 hD')]
   exact hD D' (by simp[hD'])
  ·refine⟨fun b hb=>?_,hm.size.trans (by simp),hm.os,⟨hm.tape.tape,hm.tape.dr⟩,hm.output,fun b o=>(hm.cell b o).trans (Me hd _ b o)⟩
   simp only[List.mem_cons,not_or] at hb
   rw[hm.other b hb.2,World.putObj_heap_other hb.1]

def LU:Code→Option (FuncId×List Operand×Nat)
 | .region _ ops false=>match ops.toList with
  | [o0,o1]=>(match o0.op,o0.guard,o0.dst,o1.op,o1.guard,o1.dst with
   | .makeFunc (.func f) first bT,none,some t,.defer { callee:=.value (.tmp t'),args:=as,argTypes:=_ },none,none=>if t=t'∧first.size=0∧as.size=0 then some (f,bT.toList,t) else none
   | _,_,_,_,_,_=>none)
  | _=>none
 | _=>none

def Da:List Nat→Nat→Nat→Option Nat
 | [],_,_=>none
 | x :: r,t,i=>if x=t then some i else Da r t (i+1)

theorem Bh:∀{l:List Nat} {t i j:Nat},Da l t i=some j→i≤j∧l[j-i]? = some t
 | [],_,_,_,h=>by simp[Da] at h
 | x :: r,t,i,j,h=>by
  simp only[Da] at h
  split at h
  ·rename_i e;cases h;exact⟨Nat.le_refl _,by simp[e]⟩
  ·obtain⟨h1,h2⟩:=Bh h
   refine⟨by omega,?_⟩
   rw[show j-i=(j-(i+1))+1 from by omega]
   simpa using h2

def Cq (P:Program)(keep:List Nat):ResultVar→Option E
 | .cell t ty=>match Da keep t 0,lN P ty,w9 P ty with
  | some i,some agg,some n=>some (.ld agg n (.sym keep.length) (.sym i))
  | _,_,_=>none
 | _=>none

def ur (P:Program)(keep:List Nat):List ResultVar→Option E
 | []=>some .ax
 | r :: rs=>match Cq P keep r,ur P keep rs with
  | some x,some y=>some (.aa x y)
  | _,_=>none

def HT (P:Program)(keep:List Nat)(rs:List ResultVar):Option E:=
 match rs with
 | [r]=>Cq P keep r
 | rs=>ur P keep rs

def Tr:List E→E
 | []=>.ax
 | x :: r=>.aa x (Tr r)

theorem z6 {env:List D}:∀{l:List E} {d:D},(Tr l).eval env=some d→∃kd,aM env l=some kd∧d=.bh kd
 | [],d,h=>by simp[Tr,E.eval] at h;exact⟨[],rfl,h.symm⟩
 | x :: r,d,h=>by
  simp only[Tr,E.eval,Option.bind_eq_some_iff] at h
  obtain⟨d1,h1,d2,h2,h3⟩:=h
  obtain⟨kd,h4,rfl⟩:=z6 h2
  simp only[D.aa] at h3
  cases h3
  exact⟨d1 :: kd,by simp[aM,h1,h4],rfl⟩

def rvB (keep:List Nat)(σ:af):Option E:=
 match wM σ,σ.hs with
 | some ks,some (.store _ h)=>if jT σ=keep then some (.aa (Tr ks) (.aa h .ax)) else none
 | _,_=>none

def zq (P:Program)(fn:Func)(keep:List Nat):Code→Nat→af→Option T
 | .seq x y,u,σ=>match LU x with
  | some (f,bT,t)=>(match pG (bT.map σ.zS),σ.hs,HT P keep fn.results.toList with
   | some cs,some (.store cf h),some res=>if bJ P f=true∧t<σ.tmps.length then
     (compile P (rvB keep) y 0 u (({ σ with hs:=some (.store { cf with keep:=keep } h) }:af).put (some t) .cE) [] fun _ _ σ=>(rvB keep σ).map T.ret).map (.Jc f keep cs res) else none
   | _,_,_=>none)
  | none=>if gN x=false then none else compile P (nc P fn.results.toList) x 0 u σ [] fun _ u σ=>zq P fn keep y u σ
 | _,_,_=>none

def kP (P:Program)(cf:cz)(fn:Func)(keep:List Nat):Option T:=
 match fn.body with
 | none=>none
 | some c=>if fn.ntmps<cM fn∨bN<fn.ntmps then none else zq P fn keep c (cM fn+1) (cL cf fn.ntmps (cM fn) (bR P fn))

section
variable {P:Program}

theorem Jn {f:FuncId}{vals:Array Value}{w:World}(dG:bJ P f=true):(invoke (.fn (.func f) vals) #[]).run P w=.ok (.enter f vals) w:=by
 unfold bJ at dG
 split at dG
 ·rename_i fn hf
  simp only[Bool.and_eq_true,Bool.not_eq_true',Option.isSome_iff_ne_none] at dG
  have VA:fn.body.isNone=false:=by
   cases hb:fn.body with
   | none=>exact absurd hb dG.2
   | some _=>rfl
  simp only[invoke,Sem.run_bind,Sem.run_pure,Result.andThen_ok,callFunc,run_program,hf,dG.1,VA,Bool.false_eq_true,if_false]
  simp
 ·cases dG

theorem Ds {w:World}{S:Sets}{aJ:Nat→Prop}{bs:List D}{a:Act}{keep:List Nat}{kd:List D}(hst:dF w S aJ bs)(hk:q8 w S a keep kd){r:ResultVar}{x:E}{d:D}(hx:Cq P keep r=some x)(he:x.eval (kd++[.st bs])=some d):∃v,(lC a.tmps r).run P w=.ok v w∧bU w S v d:=by
 unfold Cq at hx
 split at hx
 ·rename_i t ty
  split at hx
  ·rename_i i agg n hi hg hn
   cases hx
   obtain⟨_,hi⟩:=Bh hi
   rw[Nat.sub_zero] at hi
   have mU:i<kd.length:=by rw[hk.1];exact(List.getElem?_eq_some_iff.1 hi).1
   have h1:(kd++[D.st bs])[keep.length]? = some (.st bs):=by
    rw[List.getElem?_append_right (by rw[hk.1];exact Nat.le_refl _),hk.1]
    simp
   have h2:(kd++[D.st bs])[i]? = some kd[i]:=by
    rw[List.getElem?_append_left mU]
    exact List.getElem?_eq_getElem mU
   simp only[E.eval,h1,h2,Option.bind_some] at he
   have Ye:=hk.2 i t _ hi (List.getElem?_eq_getElem mU)
   obtain⟨b,off,u,hv,hrun,RO,_⟩:=NN hg hn Ye (.inr hst) he
   refine⟨u,?_,RO⟩
   simp only[lC,hv,asAddr,Sem.run_bind,Sem.run_pure,Result.andThen_ok,hrun]
  ·cases hx
 ·cases hx

theorem Bl {w:World}{S:Sets}{aJ:Nat→Prop}{bs:List D}{a:Act}{keep:List Nat}{kd:List D}(hst:dF w S aJ bs)(hk:q8 w S a keep kd):∀{rs:List ResultVar} {x:E} {d:D},ur P keep rs=some x→x.eval (kd++[.st bs])=some d→∃vs ds,(rs.mapM (lC a.tmps)).run P w=.ok vs w∧d=.bh ds∧vs.length=ds.length∧vs.length=rs.length∧∀(i:Nat) (v:Value) (d:D),vs[i]? = some v→ds[i]? = some d→bU w S v d
 | [],x,d,hx,he=>by
  simp[ur] at hx
  subst hx
  simp[E.eval] at he
  exact⟨[],[],rfl,he.symm,rfl,rfl,by simp⟩
 | r :: rs,x,d,hx,he=>by
  simp only[ur] at hx
  split at hx
  ·rename_i y z hy hz
   cases hx
   simp only[E.eval,Option.bind_eq_some_iff] at he
   obtain⟨d1,W6,d2,RZ,he⟩:=he
   obtain⟨v,h1,h3⟩:=Ds hst hk hy W6
   obtain⟨vs,ds,h4,rfl,h6,h6',h7⟩:=Bl hst hk hz RZ
   simp only[D.aa] at he
   cases he
   refine⟨v :: vs,d1 :: ds,by simp only[List.mapM_cons,Sem.run_bind,h1,Result.andThen_ok,h4,Sem.run_pure],rfl,by simp[h6],by simp[h6'],fun i v' d' hv hd=>?_⟩
   cases i with
   | zero=>simp at hv hd;subst hv hd;exact h3
   | succ i=>exact h7 i v' d' (by simpa using hv) (by simpa using hd)
  ·cases hx

theorem Rc {w:World}{S:Sets}{aJ:Nat→Prop}{bs:List D}{a:Act}{keep:List Nat}{kd:List D}(hst:dF w S aJ bs)(hk:q8 w S a keep kd){fn:Func}{x:E}{d:D}(hx:HT P keep fn.results.toList=some x)(he:x.eval (kd++[.st bs])=some d):∃v,(results fn a.tmps).run P w=.ok v w∧bU w S v d:=by
 unfold HT at hx
 split at hx
 ·rename_i r hr
  obtain⟨v,h1,h3⟩:=Ds hst hk hx he
  refine⟨v,?_,h3⟩
  have:=qq (P:=P) (w:=w) fn a.tmps (vs:=[v]) (by rw[hr];simp only[List.mapM_cons,List.mapM_nil,Sem.run_bind,h1,Result.andThen_ok,Sem.run_pure])
  simpa using this
 ·rename_i hne
  obtain⟨vs,ds,h1,rfl,h3,h3',h4⟩:=Bl hst hk hx he
  have:=qq (P:=P) (w:=w) fn a.tmps h1
  rw[dif_neg ?_] at this
  ·exact⟨_,this,.bh (by simpa using h3) fun i v d hv hd=>h4 i v d (by simpa using hv) hd⟩
  ·intro hl
   rw[hl] at h3'
   match tI:fn.results.toList,h3' with
   | [r],_=>exact hne r tI

def acs (w:World)(S:Sets)(aJ:Nat→Prop)(Qd Qp:D→D→Prop)(e:Ending)(w':World):Prop:=
 ∃(o:Out) (v:Value) (S':Sets) (bV:Nat→Prop) (bs':List D),(match o with | .ret d=>Qd d (.st bs') | .fc d=>Qp d (.st bs'))∧o.ends w' S' v e∧Left w S aJ aJ w' S' bV bs'

theorem G8 {w:World} {S S1:Sets} {aJ:Nat→Prop} {Qd Qp:D→D→Prop} {fn:Func} {a':Act} {w':World} {σ':af} {env':List D} {ρ':dJ} {f:FuncId} {vals:Array Value} {fk kd ia:List D} {m:Option D} {gO d':D} {res:E} {keep:List Nat} {u:FrameMode}
  {G7:List Deferred} (hr:cu w ⟨aJ,S1,aJ,G7⟩ w' a' σ' env' ρ') (hst:dF w' ρ'.S ρ'.aJ ia) (dN:∃cf x,σ'.obj bN=some (.store cf x)) (tU:S≤S1) (Lt:∀b o,S1 b o→S b o∨w.heap.size≤b∨aJ b)
  (dG:bJ P f=true) (hvl:vals.size=fk.length) (hrd:∀(i:Nat) (v:Value) (x:D),vals[i]? = some v→fk[i]? = some x→bU w' ρ'.S v x) (hk:q8 w' ρ'.S a' keep kd) (hu:match m with | none=>u=.returning | some d=>∃v,bU w' ρ'.S v d∧u=.panicking [{ v,recovered:=false }]) (hspec:A9 P f (.st ia) fk m gO) (hres:HT P keep fn.results.toList=some res) (cV:res.eval (kd++[gO])=some d') (hq:Qd d' gO)  :
  Leaves P fn a'.tmps (acs w S aJ Qd Qp) [{ target:=.fn (.func f) vals,args:=#[] }] u w':=by
 obtain⟨cf,x,dN⟩:=dN
 have hfl:∀b,ρ'.aJ b→b<w'.heap.size:=gZ hr dN
 have RK:u≠.run:=by
  cases m with
  | none=>have hu:u=.returning:=hu;rw[hu];simp
  | some d=>obtain⟨v,_,hu⟩:=hu;rw[hu];simp
 refine leaves_cons RK (Jn dG) ((hspec w' ρ'.S ρ'.aJ ia vals u rfl hst (hr.mK dN) hfl hr.cells hvl hrd hu).mono ?_)
 rintro e u' w'' ⟨v,S'',abT,Wz,rfl,kY,rfl,hl⟩
 simp only
 rw[kY]
 have hK:bW ρ'.S w' w'':=fun b o hs=>World.cell?_of_block (a:=⟨b,o,none⟩) (hl.old b (hr.cells b o hs) fun hf=>hst.Cw b o hf hs)
 have hk':q8 w'' S'' a' keep kd:=⟨hk.1,fun i s d h1 h2=>(hk.2 i s d h1 h2).keep hK hl.le⟩
 obtain⟨rv,hrun,oP⟩:=Rc hl.st hk' hres cV
 refine⟨rv,hrun,.ret d',rv,S'',abT,Wz,hq,⟨rfl,oP⟩,hl.st,Sets.le_trans tU (Sets.le_trans hr.sub hl.le),hl.os.trans hr.os,hl.tape.trans hr.tape,hl.output.trans hr.output,Nat.le_trans hr.grown hl.size,fun b hb hnf=>?_,fun b hb=>?_,fun b o hs=>?_,hl.lt⟩
 ·have hown:¬ρ'.aJ b:=fun hf=>by
   rcases(hr.own bN _ b dN hf).1 with g | g | g
   ·exact hnf g.2
   ·exact absurd hb (Nat.not_lt.2 g)
   ·exact hnf g
  exact(hl.old b (Nat.lt_of_lt_of_le hb hr.grown) hown).trans (hr.old b hb hnf)
 ·obtain⟨g1,g2⟩:=hl.ft b hb
  refine⟨?_,g2⟩
  rcases g1 with g1 | g1
  ·rcases(hr.own bN _ b dN g1).1 with g | g | g
   ·exact .inl g.2
   ·exact .inr g
   ·exact .inl g
  ·exact .inr (Nat.le_trans hr.grown g1)
 ·have s8:=hr.grown
  rcases hl.new b o hs with g | g | g
  ·rcases hr.new b o g with g | g | g
   ·rcases Lt b o g with g | g | g
    ·exact .inl g
    ·exact .inr (.inr g)
    ·exact .inr (.inl g)
   ·exact .inr (.inr g)
   ·exact .inr (.inl g)
  ·rcases(hr.own bN _ b dN g).1 with g | g | g
   ·exact .inr (.inl g.2)
   ·exact .inr (.inr g)
   ·exact .inr (.inl g)
  ·exact .inr (.inr (Nat.le_trans s8 g))

theorem cu.adN {w0 w:World}{X:kG}{a:Act}{σ:af}{env:List D}{ρ:dJ}(h:cu w0 X w a σ env ρ){cf Qdy:cz}{x:E}(hs:σ.hs=some (.store cf x))(hro:Qdy.ro=cf.ro):cu w0 X w a { σ with hs:=some (.store Qdy x) } env ρ:=by
 have dN:σ.obj bN=some (.store cf x):=by rw[af.dV,if_pos rfl];exact hs
 have fP:∀o y,af.obj { σ with hs:=some (.store Qdy x) } o=some y→∃y',σ.obj o=some y'∧(∀b,bY ρ o y b↔bY ρ o y' b)∧y.ro=y'.ro∧(iB w ρ env o y'→iB w ρ env o y):=by
  intro o y hy
  by_cases ho:o=bN
  ·subst ho
   simp only[af.dV,if_true,Option.some.injEq] at hy
   subst hy
   exact⟨_,dN,fun _=>Iff.rfl,hro,fun h=>h⟩
  ·refine⟨y,?_,fun _=>Iff.rfl,rfl,fun h=>h⟩
   simp only[af.dV,if_neg ho] at hy ⊢
   exact hy
 refine⟨h.size,h.tmps,fun o y hy=>?_,fun o o' y y' b h1 h2 tM tK=>?_,fun o y b hy hb=>?_,h.cells,h.os,h.tape,h.output,h.grown,h.old,h.sub,h.new,h.zT,h.hold⟩
 ·obtain⟨y',g1,_,_,g2⟩:=fP o y hy
  exact g2 (h.dO o y' g1)
 ·obtain⟨z,g1,g2,_⟩:=fP o y h1
  obtain⟨z',g3,g4,_⟩:=fP o' y' h2
  exact h.inj o o' z z' b g1 g3 ((g2 b).1 tM) ((g4 b).1 tK)
 ·obtain⟨z,g1,g2,g3,_⟩:=fP o y hy
  rw[g3]
  exact h.own o z b g1 ((g2 b).1 hb)

theorem vq {w:World}{S:Sets}{aJ:Nat→Prop}{fn:Func}{keep:List Nat}{Qd Qp:D→D→Prop}:∀(c:Code) {σ:af} {t:T} {env:List D} {a:Act} {w1:World} {ρ:dJ},zq P fn keep c env.length σ=some t→den P t env (JC Qd Qp)→cu w ⟨aJ,S,aJ,[]⟩ w1 a σ env ρ→o6 fn.ntmps σ→c.wp P (aij P fn (acs w S aJ Qd Qp)) a w1
 | .seq x y,σ,t,env,a,w1,ρ,hc,fQ,hr,hl=>by
  simp only[zq] at hc
  split at hc
  ·rename_i f bT t0 JI
   split at hc
   ·rename_i cs cf h res hcs sA hres
    split at hc
    ·rename_i wP
     obtain⟨dG,ht0⟩:=wP
     obtain⟨tB,hB,rfl⟩:=Option.map_eq_some_iff.1 hc
     obtain⟨fk,Ep,wo,hdB⟩:=fQ
     obtain⟨id,o0,o1,first,iA,as,ts,rfl,ZH,h01,h02,h10,h11,h12,rfl,hf0,ha0⟩:∃id o0 o1 first iA as ts,x=.region id #[o0,o1] false∧o0.op=.makeFunc (.func f) first iA∧o0.guard=none∧o0.dst=some t0∧o1.op=.defer { callee:=.value (.tmp t0),args:=as,argTypes:=ts }∧o1.guard=none∧o1.dst=none∧bT=iA.toList∧first.size=0∧as.size=0:=by
      unfold LU at JI
      split at JI
      ·rename_i id ops
       split at JI
       ·rename_i o0 o1 U8
        split at JI
        ·rename_i f' first iA t1 t2 as ts g1 g2 g3 g4 g5 g6
         split at JI
         ·rename_i rT
          obtain⟨rfl,hf0,ha0⟩:=rT
          cases JI
          have hoa:ops=#[o0,o1]:=by rw[←Array.toArray_toList (xs:=ops),U8]
          exact⟨id,o0,o1,first,iA,as,ts,by rw[hoa],g1,g2,g3,g4,g5,g6,rfl,hf0,ha0⟩
         ·cases JI
        ·cases JI
       ·cases JI
      ·cases JI
     obtain rfl:first=#[]:=Array.eq_empty_of_size_eq_zero hf0
     obtain rfl:as=#[]:=Array.eq_empty_of_size_eq_zero ha0
     obtain⟨ds',oQ,cP,hrd⟩:=mZ (w:=w1) (ρ:=ρ) (env:=env) (vs:=(iA.map a.eval).toList) hcs (by simp) (fun i v s Qcz hs'=>by
      simp only[Array.toList_map,List.getElem?_map,Option.map_eq_some_iff] at Qcz hs'
      obtain⟨x,hx',rfl⟩:=Qcz
      obtain⟨y,hy',rfl⟩:=hs'
      rw[hx'] at hy'
      cases hy'
      exact Ar hr x)
     rw[Ep] at oQ
     cases oQ
     have hvl:(iA.map a.eval).size=fk.length:=by simpa using cP
     refine wp_seq (wp_region_list ?_)
     have hw0:∀tm,Region.wanted o0 tm=true:=fun tm=>by simp[Region.wanted,h01]
     have hw1:∀tm,Region.wanted o1 tm=true:=fun tm=>by simp[Region.wanted,h11]
     have afp:(execOp a.eval o0).run P w1=.ok (.value (.func (.func f) #[] (iA.map a.eval))) w1:=by
      unfold execOp
      rw[ZH]
      simp[Instr.makeFunc]
     have hta:t0<a.tmps.size:=by rw[hr.size];exact ht0
     have cV:(a.put (some t0) (.func (.func f) #[] (iA.map a.eval))).eval (.tmp t0)=.func (.func f) #[] (iA.map a.eval):=by
      show(a.put (some t0) (.func (.func f) #[] (iA.map a.eval))).tmps.getD t0 undef=_
      rw[Act.zh _ _ _ hta,if_pos rfl]
     have afo:(execOp (a.put (some t0) (.func (.func f) #[] (iA.map a.eval))).eval o1).run P w1=.ok (.defer { target:=.fn (.func f) (iA.map a.eval),args:=#[] }) w1:=by
      unfold execOp
      rw[h10]
      simp only[resolve,cV,Deferred.ofValue,Sem.run_bind,Sem.run_pure,Result.andThen_ok]
      simp
     show wpList P #[o0,o1] _ [o0,o1] a w1
     unfold wpList
     rw[if_pos (hw0 _)]
     refine .inl ?_
     unfold Oper.wp
     rw[afp]
     simp only[Oper.upon_value,h02]
     unfold wpList
     rw[if_pos (hw1 _)]
     refine .inl ?_
     unfold Oper.wp
     rw[afo]
     simp only[Oper.upon_defer,h12]
     unfold wpList
     have als:a.defers=[]:=hr.zT
     have aa6:({ cf with keep:=keep }:cz).ro=cf.ro:=rfl
     have Li:=(hr.adN (Qdy:={ cf with keep:=keep }) sA aa6).put (dst:=some t0) (v:=.func (.func f) #[] (iA.map a.eval)) (sv:=.cE) (fun d e=>by cases e;exact ht0) .cE
     have CF:cu w ⟨aJ,ρ.S,aJ,[{ target:=.fn (.func f) (iA.map a.eval),args:=#[] }]⟩ w1 (Act.put { (a.put (some t0) (.func (.func f) #[] (iA.map a.eval))) with defers:={ target:=.fn (.func f) (iA.map a.eval),args:=#[] } :: (a.put (some t0) (.func (.func f) #[] (iA.map a.eval))).defers } none undef) (({ σ with hs:=some (.store { cf with keep:=keep } h) }:af).put (some t0) .cE) env ρ:=by
      refine⟨Li.size,Li.tmps,Li.dO,Li.inj,Li.own,Li.cells,Li.os,Li.tape,Li.output,Li.grown,Li.old,Sets.le_refl _,fun b o hs=>.inl hs,?_,fun l rec hl'=>Li.hold l rec (by rw[←Li.sub.hold];exact hl')⟩
      show _ :: a.defers=_
      rw[als]
     have hlB:o6 fn.ntmps (({ σ with hs:=some (.store { cf with keep:=keep } h) }:af).put (some t0) .cE):=⟨by simpa[af.fM] using hl.1,by simpa[af.fM] using hl.2⟩
     have Eo:=nN (P:=P) (N:=fn.ntmps) y (B:=fun wB XB=>Ext w ⟨aJ,ρ.S,aJ,[{ target:=.fn (.func f) (iA.map a.eval),args:=#[] }]⟩ wB XB) (rd:=none) (nd:=0)
      (iS:=fun w' a' d'=>∃(wB:World) (XB:kG) (σ':af) (env':List D) (ρ':dJ) (kd ia:List D),Ext w ⟨aJ,ρ.S,aJ,[{ target:=.fn (.func f) (iA.map a.eval),args:=#[] }]⟩ wB XB∧cu wB XB w' a' σ' env' ρ'∧dF w' ρ'.S ρ'.aJ ia∧(∃cf x,σ'.obj bN=some (.store cf x))∧q8 w' ρ'.S a' keep kd∧d'=.bh [.bh kd,.st ia])
      (rv:=rvB keep) (fun wB XB JL σ' x hx env' ρ' a' w' d' hr' he=>by
       unfold rvB at hx
       split at hx
       ·rename_i ks cf1 h1 hks abh
        split at hx
        ·rename_i GM
         cases hx
         obtain⟨hh1,RT,ia,tM,RN⟩:=pg hr' abh
         simp only[E.eval,Option.bind_eq_some_iff] at he
         obtain⟨d1,W6,d2,RZ,he⟩:=he
         obtain⟨kd,GN,rfl⟩:=z6 W6
         obtain⟨d3,he3,d4,he4,RZ⟩:=RZ
         obtain⟨lg,tK,_⟩:=hr'.dO _ _ RT
         rw[he3] at tK
         cases tK
         cases he4
         simp only[D.aa] at RZ
         cases RZ
         simp only[D.aa] at he
         cases he
         have uU:dF w' ρ'.S ρ'.aJ lg:=by
          obtain⟨bs3,hb3,UX,_⟩:=hr'.dO _ _ RT
          rw[he3] at hb3
          cases hb3
          exact UX
         exact⟨wB,XB,σ',env',ρ',kd,lg,JL,hr',uU,⟨_,_,RT⟩,GM ▸ rP hr' hks GN (List.prefix_refl _),rfl⟩
        ·cases hx
       ·cases hx) (fun l e=>by cases e) (.inr (.inr fun _ _ _ _ h k=>h.trans k)) 0 _ [] _ tB env hB _ _ w1 w _ _ (Ext.refl _ _) hdB CF hlB (fun id e he=>by simp[lK] at he)
     have Eo:=wpIn_wide.1 Eo
     have Lt:∀b o,ρ.S b o→S b o∨w.heap.size≤b∨aJ b:=fun b o hs=>hr.new b o hs
     have RP:∀{w':World} {ρ':dJ},ρ.S≤ρ'.S→∀(i:Nat) (v:Value) (x:D),(iA.map a.eval)[i]? = some v→fk[i]? = some x→bU w' ρ'.S v x:=by
      intro w' ρ' hle i v x hv hx
      have hlx:=List.all_eq_true.1 wo x (List.mem_of_getElem? hx)
      have:=hrd i v x (by simpa using hv) hx
      cases x <;> simp[D.La] at hlx
      cases this with
      | loc hi=>rw[←hle.loc _ hi];exact .loc (Nat.lt_of_lt_of_le hi hle.n)
     have fin:∀{wB:World} {XB:kG} {w':World} {a':Act} {σ':af} {env':List D} {ρ':dJ} {kd ia:List D} {m:Option D} {gO d':D} {u:FrameMode},Ext w ⟨aJ,ρ.S,aJ,[{ target:=.fn (.func f) (iA.map a.eval),args:=#[] }]⟩ wB XB→cu wB XB w' a' σ' env' ρ'→dF w' ρ'.S ρ'.aJ ia→(∃cf x,σ'.obj bN=some (.store cf x))→q8 w' ρ'.S a' keep kd →
       (match m with | none=>u=.returning | some d=>∃v,bU w' ρ'.S v d∧u=.panicking [{ v,recovered:=false }])→A9 P f (.st ia) fk m gO→res.eval (kd++[gO])=some d'→Qd d' gO→Qhw P fn a'.tmps (acs w S aJ Qd Qp) a'.defers u w':=by
      intro wB XB w' a' σ' env' ρ' kd ia m gO d' u JL hr' fp El hk' hu h1 h2 h3
      obtain⟨cs',g1,g2,g3⟩:=JL.G7
      have h0:=JL.rep hr' CF.hold
      have RK:u≠.run:=by
       cases m with
       | none=>have hu:u=.returning:=hu;rw[hu];simp
       | some d=>obtain⟨v,_,hu⟩:=hu;rw[hu];simp
      rw[hr'.zT,g1]
      refine rm RK cs' w' g2 (fun D hD=>?_) fun w2 hm=>?_
      ·obtain⟨k1,k2,k3,k4⟩:=g3 D hD
       exact(hr'.old D (Array.getElem?_eq_some_iff.1 k1).1 k2).trans k1
      ·have CD:=cu.marked hr' h0 (fun D hD=>by
        obtain⟨k1,k2,k3,k4⟩:=g3 D hD
        exact⟨(Array.getElem?_eq_some_iff.1 k1).1,k2,k3,k4⟩) hm
       obtain⟨Qdy,x',dN⟩:=El
       have Qhv:∀b,ρ'.aJ b→w2.heap[b]? = w'.heap[b]?:=fun b hb=>hm.other b fun hD=>by
        obtain⟨k1,k2,k3,k4⟩:=g3 b hD
        have:=(Array.getElem?_eq_some_iff.1 k1).1
        rcases(hr'.own bN _ b dN hb).1 with g | g | g
        ·exact k3 g.2
        ·omega
        ·exact k2 g
       have hk:bW ρ'.S w' w2:=fun b o _=>hm.cell b o
       have uU:dF w2 ρ'.S ρ'.aJ ia:=fp.to ⟨fun _ _ h=>h,rfl,fun _=>rfl,fun _=>rfl,fun _=>rfl⟩ (fun _ _ h=>h) Qhv fun v d i x _ _ h=>h.keep hk (Sets.le_refl _)
       refine G8 (m:=m) CD uU ⟨Qdy,x',dN⟩ (Sets.le_trans hr.sub (Sets.le_refl _)) Lt dG hvl (RP h0.sub) ⟨hk'.1,fun i s d e1 e2=>(hk'.2 i s d e1 e2).keep hk (Sets.le_refl _)⟩ ?_ h1 hres h2 h3
       cases m with
       | none=>exact hu
       | some d=>obtain⟨v,k1,k2⟩:=hu;exact⟨v,k1.keep hk (Sets.le_refl _),k2⟩
     have adU:∀{w':World} {a':Act} {d':D},JD P f keep fk res (JC Qd Qp) (.ret d')→(∃(wB:World) (XB:kG) (σ':af) (env':List D) (ρ':dJ) (kd ia:List D),Ext w ⟨aJ,ρ.S,aJ,[{ target:=.fn (.func f) (iA.map a.eval),args:=#[] }]⟩ wB XB∧cu wB XB w' a' σ' env' ρ'∧dF w' ρ'.S ρ'.aJ ia∧(∃cf x,σ'.obj bN=some (.store cf x))∧q8 w' ρ'.S a' keep kd∧d'=.bh [.bh kd,.st ia]) →
       Qhw P fn a'.tmps (acs w S aJ Qd Qp) a'.defers .returning w':=by
      rintro w' a' d' hq ⟨wB,XB,σ',env',ρ',kd,ia,JL,hr',fp,El,hk',rfl⟩
      obtain⟨gO,d'',h1,h2,h3⟩:=hq
      exact fin (m:=none) JL hr' fp El hk' rfl h1 h2 h3
     refine wp_mono Eo fun e a' w' hp=>?_
     cases e with
     | normal=>
      obtain⟨wB,XB,env',σ',ρ',t',JL,_,hk,fz,hr',_⟩:=hp
      obtain⟨xr,Qg,rfl⟩:=Option.map_eq_some_iff.1 hk
      obtain⟨d1,he,hq⟩:=fz
      refine adU hq ?_
      unfold rvB at Qg
      split at Qg
      ·rename_i ks cf1 h1 hks abh
       split at Qg
       ·rename_i GM
        cases Qg
        obtain⟨hh1,RT,_⟩:=pg hr' abh
        simp only[E.eval,Option.bind_eq_some_iff] at he
        obtain⟨d1,W6,d2,RZ,he⟩:=he
        obtain⟨kd,GN,rfl⟩:=z6 W6
        obtain⟨d3,he3,d4,he4,RZ⟩:=RZ
        obtain⟨lg,tK,uU,_⟩:=hr'.dO _ _ RT
        rw[he3] at tK
        cases tK
        cases he4
        simp only[D.aa] at RZ
        cases RZ
        simp only[D.aa] at he
        cases he
        exact⟨wB,XB,σ',env',ρ',kd,lg,JL,hr',uU,⟨_,_,RT⟩,GM ▸ rP hr' hks GN (List.prefix_refl _),rfl⟩
       ·cases Qg
      ·cases Qg
     | ret=>
      obtain⟨d1,hq,h1⟩:=hp
      exact adU hq h1
     | exit id=>obtain⟨_,_,e,_,_,_,he,_⟩:=hp;simp[lK] at he
     | goto l=>exact hp.elim
     | panic c=>
      obtain⟨wB,XB,σ',env',ρ',v,d,bs',JL,rfl,hr',N3,fp,El,kd,hk',hq⟩:=hp
      obtain⟨GM,gO,d'',h1,h2,h3⟩:=hq
      rw[GM] at hk'
      exact fin (m:=some d) JL hr' fp El hk' ⟨v,N3,rfl⟩ h1 h2 h3
     | outgrown=>exact hp.elim
    ·cases hc
   ·cases hc
  ·-- ahead of it
   split at hc
   ·cases hc
   rename_i Ll
   have Ll:gN x=true:=by simpa using Ll
   refine wp_seq (wp_mono (wpIn_wide.1 (nN (P:=P) (N:=fn.ntmps) x (B:=fun w1 X1=>w1=w∧X1=⟨aJ,S,aJ,[]⟩) (rd:=none) (nd:=0) (iS:=fun w' a' d'=>a'.defers=[]∧∃(v:Value) (d0:D) (bs':List D) (S':Sets) (bV:Nat→Prop),(results fn a'.tmps).run P w'=.ok v w'∧d'=.bh [d0,.st bs']∧bU w' S' v d0∧Left w S aJ aJ w' S' bV bs')
    (rv:=nc P fn.results.toList) (fun wB XB JL σ x hx env ρ a' w' d' hr he=>by rw[JL.1,JL.2] at hr;exact HR (fun _ h=>h) hx hr he) (fun l e=>by cases e) (.inl Ll) 0 _ [] _ t env hc _ a w1 w _ _ ⟨rfl,rfl⟩ fQ hr hl (fun id e he=>by simp[lK] at he))) fun e a' w' hp=>?_)
   cases e with
   | normal=>
    obtain⟨wB,XB,env',σ',ρ',t',JL,hpre,hk,fz,hr',hl'⟩:=hp
    rw[JL.1,JL.2] at hr'
    exact vq y hk fz hr' hl'
   | ret=>
    obtain⟨d',hq,g1,v,d0,bs',S',bV,h1,rfl,h3,h4⟩:=hp
    show Qhw P fn a'.tmps _ a'.defers .returning w'
    rw[g1]
    exact⟨v,h1,.ret d0,v,S',bV,bs',hq,⟨rfl,h3⟩,h4⟩
   | exit id=>obtain⟨_,_,e,_,_,_,he,_⟩:=hp;simp[lK] at he
   | goto l=>exact hp.elim
   | panic c=>
    obtain⟨wB,XB,σ',env',ρ',v,d,bs',JL,rfl,hr',N3,fp,El,kd,_,hq⟩:=hp
    rw[JL.1,JL.2] at hr'
    have hnd:a'.defers=[]:=hr'.zT
    show Qhw P fn a'.tmps _ a'.defers (.panicking _) w'
    rw[hnd]
    exact⟨.fc d,v,ρ'.S,ρ'.aJ,bs',hq,⟨rfl,N3⟩,nW hr' fp El fun _ h=>h⟩
   | outgrown=>exact hp.elim

theorem EB {cf:cz}{f:FuncId}{fn:Func}{keep:List Nat}{t:T}{ds:List D}{bs bs':List D}{o:Out}(hf:P.funcs[f]? = some fn)(hc:kP P cf fn keep=some t)(hfit:dZ (bR P fn) ds=true)(fQ:den P t (ds++[.st bs]) (tG o (.st bs'))) :
  eN P f (.st bs) ds o (.st bs'):=by
 intro w S aJ rp vs hb hst dP hfl hS hvl hrd
 cases hb
 obtain⟨q_,_⟩:=gG hfit
 have BF:(bR P fn).length=cM fn:=by simp[bR,cM]
 unfold kP at hc
 split at hc
 ·cases hc
 rename_i c hbody
 split at hc
 ·cases hc
 rename_i hnt
 rw[not_or] at hnt
 have hstart:=Ge (may:=aJ) (cf:=cf) hfit hst dP (fun _ h=>h) hfl hS hvl hrd fun _ h=>.inr h
 have Qsx:o6 fn.ntmps (cL cf fn.ntmps (cM fn) (bR P fn)):=⟨by simp[cL,eP,BF];omega,by simp[cL]⟩
 refine(akY hf hbody (vq (w:=w) (S:=S) (aJ:=aJ) c (env:=ds++[.st bs]) (by rw[List.length_append,←q_,BF];exact hc) (dI (fun s hs=>hs.as) fQ) hstart Qsx)).mono ?_
 rintro e w' ⟨o',v,S',bV,Wz,hq,gj,hl⟩
 have:o'=o∧Wz=bs':=by cases o' <;> (obtain⟨rfl,h2⟩:=hq;cases h2;exact⟨rfl,rfl⟩)
 obtain⟨rfl,rfl⟩:=this
 exact⟨v,S',bV,_,gj,rfl,hl.st,fun b o hs=>World.cell?_of_block (a:=⟨b,o,none⟩) (hl.old b (hS b o hs) fun hf=>hst.Cw b o hf hs),hl.le,hl.os,hl.tape,hl.output,hl.size,hl.old,hl.ft,hl.new,hl.lt⟩

end
end
end

section
noncomputable section

inductive Sh where
 | int (k:IntKind)
 | bool
 | str
 | sl (e:Sh)
 | st (fs:List Sh)
 deriving Inhabited

mutual
def Sh.size:Sh→Nat
 | .st fs=>Sh.sizes fs
 | _=>1
def Sh.sizes:List Sh→Nat
 | []=>0
 | s :: r=>s.size+Sh.sizes r
end

def Sh.AM:Sh→Bool
 | .st _=>true
 | _=>false

def uf (P:Program)(sh:TypeId→Option Sh):List Field→Nat→Option (List Sh)
 | [],_=>some []
 | f :: r,off=>if f.offset=off then(sh f.type).bind fun s=>if P.cellsOf f.type=s.size then(uf P sh r (off+s.size)).map (s :: ·) else none else none

def B8 (P:Program):Nat→TypeId→Option Sh
 | 0,_=>none
 | n+1,t=>match P.underlying t with
  | some (.int k)=>some (.int k)
  | some .bool=>some .bool
  | some .string=>some .str
  | some (.slice e)=>(B8 P n e).bind fun s=>if P.cellsOf e=s.size∧0<s.size then some (.sl s) else none
  | some (.struct fs)=>(uf P (B8 P n) fs.toList 0).bind fun l=>if P.cellsOf t=Sh.sizes l then some (.st l) else none
  | _=>none

mutual
def jN:Sh→List D→Prop
 | .int k,ds=>∃n,ds=[.v (.int k n)]∧k.min≤n∧n≤k.max
 | .bool,ds=>∃b,ds=[.v (.bool b)]
 | .str,ds=>∃s,ds=[.v (.string s)]∧s.size≤maxLen
 | .sl e,ds=>∃es,ds=[.bq es]∧es.length≤maxLen∧∀x,x∈es→(e.AM=true→∃cs,x=.agg cs∧jN e cs)∧(e.AM=false→jN e [x])
 | .st fs,ds=>qb fs ds
def qb:List Sh→List D→Prop
 | [],ds=>ds=[]
 | s :: r,ds=>∃a b,ds=a++b∧jN s a∧qb r b
end

def F3 (w:World):Sets:={ mem:=fun b _=>b<w.heap.size,loc:=fun _=>0,n:=0,cap:=fun _=>0 }

mutual
theorem jN.length:∀{s:Sh} {ds:List D},jN s ds→ds.length=s.size
 | .int _,_,⟨_,h,_⟩=>by rw[h];rfl
 | .bool,_,⟨_,h⟩=>by rw[h];rfl
 | .str,_,⟨_,h,_⟩=>by rw[h];rfl
 | .sl _,_,⟨_,h,_⟩=>by rw[h];rfl
 | .st _,_,h=>by simp only[jN] at h;rw[qb.length h];rfl
theorem qb.length:∀{l:List Sh} {ds:List D},qb l ds→ds.length=Sh.sizes l
 | [],_,h=>by simp only[qb] at h;rw[h];rfl
 | s :: r,_,h=>by
  simp only[qb] at h
  obtain⟨a,b,rfl,h1,h2⟩:=h
  rw[List.length_append,jN.length h1,qb.length h2]
  rfl
end

theorem OZ {P:Program}:∀{n:Nat} {t:TypeId} {s:Sh},B8 P n t=some s→s.AM=false→s.size=1:=by
 intro n t s h hs
 cases s <;> first | rfl | simp[Sh.AM] at hs

section
variable {H:Type} {enc:TypeId×Value→H} {P:Program} {w:World}

theorem D0 {w:World}{a:Addr}{v:Value}(h:w.cell? a=some v):a.block<w.heap.size∧a.spot=none:=by
 unfold World.cell? at h
 split at h
 ·rename_i c _ _ hc
  split at h
  ·cases h
  ·rename_i hs
   exact⟨(Array.getElem?_eq_some_iff.1 hc).1,by simpa using hs⟩
 ·cases h

theorem v_ {w:World}{base n:Nat}{a:Addr}{cs:List Value}(h:w.cells? base a n=some cs):cs.length=n∧∀j,j<n→w.cell? (a.add j)=cs[j]?:=by
 unfold World.cells? at h
 split at h
 ·have key:∀{l:List Nat} {cs:List Value},l.mapM (fun i=>w.cell? (a.add i))=some cs→cs.length=l.length∧∀(j i:Nat),l[j]? = some i→w.cell? (a.add i)=cs[j]?:=by
   intro l
   induction l with
   | nil=>intro cs h;simp at h;subst h;exact⟨rfl,by simp⟩
   | cons i l ih=>
    intro cs h
    simp only[List.mapM_cons,Option.bind_eq_bind,Option.bind_eq_some_iff,Option.pure_def,Option.some.injEq] at h
    obtain⟨v,h1,vs,h2,rfl⟩:=h
    obtain⟨h3,h4⟩:=ih h2
    refine⟨by simp[h3],fun j i' hj=>?_⟩
    cases j with
    | zero=>simp at hj;subst hj;simpa using h1
    | succ j=>simpa using h4 j i' (by simpa using hj)
  obtain⟨h1,h2⟩:=key h
  exact⟨by simpa using h1,fun j hj=>h2 j j (by simp[hj])⟩
 ·cases h

theorem Xi:∀(fuel:Nat) {n:Nat} {t:TypeId} {cs:List Value} {x:DataW H×List MemPlace} {sh:Sh},DataW.trod enc P w 0 (fun _=>true) true fuel t cs=some x→B8 P n t=some sh →
  ∃ds:List D,ds.length=cs.length∧jN sh ds∧∀(i:Nat) (v:Value) (y:D),cs[i]? = some v→ds[i]? = some y→bU w (F3 w) v y∧y.one=true:=by
 intro fuel
 induction fuel with
 | zero=>intro n t cs x sh h;simp[DataW.trod] at h
 | succ fuel ih=>
  intro n t cs x sh h hs
  have one:∀{v:Value} {y:D},bU w (F3 w) v y→y.one=true→∀(i:Nat) (v':Value) (y':D),[v][i]? = some v'→[y][i]? = some y'→bU w (F3 w) v' y'∧y'.one=true:=by
   intro v y h1 h2 i v' y' hv hy
   cases i with
   | zero=>simp at hv hy;subst hv hy;exact⟨h1,h2⟩
   | succ i=>simp at hv
  cases n with
  | zero=>simp[B8] at hs
  | succ n=>
  simp only[B8] at hs
  split at hs
  ·rename_i k ht
   cases hs
   obtain⟨m,rfl,_,hw⟩:=DataW.trod_int ht h
   simp only[Lit.wf,Bool.and_eq_true,decide_eq_true_eq] at hw
   exact⟨[.v (.int k m)],rfl,⟨m,rfl,hw⟩,one (.v rfl) rfl⟩
  ·rename_i ht
   cases hs
   obtain⟨b,rfl,_⟩:=DataW.trod_bool ht h
   exact⟨[.v (.bool b)],rfl,⟨b,rfl⟩,one (.v rfl) rfl⟩
  ·rename_i ht
   cases hs
   obtain⟨s,rfl,_,hw⟩:=DataW.trod_string ht h
   exact⟨[.v (.string s)],rfl,⟨s,rfl,hw⟩,one (.v rfl) rfl⟩
  ·rename_i e ht
   obtain⟨s,uV,hs⟩:=Option.bind_eq_some_iff.1 hs
   split at hs
   ·rename_i hc
    obtain⟨hc,hpos⟩:=hc
    cases hs
    rcases DataW.trod_slice ht h with⟨rfl,_⟩ | ⟨a,len,cap,elems,rest,m,hm,rfl,_,_,hl,hcap,hlen,hel,hsp,_⟩
    ·exact⟨[.bq []],rfl,⟨[],rfl,Nat.zero_le _,by simp⟩,one .nil rfl⟩
    ·cases hm
     have alM:∀i,∃ds:List D,i<len→∃cs:List Value,w.cells? 0 (a.add (i*P.cellsOf e)) (P.cellsOf e)=some cs∧ds.length=cs.length∧jN s ds∧∀(j:Nat) (v:Value) (y:D),cs[j]? = some v→ds[j]? = some y→bU w (F3 w) v y∧y.one=true:=by
      intro i
      by_cases hi:i<len
      ·have h1:=hel i hi
       rw[List.getElem?_eq_getElem (show i<elems.length by omega)] at h1
       obtain⟨cs,h2,h3⟩:=Option.bind_eq_some_iff.1 h1
       obtain⟨ds,h4,h5,h6⟩:=ih h3 uV
       exact⟨ds,fun _=>⟨cs,h2,h4,h5,h6⟩⟩
      ·exact⟨[],fun h=>absurd h hi⟩
     let mk:List D→D:=fun ds=>if s.AM=true then .agg ds else ds.headD (.v .nilIface)
     obtain⟨f,hf⟩:=Classical.axiomOfChoice alM
     have hmk:∀i,i<len→(mk (f i)).cells=f i∧((s.AM=true→∃cs,mk (f i)=.agg cs∧jN s cs)∧(s.AM=false→jN s [mk (f i)])):=by
      intro i hi
      obtain⟨cs,_,h4,h5,h6⟩:=hf i hi
      by_cases hst:s.AM=true
      ·have:mk (f i)=.agg (f i):=by simp only[mk];rw[if_pos hst]
       rw[this]
       exact⟨rfl,(fun _=>⟨_,rfl,h5⟩),fun hh=>(by rw[hst] at hh;cases hh)⟩
      ·have hst:s.AM=false:=by simpa using hst
       have h1:(f i).length=1:=by rw[h5.length,OZ uV hst]
       match hfi:f i,h1 with
       | [d],_=>
        have:mk [d]=d:=by simp only[mk];rw[if_neg (by simp[hst])];rfl
        rw[this]
        have dG:cs.length=1:=by rw[←h4,hfi];rfl
        rw[hfi] at h5 h6
        have IT:d.one=true:=(h6 0 cs[0] d (by simp[dG]) rfl).2
        exact⟨(by cases d <;> first | rfl | simp[D.one] at IT),(fun hh=>(by rw[hst] at hh;cases hh)),fun _=>h5⟩
     have nL:∀(i:Nat) (y:D),((List.range len).map fun i=>mk (f i))[i]? = some y→i<len∧y=mk (f i):=by
      intro i y hy
      simp only[List.getElem?_map,Option.map_eq_some_iff] at hy
      obtain⟨q,hq,rfl⟩:=hy
      obtain⟨h1,rfl⟩:=List.getElem?_eq_some_iff.1 hq
      simp only[List.length_range] at h1
      simp only[List.getElem_range]
      exact⟨h1,trivial⟩
     refine⟨[.bq ((List.range len).map fun i=>mk (f i))],rfl,⟨_,rfl,by simp;omega,fun y hy=>?_⟩,one ?_ rfl⟩
     ·obtain⟨i,hi⟩:=List.mem_iff_getElem?.1 hy
      obtain⟨mU,rfl⟩:=nL i y hi
      exact(hmk i mU).2
     ·by_cases afH:len=0
      ·subst afH
       exact .emp hcap
      ·-- Qiw address is plain
       have afm:a.spot=none:=by
        obtain⟨cs,h2,h4,h5,_⟩:=hf 0 (by omega)
        obtain⟨h6,h7⟩:=v_ h2
        have:=h7 0 (by omega)
        rw[List.getElem?_eq_getElem (show 0<cs.length by omega)] at this
        have:=(D0 this).2
        simpa[Addr.add] using this
       obtain⟨b,off,spot⟩:=a
       subst afm
       have hcell:∀(i:Nat) (e':D) (j:Nat) (d:D),((List.range len).map fun i=>mk (f i))[i]? = some e'→e'.cells[j]? = some d→∃v,w.cell? ⟨b,off+i*s.size+j,none⟩=some v∧bU w (F3 w) v d∧d.one=true:=by
        intro i e' j d he hd
        obtain⟨mU,rfl⟩:=nL i e' he
        rw[(hmk i mU).1] at hd
        obtain⟨cs,h2,h4,h5,h6⟩:=hf i mU
        obtain⟨h7,h8⟩:=v_ h2
        have hj:j<(f i).length:=(List.getElem?_eq_some_iff.1 hd).1
        have h9:=h8 j (by omega)
        rw[iR,iR,hc,List.getElem?_eq_getElem (show j<cs.length by omega)] at h9
        exact⟨_,h9,h6 j _ d (List.getElem?_eq_getElem (by omega)) hd⟩
       refine .bq (size:=s.size) (val:=fun i j=>(w.cell? ⟨b,off+i*s.size+j,none⟩).getD undef) (by simp) hl hcap (fun i e' he=>?_) (fun i e' j d he hd=>?_) (fun i e' j d he hd=>?_) (fun i e' j d he hd=>?_) fun i e' j d he hd=>?_
       ·obtain⟨mU,rfl⟩:=nL i e' he
        obtain⟨cs,h2,h4,h5,h6⟩:=hf i mU
        rw[(hmk i mU).1,h5.length]
       ·obtain⟨v,_,_,h3⟩:=hcell i e' j d he hd;exact h3
       ·obtain⟨v,h1,_,_⟩:=hcell i e' j d he hd;exact(D0 h1).1
       ·obtain⟨v,h1,_,_⟩:=hcell i e' j d he hd;rw[h1];rfl
       ·obtain⟨v,h1,h2,_⟩:=hcell i e' j d he hd;rw[h1];exact h2
   ·cases hs
  ·rename_i fs ht
   obtain⟨l,hl,hs⟩:=Option.bind_eq_some_iff.1 hs
   split at hs
   ·rename_i hc
    cases hs
    obtain⟨xs,m,hm,_,dG,hxl,hf⟩:=DataW.trod_struct ht h
    cases hm
    have key:∀(fl:List Field) (off:Nat) (l:List Sh),uf P (B8 P n) fl off=some l→off+Sh.sizes l≤cs.length→(∀f,f∈fl→∃x,DataW.trod enc P w 0 (fun _=>true) true fuel f.type ((cs.drop f.offset).take (P.cellsOf f.type))=some x) →
      ∃ds:List D,qb l ds∧∀(i:Nat) (v:Value) (y:D),cs[off+i]? = some v→ds[i]? = some y→bU w (F3 w) v y∧y.one=true:=by
     intro fl
     induction fl with
     | nil=>intro off l h1 _ _;simp[uf] at h1;subst h1;exact⟨[],by simp[qb],by simp⟩
     | cons f fl ihf=>
      intro off l h1 h2 h3
      simp only[uf] at h1
      split at h1
      ·rename_i hoff
       obtain⟨s,hs1,h1⟩:=Option.bind_eq_some_iff.1 h1
       split at h1
       ·rename_i hcs
        obtain⟨l',hl',rfl⟩:=Option.map_eq_some_iff.1 h1
        simp only[Sh.sizes] at h2
        obtain⟨ZQ,g1,g2⟩:=ihf (off+s.size) l' hl' (by omega) fun f' hf'=>h3 f' (by simp[hf'])
        obtain⟨x,hx⟩:=h3 f (by simp)
        obtain⟨Xb,k1,k2,k3⟩:=ih hx hs1
        have aoQ:=k2.length
        refine⟨Xb++ZQ,by simp only[qb];exact⟨Xb,ZQ,rfl,k2,g1⟩,fun i v y hv hy=>?_⟩
        by_cases hi:i<Xb.length
        ·rw[List.getElem?_append_left hi] at hy
         refine k3 i v y ?_ hy
         rw[List.getElem?_take,if_pos (by omega),List.getElem?_drop,hoff]
         exact hv
        ·rw[List.getElem?_append_right (by omega)] at hy
         refine g2 (i-Xb.length) v y ?_ hy
         rw[←hv]
         congr 1
         omega
       ·cases h1
      ·cases h1
    obtain⟨ds,h1,h2⟩:=key fs.toList 0 l hl (by rw[dG,hc];omega) fun f hf'=>by
     obtain⟨i,hi⟩:=List.mem_iff_getElem?.1 hf'
     have:=hf i f (by simpa using hi)
     have mU:i<xs.length:=by
      have:=(List.getElem?_eq_some_iff.1 hi).1
      simp at this
      omega
     rw[List.getElem?_eq_getElem mU] at this
     exact⟨_,this⟩
    refine⟨ds,by rw[h1.length,dG,hc],by simp only[jN];exact h1,fun i v y hv hy=>h2 i v y (by simpa using hv) hy⟩
   ·cases hs
  ·cases hs

end
end
end

section
noncomputable section
open Go.RowKit Go.ChangeShapes Go.WideShapes

def zQ (s:Sh)(x:D):Prop:=(s.AM=true→∃cs,x=.agg cs∧jN s cs)∧(s.AM=false→jN s [x])

def ot:List Sh→List D→Prop
 | [],ds=>ds=[]
 | s :: r,ds=>∃x ys,ds=x :: ys∧zQ s x∧ot r ys

section
variable {H:Type} {enc:TypeId×Value→H} {P:Program} {W:World}

theorem aco {base n:Nat}{t:TypeId}{v:Value}{d:DataW H}{ps:List MemPlace}{sh:Sh}(hval:Value.okWide P W .any base t v)(h:DataW.Trod enc P W 0 (fun _=>true) true t v d ps)(hs:B8 P n t=some sh):∃x:D,bU W (F3 W) v x∧zQ sh x:=by
 obtain⟨fuel,hf⟩:=h
 obtain⟨ds,h1,h2,h3⟩:=Xi fuel hf hs
 have one:v.cells=#[v]→sh.AM=false→∃x:D,bU W (F3 W) v x∧zQ sh x:=by
  intro hc hst
  rw[hc] at h1 h3
  match ds,h1 with
  | [x],_=>exact⟨x,(h3 0 v x rfl rfl).1,(fun hh=>(by rw[hst] at hh;cases hh)),fun _=>h2⟩
 cases n with
 | zero=>simp[B8] at hs
 | succ n=>
  simp only[B8] at hs
  split at hs
  ·rename_i k ht
   cases hs
   obtain⟨m,rfl⟩:=okWide_int ht hval
   exact one rfl rfl
  ·rename_i ht
   cases hs
   obtain⟨m,rfl⟩:=okWide_bool ht hval
   exact one rfl rfl
  ·rename_i ht
   cases hs
   obtain⟨m,rfl⟩:=okWide_string ht hval
   exact one rfl rfl
  ·rename_i e ht
   obtain⟨s,_,hs⟩:=Option.bind_eq_some_iff.1 hs
   split at hs
   ·cases hs
    obtain⟨a,len,cap,rfl⟩:=okWide_slice ht hval
    exact one rfl rfl
   ·cases hs
  ·rename_i fs ht
   obtain⟨l,_,hs⟩:=Option.bind_eq_some_iff.1 hs
   split at hs
   ·cases hs
    obtain⟨cs,rfl,_⟩:=okWide_struct ht hval
    have hc:(Value.agg cs).cells=cs:=rfl
    rw[hc] at h1 h3
    refine⟨.agg ds,.agg (by rw[h1];simp) (fun i y hy=>?_) fun i u y hu hy=>(h3 i u y (by simpa using hu) hy).1,fun _=>⟨ds,rfl,h2⟩,fun hh=>by simp[Sh.AM] at hh⟩
    have hi:i<cs.size:=by
     have:=(List.getElem?_eq_some_iff.1 hy).1
     rw[h1] at this
     simpa using this
    exact(h3 i cs[i] y (by simp[hi]) hy).2
   ·cases hs
  ·cases hs

theorem QB {base n:Nat}:∀{ts:List TypeId} {vs:List Value} {ds:List (DataW H)} {ps:List MemPlace} {Mw:List Sh},(∀(j:Nat) t v,ts[j]? = some t→vs[j]? = some v→Value.okWide P W .any base t v)→DataW.TrodAll enc P W 0 (fun _=>true) true ts vs ds ps→ts.mapM (B8 P n)=some Mw →
  vs.length=ts.length∧ds.length=ts.length∧∃xs:List D,xs.length=vs.length∧ot Mw xs∧∀(i:Nat) (v:Value) (x:D),vs[i]? = some v→xs[i]? = some x→bU W (F3 W) v x
 | [],vs,ds,ps,Mw,_,h,hs=>by
  obtain⟨rfl,rfl,rfl⟩:=trodAll_nil h
  simp at hs
  subst hs
  exact⟨rfl,rfl,[],rfl,rfl,by simp⟩
 | t :: ts,vs,ds,ps,Mw,hv,h,hs=>by
  obtain⟨v,vs',d,ds',p,q,rfl,rfl,rfl,h0,h1⟩:=trodAll_cons h
  simp only[List.mapM_cons,Option.bind_eq_bind,Option.bind_eq_some_iff,Option.pure_def,Option.some.injEq] at hs
  obtain⟨s,hs1,r,fX,rfl⟩:=hs
  obtain⟨x,k1,k2⟩:=aco (hv 0 t v rfl rfl) h0 hs1
  obtain⟨g1,g1',xs,g2,g3,g4⟩:=QB (fun j t v ht Qcz=>hv (j+1) t v (by simpa using ht) (by simpa using Qcz)) h1 fX
  refine⟨by simp[g1],by simp[g1'],x :: xs,by simp[g2],⟨x,xs,rfl,k2,g3⟩,fun i v' x' Qcz hx'=>?_⟩
  cases i with
  | zero=>simp at Qcz hx';subst Qcz hx';exact k1
  | succ i=>exact g4 i v' x' (by simpa using Qcz) (by simpa using hx')

theorem wz {W':World}(hl:laidOutB P=true)(hb:Below W.heap.size W W'):∀{ts:List TypeId} {vs:List Value} {ds:List (DataW H)} {ps:List MemPlace},(∀t,t∈ts→P.readableRec t=true∧t<P.types.size)→(∀p,p∈ps→p.block<W.heap.size)→DataW.TrodAll enc P W 0 (fun _=>true) true ts vs ds ps →
  DataW.TrodAll enc P W' 0 (fun b=>decide (b<W.heap.size)) true ts vs ds ps
 | [],vs,ds,ps,_,_,h=>by
  obtain⟨rfl,rfl,rfl⟩:=trodAll_nil h
  exact trodAll_mk0
 | t :: ts,vs,ds,ps,ht,hp,h=>by
  obtain⟨v,vs',d,ds',p,q,rfl,rfl,rfl,h0,h1⟩:=trodAll_cons h
  exact trodAll_cons_mk (Below.trod hl (ht t (by simp)).1 (ht t (by simp)).2 h0 hb fun x hx=>hp x (by simp[hx])) (wz hl hb (fun t' ht'=>ht t' (by simp[ht'])) (fun x hx=>hp x (by simp[hx])) h1)

end
end
end

section
noncomputable section

def dK (f:D→Option D):List D→Option (List D)
 | []=>some []
 | x :: r=>(f x).bind fun y=>(dK f r).map (y :: ·)

def bD (bs:List D):Nat→D→Option D
 | 0,_=>none
 | n+1,d=>match d with
  | .v x=>some (.v x)
  | .agg cs=>(dK (bD bs n) cs).map .agg
  | .bq cs=>(dK (bD bs n) cs).map .bq
  | .ptr cs=>(dK (bD bs n) cs).map .ptr
  | .bh cs=>(dK (bD bs n) cs).map .bh
  | .oO t x=>(bD bs n x).map (.oO t)
  | .fn f a b=>(dK (bD bs n) a).bind fun a=>(dK (bD bs n) b).map (.fn f a)
  | .cq=>some (.bq [])
  | .loc i off=>(match bs[i]? with
   | some (.aE _ _ cs)=>(dK (bD bs n) (cs.drop off)).map .ptr
   | _=>none)
  | .sl i off len=>(match bs[i]? with
   | some (.aE _ sz cs)=>if off+len*sz≤cs.length then(dK (bD bs n) ((cs.drop off).take (len*sz))).map fun l=>.bq (if sz=1 then l else(chunks sz len l).map .agg) else none
   | _=>none)
  | _=>none

theorem jk {f:D→Option D}:∀{l l':List D},dK f l=some l'→l'.length=l.length∧∀(i:Nat) (y:D),l'[i]? = some y→∃x,l[i]? = some x∧f x=some y
 | [],l',h=>by cases h;exact⟨rfl,fun i y hi=>by simp at hi⟩
 | x :: r,l',h=>by
  simp only[dK,Option.bind_eq_some_iff,Option.map_eq_some_iff] at h
  obtain⟨y,h1,r',h2,rfl⟩:=h
  obtain⟨h3,h4⟩:=jk h2
  refine⟨by simp[h3],fun i z hi=>?_⟩
  cases i with
  | zero=>simp at hi;subst hi;exact⟨x,rfl,h1⟩
  | succ i=>exact h4 i z (by simpa using hi)

section
variable {bs:List D}

theorem uF {n:Nat}{d d':D}(h:bD bs n d=some d')(hd:d.one=true):d'.one=true:=by
 cases n with
 | zero=>cases h
 | succ n=>
  cases d <;> simp only[bD] at h <;> try (simp[D.one] at hd;done)
  case v x=>cases h;rfl
  case bq cs=>obtain⟨l,_,rfl⟩:=Option.map_eq_some_iff.1 h;rfl
  case ptr cs=>obtain⟨l,_,rfl⟩:=Option.map_eq_some_iff.1 h;rfl
  case oO t x=>obtain⟨l,_,rfl⟩:=Option.map_eq_some_iff.1 h;rfl
  case fn f a b=>
   obtain⟨a',_,h⟩:=Option.bind_eq_some_iff.1 h
   obtain⟨l,_,rfl⟩:=Option.map_eq_some_iff.1 h
   rfl
  case cq=>cases h;rfl
  case loc i off=>
   split at h
   ·obtain⟨l,_,rfl⟩:=Option.map_eq_some_iff.1 h;rfl
   ·cases h
  case sl i off len=>
   split at h
   ·split at h
    ·obtain⟨l,_,rfl⟩:=Option.map_eq_some_iff.1 h;rfl
    ·cases h
   ·cases h
  all_goals cases h

theorem tv {d:D}(h:d.one=true):d.cells=[d]:=by cases d <;> first | rfl | simp[D.one] at h

theorem DS {n:Nat}{e e':D}(h:bD bs n e=some e'):e'.cells.length=e.cells.length∧∀(j:Nat) (d':D),e'.cells[j]? = some d'→∃m d,m≤n∧e.cells[j]? = some d∧bD bs m d=some d':=by
 by_cases ho:e.one=true
 ·rw[tv ho,tv (uF h ho)]
  refine⟨rfl,fun j d' hj=>?_⟩
  cases j with
  | zero=>simp at hj;subst hj;exact⟨n,e,Nat.le_refl _,rfl,h⟩
  | succ j=>simp at hj
 ·cases n with
  | zero=>cases h
  | succ n=>
   cases e <;> simp only[bD] at h <;> try (simp[D.one] at ho;done)
   case agg cs=>
    obtain⟨l,hl,rfl⟩:=Option.map_eq_some_iff.1 h
    obtain⟨h1,h2⟩:=jk hl
    refine⟨h1,fun j d' hj=>?_⟩
    obtain⟨x,g1,g2⟩:=h2 j d' hj
    exact⟨n,x,Nat.le_succ _,g1,g2⟩
   case bh cs=>
    obtain⟨l,hl,rfl⟩:=Option.map_eq_some_iff.1 h
    refine⟨rfl,fun j d' hj=>?_⟩
    cases j with
    | zero=>simp[D.cells] at hj;subst hj;exact⟨n+1,_,Nat.le_refl _,rfl,by simp only[bD];exact h⟩
    | succ j=>simp[D.cells] at hj
   all_goals cases h

theorem DV {f:D→Option D}(hf:∀x y,f x=some y→y.iw=true):∀{l l':List D},dK f l=some l'→eG l'=true
 | [],l',h=>by cases h;rfl
 | x :: r,l',h=>by
  simp only[dK,Option.bind_eq_some_iff,Option.map_eq_some_iff] at h
  obtain⟨y,h1,r',h2,rfl⟩:=h
  simp[eG,hf x y h1,DV hf h2]

theorem Qbk:∀{l:List D} (k:Nat),eG l=true→eG (l.take k)=true
 | [],k,_=>by simp[eG]
 | x :: r,0,_=>rfl
 | x :: r,k+1,h=>by
  simp only[eG,Bool.and_eq_true] at h
  simp[eG,h.1,Qbk k h.2]

theorem DL:∀{l:List D} (k:Nat),eG l=true→eG (l.drop k)=true
 | [],k,_=>by simp[eG]
 | x :: r,0,h=>h
 | x :: r,k+1,h=>by
  simp only[eG,Bool.and_eq_true] at h
  exact DL k h.2

theorem yM {sz:Nat}:∀{n:Nat} {l:List D},eG l=true→eG ((chunks sz n l).map .agg)=true
 | 0,_,_=>rfl
 | n+1,l,h=>by simp[chunks,eG,D.iw,Qbk sz h,yM (DL sz h)]

theorem pe:∀{n:Nat} {d d':D},bD bs n d=some d'→d'.iw=true
 | 0,_,_,h=>by cases h
 | n+1,d,d',h=>by
  have hL:∀{l l':List D},dK (bD bs n) l=some l'→eG l'=true:=fun h=>DV (fun x y h=>pe h) h
  cases d <;> simp only[bD] at h
  case v x=>cases h;rfl
  case agg cs=>obtain⟨l,hl,rfl⟩:=Option.map_eq_some_iff.1 h;simpa[D.iw] using hL hl
  case bq cs=>obtain⟨l,hl,rfl⟩:=Option.map_eq_some_iff.1 h;simpa[D.iw] using hL hl
  case ptr cs=>obtain⟨l,hl,rfl⟩:=Option.map_eq_some_iff.1 h;simpa[D.iw] using hL hl
  case bh cs=>obtain⟨l,hl,rfl⟩:=Option.map_eq_some_iff.1 h;simpa[D.iw] using hL hl
  case oO t x=>obtain⟨l,hl,rfl⟩:=Option.map_eq_some_iff.1 h;simpa[D.iw] using pe hl
  case fn f a b=>
   obtain⟨a',ha,h⟩:=Option.bind_eq_some_iff.1 h
   obtain⟨l,hl,rfl⟩:=Option.map_eq_some_iff.1 h
   simp[D.iw,hL ha,hL hl]
  case cq=>cases h;rfl
  case loc i off=>
   split at h
   ·obtain⟨l,hl,rfl⟩:=Option.map_eq_some_iff.1 h;simpa[D.iw] using hL hl
   ·cases h
  case sl i off len=>
   split at h
   ·split at h
    ·obtain⟨l,hl,rfl⟩:=Option.map_eq_some_iff.1 h
     simp only[D.iw]
     split
     ·exact hL hl
     ·exact yM (hL hl)
    ·cases h
   ·cases h
  all_goals cases h

theorem SW {w:World}{S:Sets}{aJ F:Nat→Prop}(hst:dF w S aJ bs)(hF:∀(i:Nat) (e:TypeId) (sz:Nat) (cs:List D),bs[i]? = some (.aE e sz cs)→F (S.loc i)):∀(n m:Nat),m≤n→∀{d d':D} {v:Value},bU w S v d→bD bs m d=some d'→bU w (S.or fun b _=>F b) v d'
 | 0,m,hm,d,d',v,_,h=>by
  have:m=0:=by omega
  subst this
  cases h
 | n+1,0,_,d,d',v,_,h=>by cases h
 | n+1,m+1,hm,d,d',v,hr,h=>by
  have ih:=@SW w S aJ F hst hF n
  have hmn:m≤n:=by omega
  have Y9:∀{i off k:Nat} {e:TypeId} {sz:Nat} {cs l:List D},bs[i]? = some (.aE e sz cs)→off+k≤cs.length→dK (bD bs m) ((cs.drop off).take k)=some l→l.length=k∧∃val:Nat→Value,∀(j:Nat) (y:D),l[j]? = some y→y.one=true∧w.cell? ⟨S.loc i,off+j,none⟩=some (val j)∧bU w (S.or fun b _=>F b) (val j) y:=by
   intro i off k e sz cs l hb hk hl
   obtain⟨hf,vs,⟨e2,hh,_⟩,hvs,dG,hone,hrd,oa⟩:=hst.cells i e sz cs hb
   obtain⟨h1,h2⟩:=jk hl
   refine⟨by rw[h1];simp;omega,fun j=>vs.getD (off+j) undef,fun j y hj=>?_⟩
   obtain⟨x,g1,g2⟩:=h2 j y hj
   have hjk:j<k:=by
    have:=(List.getElem?_eq_some_iff.1 g1).1
    simp at this
    omega
   rw[List.getElem?_take_of_lt hjk,List.getElem?_drop] at g1
   have hlt:off+j<vs.size:=by omega
   have hv:vs[off+j]? = some (vs.getD (off+j) undef):=by simp[Array.getD_eq_getD_getElem?,hlt]
   exact⟨uF g2 (hone _ _ g1),by rw[gD hh];exact hv,ih m hmn (hrd _ _ _ hv g1) g2⟩
  cases d <;> simp only[bD] at h
  case v x=>cases h;cases hr with | v hp=>exact .v hp
  case agg cs=>
   obtain⟨l,hl,rfl⟩:=Option.map_eq_some_iff.1 h
   obtain⟨h1,h2⟩:=jk hl
   cases hr with
   | agg hs ho hh=>
    refine .agg (by rw[hs,h1]) (fun i y hi=>?_) fun i u y hu hi=>?_
    ·obtain⟨x,g1,g2⟩:=h2 i y hi
     exact uF g2 (ho i x g1)
    ·obtain⟨x,g1,g2⟩:=h2 i y hi
     exact ih m hmn (hh i u x hu g1) g2
  case bq cs=>
   obtain⟨l,hl,rfl⟩:=Option.map_eq_some_iff.1 h
   obtain⟨h1,h2⟩:=jk hl
   cases hr with
   | nil=>cases hl;exact .nil
   | emp hm'=>cases hl;exact .emp hm'
   | @bq b off len cap size es val hs hc hx hz ho hS hw hh=>
    have zf:∀(i:Nat) (e':D) (j:Nat) (d':D),l[i]? = some e'→e'.cells[j]? = some d'→∃e k d,cs[i]? = some e∧e.cells[j]? = some d∧k≤n∧bD bs k d=some d':=by
     intro i e' j d' hi hj
     obtain⟨e,g1,g2⟩:=h2 i e' hi
     obtain⟨_,g3⟩:=DS g2
     obtain⟨k,d,g4,g5,g6⟩:=g3 j d' hj
     exact⟨e,k,d,g1,g5,by omega,g6⟩
    refine .bq (size:=size) (val:=val) (by rw[hs,h1]) hc hx (fun i e' hi=>?_) (fun i e' j d' hi hj=>?_) (fun i e' j d' hi hj=>?_) (fun i e' j d' hi hj=>?_) fun i e' j d' hi hj=>?_
    ·obtain⟨e,g1,g2⟩:=h2 i e' hi
     rw[(DS g2).1]
     exact hz i e g1
    ·obtain⟨e,k,d,g1,g2,g3,g4⟩:=zf i e' j d' hi hj
     exact uF g4 (ho i e j d g1 g2)
    ·obtain⟨e,k,d,g1,g2,g3,g4⟩:=zf i e' j d' hi hj
     exact .inl (hS i e j d g1 g2)
    ·obtain⟨e,k,d,g1,g2,g3,g4⟩:=zf i e' j d' hi hj
     exact hw i e j d g1 g2
    ·obtain⟨e,k,d,g1,g2,g3,g4⟩:=zf i e' j d' hi hj
     exact ih k g3 (hh i e j d g1 g2) g4
  case ptr cs=>
   obtain⟨l,hl,rfl⟩:=Option.map_eq_some_iff.1 h
   obtain⟨h1,h2⟩:=jk hl
   cases hr with
   | @ptr b off cs val ho hS hw hh=>
    refine .ptr (val:=val) (fun j y hj=>?_) (fun j y hj=>?_) (fun j y hj=>?_) fun j y hj=>?_
    ·obtain⟨x,g1,g2⟩:=h2 j y hj
     exact uF g2 (ho j x g1)
    ·obtain⟨x,g1,g2⟩:=h2 j y hj
     exact .inl (hS j x g1)
    ·obtain⟨x,g1,g2⟩:=h2 j y hj
     exact hw j x g1
    ·obtain⟨x,g1,g2⟩:=h2 j y hj
     exact ih m hmn (hh j x g1) g2
  case bh cs=>
   obtain⟨l,hl,rfl⟩:=Option.map_eq_some_iff.1 h
   obtain⟨h1,h2⟩:=jk hl
   cases hr with
   | bh hs hh=>
    refine .bh (by rw[hs,h1]) fun i u y hu hi=>?_
    obtain⟨x,g1,g2⟩:=h2 i y hi
    exact ih m hmn (hh i u x hu g1) g2
  case oO t x=>
   obtain⟨y,hy,rfl⟩:=Option.map_eq_some_iff.1 h
   cases hr with
   | oO hh=>exact .oO (ih m hmn hh hy)
  case fn f a b=>
   obtain⟨a',ha,h⟩:=Option.bind_eq_some_iff.1 h
   obtain⟨b',hb,rfl⟩:=Option.map_eq_some_iff.1 h
   obtain⟨a1,a2⟩:=jk ha
   obtain⟨b1,b2⟩:=jk hb
   cases hr with
   | fn hs hs' hh hh'=>
    refine .fn (by rw[hs,a1]) (by rw[hs',b1]) (fun i u y hu hi=>?_) fun i u y hu hi=>?_
    ·obtain⟨x,g1,g2⟩:=a2 i y hi
     exact ih m hmn (hh i u x hu g1) g2
    ·obtain⟨x,g1,g2⟩:=b2 i y hi
     exact ih m hmn (hh' i u x hu g1) g2
  case cq=>cases h;cases hr with | cq=>exact .nil
  case loc i off=>
   split at h
   ·rename_i e sz cs hb
    obtain⟨l,hl,rfl⟩:=Option.map_eq_some_iff.1 h
    cases hr with
    | loc hi=>
     by_cases ho:off≤cs.length
     ·have hl':dK (bD bs m) ((cs.drop off).take (cs.length-off))=some l:=by rw[List.take_of_length_le (by simp)];exact hl
      obtain⟨_,val,hv⟩:=Y9 hb (by omega) hl'
      have hf:=hF i e sz cs hb
      exact .ptr (val:=val) (fun j y hj=>(hv j y hj).1) (fun j y hj=>.inr hf) (fun j y hj=>(hv j y hj).2.1) fun j y hj=>(hv j y hj).2.2
     ·rw[List.drop_of_length_le (by omega)] at hl
      cases hl
      exact .ptr (val:=fun _=>undef) (fun j y hj=>by simp at hj) (fun j y hj=>by simp at hj) (fun j y hj=>by simp at hj) fun j y hj=>by simp at hj
   ·cases h
  case sl i off len=>
   split at h
   ·rename_i e sz cs hb
    split at h
    ·rename_i hle
     obtain⟨l,hl,rfl⟩:=Option.map_eq_some_iff.1 h
     obtain⟨Zw,val,hv⟩:=Y9 hb hle hl
     have hf:=hF i e sz cs hb
     have hel:∀(k:Nat) (x:D),(if sz=1 then l else(chunks sz len l).map .agg)[k]? = some x→x.cells.length=sz∧∀(j:Nat) (y:D),x.cells[j]? = some y→l[k*sz+j]? = some y:=by
      intro k x hx
      split at hx
      ·rename_i h1
       subst h1
       have ho:=(hv k x hx).1
       rw[tv ho]
       refine⟨rfl,fun j y hy=>?_⟩
       cases j with
       | zero=>simp at hy;subst hy;rw[Nat.mul_one];exact hx
       | succ j=>simp at hy
      ·have hk:k<len:=by
        have:=(List.getElem?_eq_some_iff.1 hx).1
        simpa[Qry] using this
       rw[List.getElem?_map,xS hk] at hx
       cases hx
       have hks:k*sz+sz≤len*sz:=by
        have:=Nat.mul_le_mul_right sz (Nat.succ_le_of_lt hk)
        rw[Nat.succ_mul] at this
        exact this
       refine⟨by simp[D.cells];omega,fun j y hy=>?_⟩
       simp only[D.cells] at hy
       have hjs:j<sz:=by
        have:=(List.getElem?_eq_some_iff.1 hy).1
        simp at this
        omega
       rw[List.getElem?_take_of_lt hjs,List.getElem?_drop] at hy
       exact hy
     have hlen:(if sz=1 then l else(chunks sz len l).map D.agg).length=len:=by
      split
      ·rename_i h1;rw[Zw,h1,Nat.mul_one]
      ·simp[Qry]
     cases hr with
     | sl hi hlc GR h0=>
      refine .bq (size:=sz) (val:=fun k j=>val (k*sz+j)) hlen.symm hlc GR (fun k x hx=>(hel k x hx).1) (fun k x j y hx hy=>(hv _ y ((hel k x hx).2 j y hy)).1) (fun k x j y hx hy=>.inr hf) (fun k x j y hx hy=>?_) fun k x j y hx hy=>(hv _ y ((hel k x hx).2 j y hy)).2.2
      have:=(hv _ y ((hel k x hx).2 j y hy)).2.1
      rw[Nat.add_assoc]
      exact this
    ·cases h
   ·cases h
  all_goals cases h

theorem yR {w:World}{S:Sets}{aJ:Nat→Prop}(hst:dF w S aJ bs)(n m:Nat)(hm:m≤n){d d':D}{v:Value}(hr:bU w S v d)(h:bD bs m d=some d'):bU w (S.or fun b _=>aJ b) v d':=
 SW hst (fun i e sz cs hi=>(hst.cells i e sz cs hi).1) n m hm hr h

end

theorem eN.bD {P:Program}{f:FuncId}{ds bs':List D}{d d':D}{n:Nat}(h:eN P f (.st []) ds (.ret d) (.st bs'))(hds:eG ds=true)(hm:Go.Am.bD bs' n d=some d')(bs:List D):aP P f (.st bs) ds d':=by
 intro w S aJ rp vs hb hst dP hfl hS hvl hrd
 let S0:Sets:={ mem:=S.mem,loc:=fun _=>0,n:=0,cap:=fun _=>0 }
 have IL:dF w S0 (fun _=>False) []:=⟨rfl,fun i e sz cs hi=>by simp at hi,fun b off hf=>hf.elim,fun i dL hi=>by simp at hi,fun i j x y hi=>by simp at hi,fun i z hi=>by simp at hi⟩
 refine(h w S0 (fun _=>False) [] vs rfl IL (fun l rec hl=>by cases hl) (fun _ hf=>hf.elim) hS hvl fun i v x hv hx=>(hrd i v x hv hx).free (fun _ _ h=>h) (ji hds hx)).mono ?_
 rintro e w' ⟨v,S',bV,ia,gj,oh,fp,hK,hle,hos,BD,hout,hsz,hold,hft,hnew,hlt⟩
 cases oh
 refine⟨v,{ S with mem:=(S'.or fun b _=>bV b).mem },⟨gj.1,(yR fp n n (Nat.le_refl _) gj.2 hm).free (fun _ _ h=>h) (pe hm)⟩,⟨⟨hos,BD.tape,hout,hsz,fun b hb=>hold b hb fun hf=>hf⟩,BD.dr⟩,⟨fun b o h=>.inl (hle.mem b o h),Nat.le_refl _,fun _ _=>rfl,fun _ _=>rfl,rfl,fun _ _=>rfl⟩,rfl,fun b o hs=>?_,fun b o hs=>?_⟩
 ·rcases hs with hs | hs
  ·rcases hnew b o hs with g | g | g
   ·exact .inl g
   ·exact g.elim
   ·exact .inr g
  ·exact .inr ((hft b hs).1.elim (fun h=>h.elim) id)
 ·rcases hs with hs | hs
  ·exact hlt b o hs
  ·exact(hft b hs).2

def lf:List D→Bool
 | []=>true
 | [.ju _ _ _]=>true
 | _=>false

theorem akZ {w:World}{S:Sets}{aJ:Nat→Prop}{g:Nat}{t:TypeId}{vs:List Value}{bs:List D}(hst:dF w S aJ (.ju g t vs :: bs))(hfl:∀b,aJ b→b<w.heap.size) :
  S.loc 0=g∧aJ g∧g<w.heap.size∧w.heap[g]? = some (.cells vs.toArray t (0,0))∧(∀off,¬S g off)∧dF w { mem:=S.mem,loc:=fun _=>g,n:=1,cap:=fun _=>0 } (fun b=>b=g) [.ju g t vs]:=by
 obtain⟨hf,⟨wo,hh,BF⟩,oa⟩:=hst.FJ 0 _ rfl rfl
 rw[wo] at hf hh oa
 refine⟨wo,hf,hfl g hf,hh,oa,rfl,fun i e sz cs hi=>?_,fun b off hb hs=>?_,fun i dL hi=>?_,fun i j x y hi hj _ _ _=>?_,fun i z hi hz=>?_⟩
 ·cases i <;> simp at hi
 ·subst hb;exact oa off hs
 ·cases i <;> simp at hi
 ·have:=(List.getElem?_eq_some_iff.1 hi).1
  have:=(List.getElem?_eq_some_iff.1 hj).1
  simp at *
  omega
 ·cases i with
  | zero=>simp at hi;subst hi;exact⟨rfl,⟨rfl,hh,BF⟩,oa⟩
  | succ i=>simp at hi

theorem eN.avI {P:Program}{f:FuncId}{ds bs':List D}{d d':D}{n:Nat}{g:Nat}{t:TypeId}{vs:List Value}(h:eN P f (.st [.ju g t vs]) ds (.ret d) (.st (.ju g t vs :: bs')))(hds:eG ds=true)(hm:Go.Am.bD (.ju g t vs :: bs') n d=some d')(bs:List D):aP P f (.st (.ju g t vs :: bs)) ds d':=by
 intro w S aJ rp ws hb hst dP hfl hS hvl hrd
 cases hb
 obtain⟨wo,hfg,hgl,hhg,oa,IL⟩:=akZ hst hfl
 refine(h w _ _ _ ws rfl IL (fun l rec hl=>by cases hl) (fun b hb=>hb ▸ hgl) hS hvl fun i v x hv hx=>(hrd i v x hv hx).free (fun _ _ h=>h) (ji hds hx)).mono ?_
 rintro e w' ⟨v,S',bV,ia,gj,oh,fp,hK,hle,hos,BD,hout,hsz,hold,hft,hnew,hlt⟩
 cases oh
 obtain⟨hf0,⟨Vd,hh',_⟩,_⟩:=fp.FJ 0 _ rfl rfl
 rw[Vd] at hh' hf0
 have hF:∀(i:Nat) (e:TypeId) (sz:Nat) (cs:List D),(D.ju g t vs :: bs')[i]? = some (.aE e sz cs)→bV (S'.loc i)∧S'.loc i≠g:=by
  intro i e sz cs hi
  refine⟨(fp.cells i e sz cs hi).1,fun he=>?_⟩
  have:=fp.inj i 0 _ _ hi rfl rfl rfl (he.trans Vd.symm)
  subst this
  simp at hi
 have hold':∀b,b<w.heap.size→w'.heap[b]? = w.heap[b]?:=by
  intro b hb
  by_cases hbg:b=g
  ·rw[hbg,hh',hhg]
  ·exact hold b hb hbg
 refine⟨v,{ S with mem:=(S'.or fun b _=>bV b∧b≠g).mem },⟨gj.1,(SW fp hF n n (Nat.le_refl _) gj.2 hm).free (fun _ _ h=>h) (pe hm)⟩,⟨⟨hos,BD.tape,hout,hsz,fun b hb=>hold' b hb⟩,BD.dr⟩,⟨fun b o h=>.inl (hle.mem b o h),Nat.le_refl _,fun _ _=>rfl,fun _ _=>rfl,rfl,fun _ _=>rfl⟩,rfl,fun b o hs=>?_,fun b o hs=>?_⟩
 ·rcases hs with hs | hs
  ·rcases hnew b o hs with k | k | k
   ·exact .inl k
   ·exfalso
    subst k
    exact fp.Cw _ o hf0 hs
   ·exact .inr k
  ·rcases(hft b hs.1).1 with k | k
   ·exact absurd k hs.2
   ·exact .inr k
 ·rcases hs with hs | hs
  ·exact hlt b o hs
  ·exact(hft b hs.1).2

theorem eN.ao3 {P:Program}{f:FuncId}{ds bs':List D}{o:Out}{g:Nat}{t:TypeId}{vs:List Value}(h:eN P f (.st [.ju g t vs]) ds o (.st (.ju g t vs :: bs')))(hds:eG ds=true)(ho:o.iw=true)(bs:List D):k8 P f (.st (.ju g t vs :: bs)) ds o:=by
 intro w S aJ rp ws hb hst dP hfl hS hvl hrd
 cases hb
 obtain⟨wo,hfg,hgl,hhg,oa,IL⟩:=akZ hst hfl
 refine(h w _ _ _ ws rfl IL (fun l rec hl=>by cases hl) (fun b hb=>hb ▸ hgl) hS hvl fun i v x hv hx=>(hrd i v x hv hx).free (fun _ _ h=>h) (ji hds hx)).mono ?_
 rintro e w' ⟨v,S',bV,ia,gj,oh,fp,hK,hle,hos,BD,hout,hsz,hold,hft,hnew,hlt⟩
 cases oh
 obtain⟨hf0,⟨Vd,hh',_⟩,_⟩:=fp.FJ 0 _ rfl rfl
 rw[Vd] at hh' hf0
 have hold':∀b,b<w.heap.size→w'.heap[b]? = w.heap[b]?:=by
  intro b hb
  by_cases hbg:b=g
  ·rw[hbg,hh',hhg]
  ·exact hold b hb hbg
 refine⟨v,{ S with mem:=S'.mem },?_,⟨⟨hos,BD.tape,hout,hsz,hold'⟩,BD.dr⟩,⟨hle.mem,Nat.le_refl _,fun _ _=>rfl,fun _ _=>rfl,rfl,fun _ _=>rfl⟩,rfl,fun b o hs=>?_,hlt⟩
 ·cases o with
  | ret d=>exact⟨gj.1,gj.2.free (fun _ _ h=>h) ho⟩
  | fc d=>exact⟨gj.1,gj.2.free (fun _ _ h=>h) ho⟩
 ·rcases hnew b o hs with k | k | k
  ·exact .inl k
  ·exfalso
   subst k
   exact fp.Cw _ o hf0 hs
  ·exact .inr k

theorem k8.atf {P:Program}{f:FuncId}{ds:List D}{o:Out}{g:Nat}{t:TypeId}{vs:List Value}(h:k8 P f (.st [.ju g t vs]) ds o)(hds:eG ds=true)(ho:o.iw=true)(bs:List D):k8 P f (.st (.ju g t vs :: bs)) ds o:=by
 intro w S aJ rp ws hb hst dP hfl hS hvl hrd
 cases hb
 obtain⟨wo,hfg,hgl,hhg,oa,IL⟩:=akZ hst hfl
 refine(h w _ _ _ ws rfl IL (fun l rec hl=>by cases hl) (fun b hb=>hb ▸ hgl) hS hvl fun i v x hv hx=>(hrd i v x hv hx).free (fun _ _ h=>h) (ji hds hx)).mono ?_
 rintro e w' ⟨v,S',gj,hb,hle,CC,hnew,hlt⟩
 refine⟨v,{ S with mem:=S'.mem },?_,hb,⟨hle.mem,Nat.le_refl _,fun _ _=>rfl,fun _ _=>rfl,rfl,fun _ _=>rfl⟩,rfl,hnew,hlt⟩
 cases o with
 | ret d=>exact⟨gj.1,gj.2.free (fun _ _ h=>h) ho⟩
 | fc d=>exact⟨gj.1,gj.2.free (fun _ _ h=>h) ho⟩

def Qqx (b0 bs:List D):Bool:=D.jJ (bs.take b0.length) b0

theorem Qky {b0 bs:List D}(h:Qqx b0 bs=true):∃r,bs=b0++r:=⟨bs.drop b0.length,by
 have:=D.gb h
 conv=>lhs;rw[←List.take_append_drop b0.length bs,this]⟩

theorem tt {b0:List D}(h:lf b0=true):b0=[]∨∃g t vs,b0=[.ju g t vs]:=by
 unfold lf at h
 split at h
 ·exact .inl rfl
 ·exact .inr ⟨_,_,_,rfl⟩
 ·cases h

theorem eN.ar_ {P:Program}{f:FuncId}{b0 ds r:List D}{d d':D}{n:Nat}(h0:lf b0=true)(h:eN P f (.st b0) ds (.ret d) (.st (b0++r)))(hds:eG ds=true)(hm:Go.Am.bD (b0++r) n d=some d')(bs:List D):aP P f (.st (b0++bs)) ds d':=by
 rcases tt h0 with rfl | ⟨g,t,vs,rfl⟩
 ·exact eN.bD h hds hm bs
 ·exact eN.avI h hds hm bs

theorem eN.ao4 {P:Program}{f:FuncId}{b0 ds r:List D}{o:Out}(h0:lf b0=true)(h:eN P f (.st b0) ds o (.st (b0++r)))(hds:eG ds=true)(ho:o.iw=true)(bs:List D):k8 P f (.st (b0++bs)) ds o:=by
 rcases tt h0 with rfl | ⟨g,t,vs,rfl⟩
 ·exact h.Uv hds ho bs
 ·exact h.ao3 hds ho bs

theorem k8.ofA {P:Program}{f:FuncId}{b0 ds:List D}{o:Out}(h0:lf b0=true)(h:k8 P f (.st b0) ds o)(hds:eG ds=true)(ho:o.iw=true)(bs:List D):k8 P f (.st (b0++bs)) ds o:=by
 rcases tt h0 with rfl | ⟨g,t,vs,rfl⟩
 ·exact h.DI hds bs
 ·exact h.atf hds ho bs

end
end

section
noncomputable section

/-! ## expressions aiY do not name one of Qiw data -/

def E.Qdj (k:Nat):E→Bool
 | .sym j=>j != k
 | .const _ | .nil | .ax=>true
 | .un _ a | .conv _ a | .aR a | .uJ a | .bt a | .cell _ a | .cells _ _ a | .bB _ a | .one a | .gE a | .Qrx _ a | .rep _ a _ | .deref a | .oO _ a | .ay _ a | .nn a | .aU a=>a.Qdj k
 | .bin _ _ a b | .idx a b | .uS _ a b | .cons a b | .app _ _ a b | .bz a b | .gV _ a b | .aa a b | .mm _ a b | .aj _ a b | .ld _ _ a b | .cI _ _ a b | .a_ _ _ a b | .bO a b | .ve _ a b | .vf a b | .guard a _ b=>a.Qdj k&&b.Qdj k
 | .sub _ a b c | .set a b _ c | .ite a b c | .gQ _ a b c | .fU _ _ _ a b c | .apps a b c=>a.Qdj k&&b.Qdj k&&c.Qdj k
 | .m4 _ a b c d=>a.Qdj k&&b.Qdj k&&c.Qdj k&&d.Qdj k

theorem E.OB {k : Nat} {env env' : List D} (he : ∀ j, j ≠ k → env'[j]? = env[j]?) : ∀ (x : E), x.Qdj k = true → x.eval env' = x.eval env := by
  intro x
  induction x <;> intro h <;> simp only [E.Qdj, Bool.and_eq_true, bne_iff_ne, ne_eq] at h <;> simp only [E.eval]
  case sym j => exact he j h
  case ite c a b hc ha hb => rw [hc h.1.1, ha h.1.2, hb h.2]
  case guard c w a hc ha => rw [hc h.1, ha h.2]
  all_goals first
    | rfl
    | (rename_i ha; rw [ha h])
    | (rename_i ha hb; rw [ha h.1, hb h.2])
    | (rename_i ha hb hc; rw [ha h.1.1, hb h.1.2, hc h.2])
    | (rename_i ha hb hc hd; rw [ha h.1.1.1, hb h.1.1.2, hc h.1.2, hd h.2])

/-! ## Qiw evaluator -/

def Qe:Option D→Option Bool
 | some (.oM b)=>some b
 | _=>none

def IB:Option D→Bool
 | some (.bh [])=>true
 | _=>false

theorem K_ {x:Option D}{b:Bool}(h:Qe x=some b):x=some (.oM b):=by
 unfold Qe at h
 split at h
 ·cases h;rfl
 ·cases h

theorem AN {x:Option D}(h:IB x=true):x=some (.bh []):=by
 unfold IB at h
 split at h
 ·rfl
 ·cases h

structure JA where
 R:FuncId→D→List D→Option Out
 W:FuncId→D→List D→Option (Out×D)
 F:FuncId→D→List D→Option D→Option D
 I:FuncId→D→List D→List D→(D→List D→Option (Bool×D))→Option (D×D)

abbrev Hand:=D→List D→Option (Bool×D)

def TG (l:Nat)(q:Option Nat)(i:Nat):iD→Option (Bool×D)
 | .jump l' [.st bs]=>if IB bs[i]? = true then(if l'=l then some (true,.st (bs.set i (.oM false))) else if l'=l+1∧q.isSome=true then some (false,.st (bs.set i (.oM true))) else none) else none
 | .ret (.st bs)=>if IB bs[i]? = true∧q=none then some (false,.st (bs.set i (.oM true))) else none
 | _=>none

def tX (yk:Option (Nat×Hand))(env:List D)(x:E):Option D:=
 match yk with
 | none=>x.eval env
 | some (k,_)=>if x.Qdj k=true then x.eval env else none

def iP (yk:Option (Nat×Hand))(env:List D):List E→Option (List D)
 | []=>some []
 | x :: r=>(tX yk env x).bind fun d=>(iP yk env r).map (d :: ·)

def r5 (yk:Option (Nat×Hand))(env:List D):List (E×Bool)→Option Bool
 | []=>some true
 | p :: r=>(tX yk env p.1).bind fun d=>(r5 yk env r).map fun b=>D.same d (.v (.bool p.2))&&b

def HM:iD→iD→Bool
 | .jump l a,.jump m b=>decide (l=m)&&D.jJ a b
 | .ret a,.ret b=>D.same a b
 | .fc a b s c,.fc a' b' s' c'=>D.same a a'&&D.same b b'&&decide (s=s')&&D.jJ c c'
 | _,_=>false

def vl (l:Nat)(body:List D→Option iD):Nat→List D→Option iD
 | 0,_=>none
 | n+1,ds=>(body ds).bind fun s=>match s with
  | .jump l' ds'=>if l'=l then vl l body n ds' else some s
  | _=>some s

def aaS (yk:Option (Nat×Hand))(x:E):Option Hand:=
 match yk,x with
 | some (k,hd),.sym j=>if j=k then some hd else none
 | _,_=>none

def nF (P : Program) (o : JA) (n : Nat) (yk : Option (Nat × Hand)) : T → List D → Option iD
  | .bind (.ev x) t, env => (tX yk env x).bind fun d => nF P o n yk t (env ++ [d])
  | .bind (.call act f h args rs) t, env => (r5 yk env act).bind fun b =>
      if b = true then (tX yk env h).bind fun st => (iP yk env args).bind fun ds => (o.R f st ds).bind fun r => match r with
        | .ret d => if d.fits rs = true then nF P o n yk t (env ++ [d]) else none
        | .fc _ => none
      else nF P o n yk t (env ++ [D.undef])
  | .bind (.bQ act f h args rs) t, env => (r5 yk env act).bind fun b => (tX yk env h).bind fun st =>
      if b = true then (iP yk env args).bind fun ds => (o.W f st ds).bind fun r => match r with
        | (.ret d, h') => if d.fits rs = true then nF P o n yk t (env ++ [.bh [d, h']]) else none
        | _ => none
      else nF P o n yk t (env ++ [.bh [D.undef, st]])
  | .bind (.fu act x h args rs) t, env => (r5 yk env act).bind fun b =>
      if b = true then (tX yk env x).bind fun xd => (tX yk env h).bind fun st => (iP yk env args).bind fun ds => match xd with
        | .fn f us cs => if bJ P f = true then (o.R f st (us ++ ds ++ cs)).bind fun r => match r with
          | .ret d => if d.fits rs = true then nF P o n yk t (env ++ [d]) else none
          | .fc _ => none
          else none
        | _ => none
      else nF P o n yk t (env ++ [D.undef])
  | .bind (.fC act x h args rs) t, env => (r5 yk env act).bind fun b => (tX yk env h).bind fun st =>
      if b = true then (iP yk env args).bind fun ds => match aaS yk x with
        | some hd => (hd st ds).bind fun r => if (D.bool r.1).fits rs = true then nF P o n yk t (env ++ [.bh [.bool r.1, r.2]]) else none
        | none => (tX yk env x).bind fun xd => match xd with
          | .fn f us cs => if bJ P f = true then (o.W f st (us ++ ds ++ cs)).bind fun r => match r with
            | (.ret d, h') => if d.fits rs = true then nF P o n yk t (env ++ [.bh [d, h']]) else none
            | _ => none
            else none
          | _ => none
      else nF P o n yk t (env ++ [.bh [D.undef, st]])
  | .ite c a b, env => (tX yk env c).bind fun d => match d with
    | .v (.bool true) => nF P o n yk a env
    | .v (.bool false) => nF P o n yk b env
    | _ => none
  | .loop l inits body, env => (iP yk env inits).bind fun ds => vl l (fun ds => if ds.length = inits.length then nF P o n yk body (env ++ ds) else none) n ds
  | .join l m body rest, env => (nF P o n yk body env).bind fun s => match s with
    | .jump l' ds => if l' = l then (if ds.length = m then nF P o n yk rest (env ++ ds) else none) else some s
    | _ => some s
  | .jump l vals, env => (iP yk env vals).map (.jump l)
  | .ret x, env => (tX yk env x).map .ret
  | .fc x h sl ks, env => (tX yk env x).bind fun d => (tX yk env h).bind fun st => (iP yk env ks).map fun kd => .fc d st sl kd
  | .nk x neg t, env => (tX yk env x).bind fun d => match d.isNil with
    | some [b] => nF P o n yk t (env ++ [.v (.bool (b != neg))])
    | some [b, c] => (nF P o n yk t (env ++ [.v (.bool (b != neg))])).bind fun s => (nF P o n yk t (env ++ [.v (.bool (c != neg))])).bind fun s' => if HM s s' = true then some s else none
    | _ => none
  | .pick _ _, _ => none
  | .Jc f keep bT res t, env => (iP yk env bT).bind fun fk => if fk.all D.La = true then (nF P o n yk t env).bind fun s => match s with
      | .ret (.bh [.bh kd, st]) => (o.F f st fk none).bind fun gO => (res.eval (kd ++ [gO])).map fun d' => .ret (.bh [d', gO])
      | .fc d st sl kd => if sl = keep then (o.F f st fk (some d)).bind fun gO => (res.eval (kd ++ [gO])).map fun d' => .ret (.bh [d', gO]) else none
      | _ => none
    else none
  | .kV f h args rs sl ks t, env => (tX yk env h).bind fun st => (iP yk env args).bind fun ds => (o.R f st ds).bind fun r => match r with
    | .ret d => if d.fits rs = true then nF P o n yk t (env ++ [d]) else none
    | .fc d => (iP yk env ks).map fun kd => .fc d st sl kd
  | .iH f h args rs sl ks t, env => (tX yk env h).bind fun st => (iP yk env args).bind fun ds => (o.W f st ds).bind fun r => match r with
    | (.ret d, h') => if d.fits rs = true then nF P o n yk t (env ++ [.bh [d, h']]) else none
    | (.fc d, h') => (iP yk env ks).map fun kd => .fc d h' sl kd
  | .gu x h args rs sl ks t, env => (tX yk env x).bind fun xd => (tX yk env h).bind fun st => (iP yk env args).bind fun ds => match xd with
    | .fn f us cs => if bJ P f = true then (o.W f st (us ++ ds ++ cs)).bind fun r => match r with
      | (.ret d, h') => if d.fits rs = true then nF P o n yk t (env ++ [.bh [d, h']]) else none
      | (.fc d, h') => (iP yk env ks).map fun kd => .fc d h' sl kd
      else none
    | _ => none
  | .Qsz x h _ bT m l body rest, env => match yk with
    | some _ => none
    | none => (x.eval env).bind fun xd => (h.eval env).bind fun st => (aM env bT).bind fun fk => match xd with
      | .fn f us cs => if bJ P f = true ∧ cN fk = true then
          (o.I f st us cs fun Qjv ds => if Qjv.gK = true ∧ cN ds = true ∧ ds.length = m then (match nF P o n none body (env ++ [Qjv] ++ ds) with
            | some (.jump l' [Qhx]) => if l' = l then some (true, Qhx) else none
            | _ => none) else none).bind fun r => if r.2.gK = true then nF P o n none rest (env ++ [r.2]) else none
        else none
      | _ => none
  | .lz x h _ bT m l q body rest tR, env => match yk with
    | some _ => none
    | none => (x.eval env).bind fun xd => (h.eval env).bind fun st => (aM env bT).bind fun _ => match xd, st with
      | .fn f us cs, .st bs => if bJ P f = true then
          (o.I f (.st (bs ++ [.oM false])) us cs fun Qjv ds => match Qjv with
            | .st ia => if Qe ia[bs.length]? = some false ∧ ds.length = m then (nF P o n none body (env ++ [.st (ia.set bs.length (.bh []))] ++ ds)).bind (TG l q bs.length) else none
            | _ => none).bind fun r => match r.2 with
            | .st lg => (Qe lg[bs.length]?).bind fun b => bif b then nF P o n none tR (env ++ [.st (lg.set bs.length (.bh []))]) else nF P o n none rest (env ++ [.st (lg.set bs.length (.bh []))])
            | _ => none
        else none
      | _, _ => none

theorem MZ {l i:Nat}{q:Option Nat}{s:iD}{b:Bool}{st:D}(h:TG l q i s=some (b,st)):∃bs,s=Dl l q b (.st bs)∧st=.st (bs.set i (.oM !b))∧bs[i]? = some (.bh []):=by
 unfold TG at h
 split at h
 ·rename_i l' bs
  split at h
  ·rename_i hd
   split at h
   ·rename_i hl
    cases h
    exact⟨bs,by rw[hl];rfl,rfl,AN hd⟩
   ·split at h
    ·rename_i hq
     cases h
     obtain⟨hl,hq⟩:=hq
     cases q with
     | none=>cases hq
     | some id=>exact⟨bs,by rw[hl];rfl,rfl,AN hd⟩
    ·cases h
  ·cases h
 ·rename_i bs
  split at h
  ·rename_i hd
   cases h
   exact⟨bs,by rw[hd.2];rfl,rfl,AN hd.1⟩
  ·cases h
 ·cases h

structure qL (P:Program)(o:JA):Prop where
 R:∀f st ds r,o.R f st ds=some r→k8 P f st ds r
 W:∀f st ds r h',o.W f st ds=some (r,h')→eN P f st ds r h'
 F:∀f st cs m gO,o.F f st cs m=some gO→A9 P f st cs m gO
 I:∀f st us cs hd d gO,o.I f st us cs hd=some (d,gO)→∀y:D,y.one=true→(∀st ds b gO,hd st ds=some (b,gO)→tQ P y st ds (.bool b) gO)→bk P f st (us++[y]++cs) d gO

def FZ (P:Program)(yk:Option (Nat×Hand))(env env':List D):Prop:=
 match yk with
 | none=>env'=env
 | some (k,hd)=>k<env.length∧env'.length=env.length∧(∀j,j≠k→env'[j]? = env[j]?)∧∃y:D,env'[k]? = some y∧y.one=true∧∀st ds b gO,hd st ds=some (b,gO)→tQ P y st ds (.bool b) gO

section
variable {P:Program} {o:JA} {n:Nat} {yk:Option (Nat×Hand)}

theorem FZ.more {env env':List D}(h:FZ P yk env env')(ds:List D):FZ P yk (env++ds) (env'++ds):=by
 unfold FZ at h ⊢
 split
 ·rw[h]
 ·rename_i k hd
  obtain⟨h1,h2,h3,y,h4,h5,h6⟩:=h
  refine⟨by simp;omega,by simp[h2],fun j hj=>?_,y,by rw[List.getElem?_append_left (by omega)];exact h4,h5,h6⟩
  rcases Nat.lt_or_ge j env.length with hl | hl
  ·rw[List.getElem?_append_left (by omega),List.getElem?_append_left hl]
   exact h3 j hj
  ·rw[List.getElem?_append_right (by omega),List.getElem?_append_right hl,h2]

theorem Qby {env env':List D}(h:FZ P yk env env'){x:E}{d:D}(hx:tX yk env x=some d):x.eval env'=some d:=by
 unfold tX at hx
 unfold FZ at h
 split at hx
 ·rw[h];exact hx
 ·rename_i k hd
  split at hx
  ·rename_i hn
   rw[E.OB h.2.2.1 x hn]
   exact hx
  ·cases hx

theorem eR {env env':List D}(h:FZ P yk env env'):∀{l:List E} {ds:List D},iP yk env l=some ds→aM env' l=some ds
 | [],ds,hd=>by simpa[iP,aM] using hd
 | x :: r,ds,hd=>by
  simp only[iP,Option.bind_eq_some_iff,Option.map_eq_some_iff] at hd
  obtain⟨d,h1,ds',h2,rfl⟩:=hd
  simp only[aM,Qby h h1,eR h h2,Option.bind_some,Option.map_some]

theorem Qrw {env env':List D}(h:FZ P yk env env'):∀{act:List (E×Bool)} {b:Bool},r5 yk env act=some b→(∀p,p∈act→∃d,p.1.eval env'=some d)∧(b=true↔bI env' act)
 | [],b,hb=>by
  simp only[r5,Option.some.injEq] at hb
  subst hb
  exact⟨by simp,by simp[o4]⟩
 | p :: r,b,hb=>by
  simp only[r5,Option.bind_eq_some_iff,Option.map_eq_some_iff] at hb
  obtain⟨d,h1,b',h2,rfl⟩:=hb
  obtain⟨h3,h4⟩:=Qrw h h2
  have hx:=Qby h h1
  refine⟨fun q hq=>?_,?_⟩
  ·cases hq with
   | head=>exact⟨d,hx⟩
   | tail _ hq=>exact h3 q hq
  ·rw[Bool.and_eq_true,h4]
   constructor
   ·rintro⟨g1,g2⟩ q hq
    cases hq with
    | head=>rw[hx,D.dU g1]
    | tail _ hq=>exact g2 q hq
   ·intro g
    refine⟨?_,fun q hq=>g q (by simp[hq])⟩
    have:=g p (by simp)
    rw[hx] at this
    cases this
    simp[D.same,Value.same]

theorem M3 {s s':iD}(h:HM s s'=true):s=s':=by
 unfold HM at h
 split at h
 ·simp only[Bool.and_eq_true,decide_eq_true_eq] at h;rw[h.1,D.gb h.2]
 ·rw[D.dU h]
 ·simp only[Bool.and_eq_true,decide_eq_true_eq] at h;rw[D.dU h.1.1.1,D.dU h.1.1.2,h.1.2,D.gb h.2]
 ·cases h

theorem vk {l:Nat}{ev:List D→Option iD}{body:List D→(iD→Prop)→Prop}{s:iD}(hb:∀ds s',ev ds=some s'→∀Q:iD→Prop,Q s'→body ds Q):∀(n:Nat) (ds:List D),vl l ev n ds=some s→rounds l body (fun s'=>s'=s) n ds
 | 0,ds,h=>by simp[vl] at h
 | n+1,ds,h=>by
  simp only[vl,Option.bind_eq_some_iff] at h
  obtain⟨s1,h1,h2⟩:=h
  refine hb ds s1 h1 _ ?_
  cases s1 with
  | jump l' ds'=>
   simp only[dD] at h2 ⊢
   split at h2
   ·rename_i e;rw[if_pos e];exact vk hb n ds' h2
   ·rename_i e;rw[if_neg e];cases h2;rfl
  | ret d=>cases h2;rfl
  | fc d st sl kd=>cases h2;rfl

theorem NV {env env':List D}(h:FZ P yk env env'){x:E}{hd:Hand}(hx:aaS yk x=some hd):∃y:D,x.eval env'=some y∧y.one=true∧∀st ds b gO,hd st ds=some (b,gO)→tQ P y st ds (.bool b) gO:=by
 unfold aaS at hx
 split at hx
 ·rename_i k fz j
  split at hx
  ·rename_i e
   cases hx
   subst e
   obtain⟨_,_,_,y,h4,h5,h6⟩:=h
   exact⟨y,h4,h5,h6⟩
  ·cases hx
 ·cases hx

theorem AX (ho : qL P o) : ∀ {t : T} {yk : Option (Nat × Hand)} {env env' : List D} {s : iD}, FZ P yk env env' → nF P o n yk t env = some s → den P t env' fun s' => s' = s := by
  intro t
  induction t with
  | bind b t ih =>
    intro yk env env' s hy h
    cases b with
    | ev x =>
      simp only [nF, Option.bind_eq_some_iff] at h
      obtain ⟨d, h1, h2⟩ := h
      exact ⟨d, Qby hy h1, ih (hy.more [d]) h2⟩
    | call act f hE args rs =>
      simp only [nF, Option.bind_eq_some_iff] at h
      obtain ⟨b, h1, h2⟩ := h
      obtain ⟨g1, g2⟩ := Qrw hy h1
      split at h2
      · obtain ⟨st, k1, ds, k2, r, k3, k4⟩ := (by simpa only [Option.bind_eq_some_iff] using h2 : ∃ st, tX yk env hE = some st ∧ ∃ ds, iP yk env args = some ds ∧ ∃ r, o.R f st ds = some r ∧ _)
        split at k4
        · rename_i d
          split at k4
          · rename_i hf
            exact ⟨g1, d, fun _ => ⟨st, ds, Qby hy k1, eR hy k2, ho.R _ _ _ _ k3, hf⟩, ih (hy.more [d]) k4⟩
          · cases k4
        · cases k4
      · rename_i hb
        exact ⟨g1, D.undef, fun ha => absurd (g2.2 ha) hb, ih (hy.more _) h2⟩
    | bQ act f hE args rs =>
      simp only [nF, Option.bind_eq_some_iff] at h
      obtain ⟨b, h1, st, k1, h2⟩ := h
      obtain ⟨g1, g2⟩ := Qrw hy h1
      split at h2
      · rename_i hb
        obtain ⟨ds, k2, r, k3, k4⟩ := (by simpa only [Option.bind_eq_some_iff] using h2 : ∃ ds, iP yk env args = some ds ∧ ∃ r, o.W f st ds = some r ∧ _)
        split at k4
        · rename_i d h'
          split at k4
          · rename_i hf
            exact ⟨g1, st, d, h', Qby hy k1, fun _ => ⟨ds, eR hy k2, ho.W _ _ _ _ _ k3, hf⟩, fun hn => absurd (g2.1 hb) hn, ih (hy.more _) k4⟩
          · cases k4
        · cases k4
      · rename_i hb
        exact ⟨g1, st, D.undef, st, Qby hy k1, fun ha => absurd (g2.2 ha) hb, fun _ => rfl, ih (hy.more _) h2⟩
    | fu act x hE args rs =>
      simp only [nF, Option.bind_eq_some_iff] at h
      obtain ⟨b, h1, h2⟩ := h
      obtain ⟨g1, g2⟩ := Qrw hy h1
      split at h2
      · obtain ⟨xd, k0, st, k1, ds, k2, k3⟩ := (by simpa only [Option.bind_eq_some_iff] using h2 : ∃ xd, tX yk env x = some xd ∧ ∃ st, tX yk env hE = some st ∧ ∃ ds, iP yk env args = some ds ∧ _)
        split at k3
        · rename_i f us cs
          split at k3
          · rename_i dG
            obtain ⟨r, k3, k4⟩ := Option.bind_eq_some_iff.1 k3
            split at k4
            · rename_i d
              split at k4
              · rename_i hf
                exact ⟨g1, d, fun _ => ⟨f, us, cs, st, ds, Qby hy k0, dG, Qby hy k1, eR hy k2, ho.R _ _ _ _ k3, hf⟩, ih (hy.more [d]) k4⟩
              · cases k4
            · cases k4
          · cases k3
        · cases k3
      · rename_i hb
        exact ⟨g1, D.undef, fun ha => absurd (g2.2 ha) hb, ih (hy.more _) h2⟩
    | fC act x hE args rs =>
      simp only [nF, Option.bind_eq_some_iff] at h
      obtain ⟨b, h1, st, k1, h2⟩ := h
      obtain ⟨g1, g2⟩ := Qrw hy h1
      split at h2
      · rename_i hb
        obtain ⟨ds, k2, h2⟩ := Option.bind_eq_some_iff.1 h2
        split at h2
        · rename_i hd hyk
          obtain ⟨y, y1, y2, y3⟩ := NV hy hyk
          obtain ⟨⟨b', h'⟩, k3, k4⟩ := Option.bind_eq_some_iff.1 h2
          split at k4
          · rename_i hf
            exact ⟨g1, st, .bool b', h', Qby hy k1, fun _ => ⟨y, ds, y1, eR hy k2, y3 _ _ _ _ k3, hf⟩, fun hn => absurd (g2.1 hb) hn, ih (hy.more _) k4⟩
          · cases k4
        · obtain ⟨xd, k0, h2⟩ := Option.bind_eq_some_iff.1 h2
          split at h2
          · rename_i f us cs
            split at h2
            · rename_i dG
              obtain ⟨r, k3, k4⟩ := Option.bind_eq_some_iff.1 h2
              split at k4
              · rename_i d h'
                split at k4
                · rename_i hf
                  exact ⟨g1, st, d, h', Qby hy k1, fun _ => ⟨_, ds, Qby hy k0, eR hy k2, ⟨dG, ho.W _ _ _ _ _ k3⟩, hf⟩, fun hn => absurd (g2.1 hb) hn, ih (hy.more _) k4⟩
                · cases k4
              · cases k4
            · cases h2
          · cases h2
      · rename_i hb
        exact ⟨g1, st, D.undef, st, Qby hy k1, fun ha => absurd (g2.2 ha) hb, fun _ => rfl, ih (hy.more _) h2⟩
  | ite c a b iha ihb =>
    intro yk env env' s hy h
    simp only [nF, Option.bind_eq_some_iff] at h
    obtain ⟨d, h1, h2⟩ := h
    have hx := Qby hy h1
    split at h2
    · exact ⟨true, hx, (fun _ => iha hy h2), fun e => (by cases e)⟩
    · exact ⟨false, hx, (fun e => (by cases e)), fun _ => ihb hy h2⟩
    · cases h2
  | loop l inits body ih =>
    intro yk env env' s hy h
    simp only [nF, Option.bind_eq_some_iff] at h
    obtain ⟨ds, h1, h2⟩ := h
    refine ⟨ds, eR hy h1, n, vk (fun ds s' hs Q hq => ?_) n ds h2⟩
    split at hs
    · rename_i hl
      exact ⟨hl, dI (fun s1 e => by rw [e]; exact hq) (ih (hy.more ds) hs)⟩
    · cases hs
  | join l m body rest ihb ihr =>
    intro yk env env' s hy h
    simp only [nF, Option.bind_eq_some_iff] at h
    obtain ⟨s1, h1, h2⟩ := h
    show den P body env' _
    refine dI (fun s' e => ?_) (ihb hy h1)
    subst e
    cases s' with
    | jump l' ds =>
      simp only [dD] at h2 ⊢
      split at h2
      · rename_i e
        rw [if_pos e]
        split at h2
        · rename_i hl
          exact ⟨hl, ihr (hy.more ds) h2⟩
        · cases h2
      · rename_i e; rw [if_neg e]; cases h2; rfl
    | ret d => cases h2; rfl
    | fc d st sl kd => cases h2; rfl
  | jump l vals =>
    intro yk env env' s hy h
    simp only [nF, Option.map_eq_some_iff] at h
    obtain ⟨ds, h1, rfl⟩ := h
    exact ⟨ds, eR hy h1, rfl⟩
  | ret x =>
    intro yk env env' s hy h
    simp only [nF, Option.map_eq_some_iff] at h
    obtain ⟨d, h1, rfl⟩ := h
    exact ⟨d, Qby hy h1, rfl⟩
  | fc x hE sl ks =>
    intro yk env env' s hy h
    simp only [nF, Option.bind_eq_some_iff, Option.map_eq_some_iff] at h
    obtain ⟨d, h1, st, h2, kd, h3, rfl⟩ := h
    exact ⟨d, st, kd, Qby hy h1, Qby hy h2, eR hy h3, rfl⟩
  | pick x t ih =>
    intro yk env env' s hy h
    simp [nF] at h
  | nk x neg t ih =>
    intro yk env env' s hy h
    simp only [nF, Option.bind_eq_some_iff] at h
    obtain ⟨d, h1, h2⟩ := h
    split at h2
    · rename_i b hb
      refine ⟨d, [b], Qby hy h1, hb, fun b' hb' => ?_⟩
      simp at hb'
      subst hb'
      exact ih (hy.more _) h2
    · rename_i b c hb
      obtain ⟨s1, k1, h2⟩ := Option.bind_eq_some_iff.1 h2
      obtain ⟨s2, k2, h2⟩ := Option.bind_eq_some_iff.1 h2
      split at h2
      · rename_i hs
        cases h2
        have := M3 hs
        subst this
        refine ⟨d, [b, c], Qby hy h1, hb, fun b' hb' => ?_⟩
        simp at hb'
        rcases hb' with rfl | rfl
        · exact ih (hy.more _) k1
        · exact ih (hy.more _) k2
      · cases h2
    · cases h2
  | Jc f keep bT res t ih =>
    intro yk env env' s hy h
    simp only [nF, Option.bind_eq_some_iff] at h
    obtain ⟨fk, h1, h2⟩ := h
    split at h2
    · rename_i wo
      obtain ⟨s1, k1, h2⟩ := Option.bind_eq_some_iff.1 h2
      refine ⟨fk, eR hy h1, wo, dI (fun s' e => ?_) (ih hy k1)⟩
      subst e
      split at h2
      · rename_i kd st
        obtain ⟨gO, k2, h2⟩ := Option.bind_eq_some_iff.1 h2
        obtain ⟨d', k3, rfl⟩ := Option.map_eq_some_iff.1 h2
        exact ⟨gO, d', ho.F _ _ _ _ _ k2, k3, rfl⟩
      · rename_i d st sl kd
        split at h2
        · rename_i hk
          obtain ⟨gO, k2, h2⟩ := Option.bind_eq_some_iff.1 h2
          obtain ⟨d', k3, rfl⟩ := Option.map_eq_some_iff.1 h2
          exact ⟨hk, gO, d', ho.F _ _ _ _ _ k2, k3, rfl⟩
        · cases h2
      · cases h2
    · cases h2
  | kV f hE args rs sl ks t ih =>
    intro yk env env' s hy h
    simp only [nF, Option.bind_eq_some_iff] at h
    obtain ⟨st, h1, ds, h2, r, h3, h4⟩ := h
    refine ⟨st, ds, r, Qby hy h1, eR hy h2, ho.R _ _ _ _ h3, ?_⟩
    cases r with
    | ret d =>
      simp only at h4
      split at h4
      · rename_i hf; exact ⟨hf, ih (hy.more _) h4⟩
      · cases h4
    | fc d =>
      simp only at h4
      obtain ⟨kd, k1, rfl⟩ := Option.map_eq_some_iff.1 h4
      exact ⟨kd, eR hy k1, rfl⟩
  | iH f hE args rs sl ks t ih =>
    intro yk env env' s hy h
    simp only [nF, Option.bind_eq_some_iff] at h
    obtain ⟨st, h1, ds, h2, ⟨r, h'⟩, h3, h4⟩ := h
    refine ⟨st, ds, r, h', Qby hy h1, eR hy h2, ho.W _ _ _ _ _ h3, ?_⟩
    cases r with
    | ret d =>
      simp only at h4
      split at h4
      · rename_i hf; exact ⟨hf, ih (hy.more _) h4⟩
      · cases h4
    | fc d =>
      simp only at h4
      obtain ⟨kd, k1, rfl⟩ := Option.map_eq_some_iff.1 h4
      exact ⟨kd, eR hy k1, rfl⟩
  | gu x hE args rs sl ks t ih =>
    intro yk env env' s hy h
    simp only [nF, Option.bind_eq_some_iff] at h
    obtain ⟨xd, h0, st, h1, ds, h2, h3⟩ := h
    split at h3
    · rename_i f us cs
      split at h3
      · rename_i dG
        obtain ⟨⟨r, h'⟩, h3, h4⟩ := Option.bind_eq_some_iff.1 h3
        refine ⟨f, us, cs, st, ds, r, h', Qby hy h0, dG, Qby hy h1, eR hy h2, ho.W _ _ _ _ _ h3, ?_⟩
        cases r with
        | ret d =>
          simp only at h4
          split at h4
          · rename_i hf; exact ⟨hf, ih (hy.more _) h4⟩
          · cases h4
        | fc d =>
          simp only at h4
          obtain ⟨kd, k1, rfl⟩ := Option.map_eq_some_iff.1 h4
          exact ⟨kd, eR hy k1, rfl⟩
      · cases h3
    · cases h3
  | Qsz x hE sl bT m l body rest ihb ihr =>
    intro yk env env' s hy h
    cases yk with
    | some _ => simp [nF] at h
    | none =>
    have hy' : env' = env := hy
    subst hy'
    simp only [nF, Option.bind_eq_some_iff] at h
    obtain ⟨xd, h1, st, h2, fk, h3, h4⟩ := h
    split at h4
    · rename_i f us cs
      split at h4
      · rename_i hc
        obtain ⟨⟨d, gO⟩, k1, k2⟩ := Option.bind_eq_some_iff.1 h4
        split at k2
        · rename_i hn
          refine ⟨f, us, cs, st, fk, d, gO, h1, hc.1, h2, h3, hc.2, hn, fun mm rec hspec => ho.I _ _ _ _ _ _ _ k1 _ rfl fun Qjv ds b Qhx hh => ?_, ihr (yk := none) rfl k2⟩
          split at hh
          · rename_i rT
            split at hh
            · rename_i l' st3 cV
              split at hh
              · rename_i hl
                cases hh
                subst hl
                exact ⟨rfl, hspec Qjv ds Qhx rT.1 rT.2.1 rT.2.2 (ihb (yk := none) rfl cV)⟩
              · cases hh
            · cases hh
          · cases hh
        · cases k2
      · cases h4
    · cases h4
  | lz x hE sl bT m l q body rest tR ihb ihr ihq =>
    intro yk env env' s hy h
    cases yk with
    | some _ => simp [nF] at h
    | none =>
    have hy' : env' = env := hy
    subst hy'
    simp only [nF, Option.bind_eq_some_iff] at h
    obtain ⟨xd, h1, st, h2, fk, h3, h4⟩ := h
    split at h4
    · rename_i f us cs bs
      split at h4
      · rename_i hc
        obtain ⟨⟨d, gO⟩, k1, k2⟩ := Option.bind_eq_some_iff.1 h4
        split at k2
        · rename_i lg hst
          obtain ⟨b, k3, k4⟩ := Option.bind_eq_some_iff.1 k2
          have k3 := K_ k3
          have hlt := (List.getElem?_eq_some_iff.1 k3).1
          refine ⟨f, us, cs, bs, fk, d, lg.set bs.length (.bh []), b, h1, hc, h2, h3, by rw [List.getElem?_set, if_pos rfl, if_pos hlt], fun rec hspec => ?_, fun e => ?_, fun e => ?_⟩
          · have e : (lg.set bs.length (.bh [])).set bs.length (.oM b) = lg := by
              rw [List.set_set]
              apply List.ext_getElem?
              intro j
              rw [List.getElem?_set]
              split
              · rename_i e; subst e; first | rw [if_pos hlt, k3] | exact k3.symm
              · rfl
            rw [e]
            simp only at hst
            subst hst
            refine ho.I _ _ _ _ _ _ _ k1 _ rfl fun Qjv ds b' Qhx hh => ?_
            try simp only at hh
            split at hh
            · split at hh
              · rename_i rT
                obtain ⟨s', g1, g2⟩ := Option.bind_eq_some_iff.1 hh
                obtain ⟨bs3, e1, e2, e3⟩ := MZ g2
                subst e2
                exact ⟨b', rfl, hspec _ ds b' bs3 (K_ rT.1) rT.2 e3 (by rw [← e1]; exact ihb (yk := none) rfl g1)⟩
              · cases hh
            · cases hh
          · subst e; exact ihr (yk := none) rfl k4
          · subst e; exact ihq (yk := none) rfl k4
        · cases k2
      · cases h4
    · cases h4

end

/-! ## a table of functions -/

inductive Kn where
 | plain | defers (keep:List Nat) | mz
 deriving Inhabited

structure Entry where
 f:FuncId
 kn:Kn
 cf:cz
 own:Bool
 bX:List Bool
 t:T
 nd:Bool:=false

def aV (P:Program)(e:Entry):Prop:=
 ∃fn,P.funcs[e.f]? = some fn∧bR P fn=e.bX∧match e.kn with
  | .plain=>kO P e.cf fn=some e.t
  | .defers keep=>kP P e.cf fn keep=some e.t
  | .mz=>r_ P e.cf fn=some e.t

theorem aV.bw {P:Program}{f:FuncId}{cf:cz}{own:Bool}{bX:List Bool}{t:T}{fn:Func}(hf:P.funcs[f]? = some fn)(h1:bR P fn=bX)(h2:kO P cf fn=some t):aV P { f:=f,kn:=.plain,cf:=cf,own:=own,bX:=bX,t:=t }:=⟨fn,hf,h1,h2⟩

theorem aV.aey {P:Program}{f:FuncId}{cf:cz}{own:Bool}{bX:List Bool}{t:T}{fn:Func}{keep:List Nat}(hf:P.funcs[f]? = some fn)(h1:bR P fn=bX)(h2:kP P cf fn keep=some t):aV P { f:=f,kn:=.defers keep,cf:=cf,own:=own,bX:=bX,t:=t }:=⟨fn,hf,h1,h2⟩

theorem aV.aau {P:Program}{f:FuncId}{cf:cz}{own:Bool}{bX:List Bool}{t:T}{fn:Func}(hf:P.funcs[f]? = some fn)(h1:bR P fn=bX)(h2:r_ P cf fn=some t):aV P { f:=f,kn:=.mz,cf:=cf,own:=own,bX:=bX,t:=t }:=⟨fn,hf,h1,h2⟩

abbrev Pc:=List Entry

def wC:Pc→FuncId→Option Entry
 | [],_=>none
 | e :: r,f=>if e.f=f then some e else wC r f

theorem pH:∀{tb:Pc} {f:FuncId} {e:Entry},wC tb f=some e→e∈tb∧e.f=f
 | [],_,_,h=>by simp[wC] at h
 | e' :: r,f,e,h=>by
  simp only[wC] at h
  split at h
  ·rename_i hf;cases h;exact⟨by simp,hf⟩
  ·obtain⟨h1,h2⟩:=pH h;exact⟨by simp[h1],h2⟩

def aoX:Pc→FuncId→Option Entry
 | [],_=>none
 | e :: r,f=>if e.f=f then(if e.own||e.cf.ro then some e else aoX r f) else aoX r f

theorem xp:∀{tb:Pc} {f:FuncId} {e:Entry},aoX tb f=some e→e∈tb∧e.f=f
 | [],_,_,h=>by simp[aoX] at h
 | e' :: r,f,e,h=>by
  simp only[aoX] at h
  split at h
  ·rename_i hf
   split at h
   ·cases h;exact⟨by simp,hf⟩
   ·obtain⟨h1,h2⟩:=xp h;exact⟨by simp[h1],h2⟩
  ·obtain⟨h1,h2⟩:=xp h;exact⟨by simp[h1],h2⟩

def aoW:Pc→FuncId→Option Entry
 | [],_=>none
 | e :: r,f=>if e.f=f then(if e.own then aoW r f else some e) else aoW r f

theorem xj:∀{tb:Pc} {f:FuncId} {e:Entry},aoW tb f=some e→e∈tb∧e.f=f
 | [],_,_,h=>by simp[aoW] at h
 | e' :: r,f,e,h=>by
  simp only[aoW] at h
  split at h
  ·rename_i hf
   split at h
   ·obtain⟨h1,h2⟩:=xj h;exact⟨by simp[h1],h2⟩
   ·cases h;exact⟨by simp,hf⟩
  ·obtain⟨h1,h2⟩:=xj h;exact⟨by simp[h1],h2⟩

def Kn.calls:Kn→Bool
 | .mz=>false
 | _=>true

def V1 (P:Program)(o:JA)(n:Nat)(e:Entry)(bs ds:List D):Option (Out×List D):=
 if e.kn.calls=true∧dZ e.bX ds=true then match nF P o n none e.t (ds++[.st bs]) with
  | some (.ret (.bh [d,.st bs']))=>some (.ret d,bs')
  | some (.fc d (.st bs') _ _)=>some (.fc d,bs')
  | _=>none
 else none

def Kn.Cz:Kn→Bool
 | .plain=>true
 | _=>false

/-! ## functions whose runs differ,as a map's entries come in any order -/

def qa {α β:Type}(f:α→Option (List β)):List α→Option (List β)
 | []=>some []
 | x :: r=>(f x).bind fun a=>(qa f r).map (a++·)

theorem Fj {α β:Type}{f:α→Option (List β)}:∀{l:List α} {ys:List β},qa f l=some ys→∀x,x∈l→∃zs,f x=some zs∧∀z,z∈zs→z∈ys
 | [],ys,_,x,hx=>by simp at hx
 | a :: r,ys,h,x,hx=>by
  simp only[qa,Option.bind_eq_some_iff,Option.map_eq_some_iff] at h
  obtain⟨zs,h1,ws,h2,rfl⟩:=h
  rcases List.mem_cons.1 hx with rfl | hx
  ·exact⟨zs,h1,fun z hz=>List.mem_append_left _ hz⟩
  ·obtain⟨vs,g1,g2⟩:=Fj h2 x hx
   exact⟨vs,g1,fun z hz=>List.mem_append_right _ (g2 z hz)⟩

def J0 (l:Nat)(body:List D→Option (List iD)):Nat→List D→Option (List iD)
 | 0,_=>none
 | n+1,ds=>(body ds).bind (qa fun s=>match s with
  | .jump l' ds'=>if l'=l then J0 l body n ds' else some [s]
  | _=>some [s])

def V0 (P:Program)(o:JA)(n:Nat):T→List D→Option (List iD)
 | .bind (.ev x) t,env=>(x.eval env).bind fun d=>V0 P o n t (env++[d])
 | .bind (.call [] f h args rs) t,env=>(h.eval env).bind fun st=>(aM env args).bind fun ds=>(o.R f st ds).bind fun r=>match r with
   | .ret d=>if d.fits rs=true then V0 P o n t (env++[d]) else none
   | .fc _=>none
 | .bind (.bQ [] f h args rs) t,env=>(h.eval env).bind fun st=>(aM env args).bind fun ds=>(o.W f st ds).bind fun r=>match r with
  |(.ret d,h')=>if d.fits rs=true then V0 P o n t (env++[.bh [d,h']]) else none
   | _=>none
 | .ite c a b,env=>(c.eval env).bind fun d=>match d with
  | .v (.bool true)=>V0 P o n a env
  | .v (.bool false)=>V0 P o n b env
  | _=>none
 | .loop l inits body,env=>(aM env inits).bind fun ds=>J0 l (fun ds=>if ds.length=inits.length then V0 P o n body (env++ds) else none) n ds
 | .join l m body rest,env=>(V0 P o n body env).bind (qa fun s=>match s with
  | .jump l' ds=>if l'=l then(if ds.length=m then V0 P o n rest (env++ds) else none) else some [s]
  | _=>some [s])
 | .jump l vals,env=>(aM env vals).map fun ds=>[.jump l ds]
 | .ret x,env=>(x.eval env).map fun d=>[.ret d]
 | .pick x t,env=>(x.eval env).bind fun d=>match d with
  | .bq ys=>qa (fun y=>match y with
   | .bh [d,st]=>V0 P o n t (env++[.bh [d,st]])
   | _=>some []) ys
  | _=>none
 | _,_=>none

theorem Qlq {l:Nat}{body:List D→Option (List iD)}{bd:List D→(iD→Prop)→Prop}{Q:iD→Prop}(hb:∀ds ss,body ds=some ss→∀Q:iD→Prop,(∀s,s∈ss→Q s)→bd ds Q) :
  ∀(n:Nat) (ds:List D) (ss:List iD),J0 l body n ds=some ss→(∀s,s∈ss→Q s)→rounds l bd Q n ds
 | 0,ds,ss,h,_=>by cases h
 | n+1,ds,ss,h,hq=>by
  simp only[J0,Option.bind_eq_some_iff] at h
  obtain⟨s1,h1,h2⟩:=h
  refine hb ds s1 h1 _ fun s hs=>?_
  obtain⟨zs,g1,g2⟩:=Fj h2 s hs
  cases s with
  | jump l' ds'=>
   simp only[dD] at g1 ⊢
   split at g1
   ·rename_i e;rw[if_pos e];exact Qlq hb n ds' zs g1 fun s hs=>hq s (g2 s hs)
   ·rename_i e;rw[if_neg e];cases g1;exact hq _ (g2 _ (by simp))
  | ret d=>cases g1;exact hq _ (g2 _ (by simp))
  | fc d st sl kd=>cases g1;exact hq _ (g2 _ (by simp))

theorem apb {P:Program}{o:JA}{n:Nat}(ho:qL P o):∀{t:T} {env:List D} {ss:List iD} {Q:iD→Prop},V0 P o n t env=some ss→(∀s,s∈ss→Q s)→den P t env Q:=by
 intro t
 induction t with
 | bind b t ih=>
  intro env ss Q h hq
  cases b with
  | ev x=>
   simp only[V0,Option.bind_eq_some_iff] at h
   obtain⟨d,h1,h2⟩:=h
   exact⟨d,h1,ih h2 hq⟩
  | call act f hE args rs=>
   cases act with
   | cons _ _=>simp[V0] at h
   | nil=>
   simp only[V0,Option.bind_eq_some_iff] at h
   obtain⟨st,h1,ds,h2,r,h3,h4⟩:=h
   cases r with
   | fc _=>cases h4
   | ret d=>
    simp only at h4
    split at h4
    ·rename_i hf
     exact⟨by simp,d,fun _=>⟨st,ds,h1,h2,ho.R _ _ _ _ h3,hf⟩,ih h4 hq⟩
    ·cases h4
  | bQ act f hE args rs=>
   cases act with
   | cons _ _=>simp[V0] at h
   | nil=>
   simp only[V0,Option.bind_eq_some_iff] at h
   obtain⟨st,h1,ds,h2,⟨r,h'⟩,h3,h4⟩:=h
   cases r with
   | fc _=>cases h4
   | ret d=>
    simp only at h4
    split at h4
    ·rename_i hf
     exact⟨by simp,st,d,h',h1,fun _=>⟨ds,h2,ho.W _ _ _ _ _ h3,hf⟩,fun hn=>absurd (fun p hp=>by cases hp) hn,ih h4 hq⟩
    ·cases h4
  | fu act x hE args rs=>simp[V0] at h
  | fC act x hE args rs=>simp[V0] at h
 | ite c a b iha ihb=>
  intro env ss Q h hq
  simp only[V0,Option.bind_eq_some_iff] at h
  obtain⟨d,h1,h2⟩:=h
  split at h2
  ·exact⟨true,h1,(fun _=>iha h2 hq),fun e=>(by cases e)⟩
  ·exact⟨false,h1,(fun e=>(by cases e)),fun _=>ihb h2 hq⟩
  ·cases h2
 | loop l inits body ih=>
  intro env ss Q h hq
  simp only[V0,Option.bind_eq_some_iff] at h
  obtain⟨ds,h1,h2⟩:=h
  refine⟨ds,h1,n,Qlq (fun ds s1 hs Q hQ=>?_) n ds ss h2 hq⟩
  split at hs
  ·rename_i hl
   exact⟨hl,ih hs hQ⟩
  ·cases hs
 | join l m body rest ihb ihr=>
  intro env ss Q h hq
  simp only[V0,Option.bind_eq_some_iff] at h
  obtain⟨s1,h1,h2⟩:=h
  show den P body env _
  refine ihb h1 fun s hs=>?_
  obtain⟨zs,g1,g2⟩:=Fj h2 s hs
  cases s with
  | jump l' ds=>
   simp only[dD] at g1 ⊢
   split at g1
   ·rename_i e
    rw[if_pos e]
    split at g1
    ·rename_i hl
     exact⟨hl,ihr g1 fun s hs=>hq s (g2 s hs)⟩
    ·cases g1
   ·rename_i e;rw[if_neg e];cases g1;exact hq _ (g2 _ (by simp))
  | ret d=>cases g1;exact hq _ (g2 _ (by simp))
  | fc d st sl kd=>cases g1;exact hq _ (g2 _ (by simp))
 | jump l vals=>
  intro env ss Q h hq
  simp only[V0,Option.map_eq_some_iff] at h
  obtain⟨ds,h1,rfl⟩:=h
  exact⟨ds,h1,hq _ (by simp)⟩
 | ret x=>
  intro env ss Q h hq
  simp only[V0,Option.map_eq_some_iff] at h
  obtain⟨d,h1,rfl⟩:=h
  exact⟨d,h1,hq _ (by simp)⟩
 | pick x t ih=>
  intro env ss Q h hq
  simp only[V0,Option.bind_eq_some_iff] at h
  obtain⟨d,h1,h2⟩:=h
  split at h2
  ·rename_i ys
   refine⟨ys,h1,fun d st hy=>?_⟩
   obtain⟨zs,g1,g2⟩:=Fj h2 _ hy
   exact ih g1 fun s hs=>hq s (g2 s hs)
  ·cases h2
 | _=>intro env ss Q h hq;simp[V0] at h

def Qjz:Nat→List D→List D
 | _,[]=>[]
 | 0,x :: r=>(match x with | .itb _ _ _ | .cY _ _ | .oM _=>.bh [] | x=>x) :: Qjz 0 r
 | k+1,x :: r=>x :: Qjz k r

theorem SZ:∀(k:Nat) (bs:List D),(Qjz k bs).length=bs.length∧∀(i:Nat) (x:D),(Qjz k bs)[i]? = some x→x.live=true→bs[i]? = some x
 | _,[]=>by simp[Qjz]
 | 0,y :: r=>by
  obtain⟨h1,h2⟩:=SZ 0 r
  refine⟨by simp[Qjz,h1],fun i x hx hl=>?_⟩
  cases i with
  | zero=>
   simp only[Qjz,List.getElem?_cons_zero,Option.some.injEq] at hx
   subst hx
   split at hl <;> first | (cases hl;done) | rfl
  | succ i=>simp only[Qjz,List.getElem?_cons_succ] at hx ⊢;exact h2 i x hx hl
 | k+1,y :: r=>by
  obtain⟨h1,h2⟩:=SZ k r
  refine⟨by simp[Qjz,h1],fun i x hx hl=>?_⟩
  cases i with
  | zero=>simpa[Qjz] using hx
  | succ i=>simp only[Qjz,List.getElem?_cons_succ] at hx ⊢;exact h2 i x hx hl

def aiv (k:Nat):List iD→Option (D×List D)
 | []=>none
 | [.ret (.bh [d,.st bs])]=>some (d,Qjz k bs)
 | .ret (.bh [d,.st bs]) :: r=>(aiv k r).bind fun x=>if D.same x.1 d=true∧D.jJ x.2 (Qjz k bs)=true then some x else none
 | _=>none

theorem Qpj {k:Nat}:∀{ss:List iD} {d:D} {bs:List D},aiv k ss=some (d,bs)→∀s,s∈ss→∃ia,s=.ret (.bh [d,.st ia])∧bs=Qjz k ia
 | [],_,_,h,s,hs=>by simp at hs
 | s0 :: r,d,bs,h,s,hs=>by
  unfold aiv at h
  split at h
  ·cases h
  ·rename_i d0 rp e
   cases e
   cases h
   simp at hs
   exact⟨rp,hs,rfl⟩
  ·rename_i d0 rp r' _ e
   cases e
   obtain⟨⟨d1,ia⟩,h1,h2⟩:=Option.bind_eq_some_iff.1 h
   split at h2
   ·rename_i hc
    cases h2
    obtain⟨g1,g2⟩:=hc
    have g1:=D.dU g1
    have g2:=D.gb g2
    simp only at g1 g2
    subst g1
    rcases List.mem_cons.1 hs with rfl | hs
    ·exact⟨rp,rfl,g2⟩
    ·exact Qpj h1 s hs
   ·cases h2
  ·cases h

def aql (P:Program)(o:JA)(n:Nat)(e:Entry)(bs ds:List D):Option (Out×List D):=
 if e.kn.Cz=true∧dZ e.bX ds=true then(V0 P o n e.t (ds++[.st bs])).bind fun ss=>(aiv bs.length ss).map fun x=>(.ret x.1,x.2) else none

theorem dF.auR {w:World}{S:Sets}{aJ:Nat→Prop}{bs bs':List D}(h:dF w S aJ bs)(h1:bs'.length=bs.length)(h2:∀(i:Nat) (x:D),bs'[i]? = some x→x.live=true→bs[i]? = some x):dF w S aJ bs' where
 n:=h.n.trans h1.symm
 cells i e sz cs hi:=h.cells i e sz cs (h2 i _ hi rfl)
 Cw:=h.Cw
 maps i dL hi:=h.maps i dL (h2 i _ hi rfl)
 inj i j x y hi hj hx hy:=h.inj i j x y (h2 i x hi hx) (h2 j y hj hy) hx hy
 FJ i z hi hz:=h.FJ i z (h2 i _ hi (D.jQ hz)) hz

theorem amK {P:Program}{o:JA}{n:Nat}(ho:qL P o){e:Entry}(he:aV P e){bs ds bs':List D}{r:Out}(h:aql P o n e bs ds=some (r,bs')):eN P e.f (.st bs) ds r (.st bs'):=by
 unfold aql at h
 split at h
 ·rename_i hc
  obtain⟨hk,hfit⟩:=hc
  obtain⟨ss,h1,h2⟩:=Option.bind_eq_some_iff.1 h
  obtain⟨⟨d,lg⟩,h3,h4⟩:=Option.map_eq_some_iff.1 h2
  cases h4
  obtain⟨fn,hf,Qaw,hcomp⟩:=he
  rw[←Qaw] at hfit
  have hkp:e.kn=.plain:=by
   cases hkn:e.kn with
   | plain=>rfl
   | defers _=>rw[hkn] at hk;cases hk
   | mz=>rw[hkn] at hk;cases hk
  rw[hkp] at hcomp
  have fQ:=apb (Q:=JC (fun d' st=>d'=d∧∃ia,st=.st ia∧lg=Qjz bs.length ia) (fun _ _=>False)) ho h1 fun s hs=>by
   obtain⟨ia,rfl,hb⟩:=Qpj h3 s hs
   exact⟨rfl,ia,rfl,hb⟩
  intro w S aJ rp vs hb hst dP hfl hS hvl hrd
  cases hb
  refine(tD (may:=aJ) hf hcomp hfit fQ hst dP hfl hS hvl hrd (fun _ h=>.inr h) fun _ h=>h).mono ?_
  rintro x w' ⟨o',v,S',bV,bs3,hq,gj,hl⟩
  cases o' with
  | fc x=>exact hq.elim
  | ret x=>
   obtain⟨rfl,ia,e1,rfl⟩:=hq
   cases e1
   obtain⟨k1,k2⟩:=SZ bs.length bs3
   exact⟨v,S',bV,_,gj,rfl,hl.st.auR k1 k2,fun b o hs=>World.cell?_of_block (a:=⟨b,o,none⟩) (hl.old b (hS b o hs) fun hf=>hst.Cw b o hf hs),hl.le,hl.os,hl.tape,hl.output,hl.size,hl.old,hl.ft,hl.new,hl.lt⟩
 ·cases h

def HP (bs:List D):Option (Out×List D)→Option Out
 | some (r,bs')=>if D.jJ bs' bs=true then some r else none
 | none=>none

def Nf (b0:List D):Option (Out×List D)→Option Out
 | some (.ret d,bs)=>if Qqx b0 bs=true then(bD bs 50 d).map .ret else none
 | some (.fc d,bs)=>if Qqx b0 bs=true∧d.iw=true then some (.fc d) else none
 | none=>none

theorem HO {bs:List D}{x:Option (Out×List D)}{r:Out}(h:HP bs x=some r):x=some (r,bs):=by
 unfold HP at h
 split at h
 ·split at h
  ·rename_i hs;cases h;rw[D.gb hs]
  ·cases h
 ·cases h

theorem Ku {P:Program}{f:FuncId}{b0 ds:List D}{x:Option (Out×List D)}{r:Out}(h0:lf b0=true)(h:Nf b0 x=some r)(hx:∀r' bs',x=some (r',bs')→eN P f (.st b0) ds r' (.st bs'))(hds:eG ds=true)(bs:List D):k8 P f (.st (b0++bs)) ds r:=by
 unfold Nf at h
 split at h
 ·rename_i d bs'
  split at h
  ·rename_i hb
   obtain⟨q,rfl⟩:=Qky hb
   obtain⟨d',h1,rfl⟩:=Option.map_eq_some_iff.1 h
   exact eN.ar_ h0 (hx _ _ rfl) hds h1 bs
  ·cases h
 ·split at h
  ·rename_i hb
   obtain⟨q,rfl⟩:=Qky hb.1
   cases h;exact(hx _ _ rfl).ao4 h0 hds hb.2 bs
  ·cases h
 ·cases h

def sW (P:Program)(tb:Pc)(n:Nat)(b0:List D)(o:JA):JA where
 R:=fun f st ds=>match st,aoX tb f with
  | .st bs,some e=>if e.own=true then(if eG ds=true∧lf b0=true∧Qqx b0 bs=true then Nf b0 (V1 P o n e b0 ds) else none)
   else if e.cf.ro=true∧e.kn.Cz=true then HP bs (V1 P o n e bs ds) else none
  | _,_=>none
 W:=fun f st ds=>match st,aoW tb f with
  | .st bs,some e=>(bif e.nd then aql P o n e bs ds else V1 P o n e bs ds).map fun x=>(x.1,.st x.2)
  | _,_=>none
 F:=fun f st cs m=>match st,wC tb f with
  | .st bs,some e=>(match e.kn with
   | .mz=>if dZ e.bX cs=true∧(xa m).one=true then(match nF P o n none e.t (cs++[.st bs,xa m]) with
    | some (.ret (.bh [_,.st bs']))=>some (.st bs')
    | _=>none) else none
   | _=>none)
  | _,_=>none
 I:=fun f st us cs hd=>match st,wC tb f with
  | .st bs,some e=>(match e.kn with
   | .plain=>if dZ e.bX (us++[D.undef]++cs)=true∨dZ e.bX (us++[.cq]++cs)=true then(match nF P o n (some (us.length,hd)) e.t (us++[.cq]++cs++[.st bs]) with
    | some (.ret (.bh [d,.st bs']))=>some (d,.st bs')
    | _=>none) else none
   | _=>none)
  | _,_=>none

section
variable {P:Program} {o:JA} {n:Nat} {tb:Pc} {b0:List D}

theorem xJ (ho:qL P o){e:Entry}(he:aV P e){bs ds bs':List D}{r:Out}(h:V1 P o n e bs ds=some (r,bs')):eN P e.f (.st bs) ds r (.st bs')∧(e.cf.ro=true→e.kn.Cz=true→bs'=bs→k8 P e.f (.st bs) ds r):=by
 unfold V1 at h
 split at h
 ·rename_i hc
  obtain⟨hk,hfit⟩:=hc
  obtain⟨fn,hf,Qaw,hcomp⟩:=he
  rw[←Qaw] at hfit
  have key:∀s,nF P o n none e.t (ds++[.st bs])=some s→(∀s',s'=s→tG r (.st bs') s')→eN P e.f (.st bs) ds r (.st bs')∧(e.cf.ro=true→e.kn.Cz=true→bs'=bs→k8 P e.f (.st bs) ds r):=by
   intro s hs hend
   have fQ:=dI hend (AX ho (yk:=none) rfl hs)
   cases hkn:e.kn with
   | plain=>
    rw[hkn] at hcomp
    exact⟨CI hf hcomp hfit fQ,fun hro _ hb=>by subst hb;exact Oq hro hf hcomp hfit fQ⟩
   | defers keep=>
    rw[hkn] at hcomp
    exact⟨EB hf hcomp hfit fQ,fun _ h=>(by simp[Kn.Cz] at h)⟩
   | mz=>
    rw[hkn] at hk
    simp[Kn.calls] at hk
  split at h
  ·rename_i d ia hs
   cases h
   exact key _ hs fun s' e=>e
  ·rename_i d ia sl kd hs
   cases h
   exact key _ hs fun s' e=>⟨sl,kd,e⟩
  ·cases h
 ·cases h

theorem DO (htb:∀e,e∈tb→aV P e)(ho:qL P o):qL P (sW P tb n b0 o):=by
 refine⟨fun f st ds r h=>?_,fun f st ds r h' h=>?_,fun f st cs m gO h=>?_,fun f st us cs hd d gO h y hy hsp=>?_⟩
 ·simp only[sW] at h
  split at h
  ·rename_i bs e he
   obtain⟨h1,rfl⟩:=xp he
   split at h
   ·split at h
    ·rename_i hn
     obtain⟨q,rfl⟩:=Qky hn.2.2
     exact Ku hn.2.1 h (fun r' bs' cV=>(xJ ho (htb e h1) cV).1) hn.1 q
    ·cases h
   ·split at h
    ·rename_i hro
     exact(xJ ho (htb e h1) (HO h)).2 hro.1 hro.2 rfl
    ·cases h
  ·cases h
 ·simp only[sW] at h
  split at h
  ·rename_i bs e he
   obtain⟨h1,rfl⟩:=xj he
   obtain⟨⟨r',bs'⟩,h2,h3⟩:=Option.map_eq_some_iff.1 h
   cases h3
   cases hnd:e.nd with
   | true=>rw[hnd] at h2;exact amK ho (htb e h1) h2
   | false=>rw[hnd] at h2;exact(xJ ho (htb e h1) h2).1
  ·cases h
 ·simp only[sW] at h
  split at h
  ·rename_i bs e he
   obtain⟨h1,rfl⟩:=pH he
   obtain⟨fn,hf,Qaw,hcomp⟩:=htb e h1
   split at h
   ·rename_i hkn
    rw[hkn] at hcomp
    split at h
    ·rename_i hc
     split at h
     ·rename_i d0 bs' hs
      cases h
      exact VR hf hcomp (by rw[Qaw];exact hc.1) hc.2 (AX ho (yk:=none) rfl hs)
     ·cases h
    ·cases h
   ·cases h
  ·cases h
 ·simp only[sW] at h
  split at h
  ·rename_i bs e he
   obtain⟨h1,rfl⟩:=pH he
   obtain⟨fn,hf,Qaw,hcomp⟩:=htb e h1
   split at h
   ·rename_i hkn
    rw[hkn] at hcomp
    split at h
    ·rename_i hc
     split at h
     ·rename_i d0 bs' hs
      cases h
      have hy1:y.one=true:=hy
      have hfit:∀(z:D),z.one=true∨z.one=false→∀(bX:List Bool) (us:List D),dZ bX (us++[z]++cs)=true→dZ bX (us++[y]++cs)=true:=by
       intro z _ bX
       induction bX with
       | nil=>intro us hh;cases us <;> simp[dZ] at hh
       | cons b bX ih=>
        intro us hh
        cases us with
        | nil=>
         simp only[List.nil_append,List.cons_append,dZ,Bool.and_eq_true,Bool.or_eq_true,Bool.not_eq_true'] at hh ⊢
         exact⟨.inr hy1,hh.2⟩
        | cons u us=>
         simp only[List.cons_append,dZ,Bool.and_eq_true] at hh ⊢
         exact⟨hh.1,ih us hh.2⟩
      refine CI hf hcomp (by rw[Qaw];exact hc.elim (hfit _ (by simp[D.one]) _ _) (hfit _ (by simp[D.one]) _ _)) (AX ho (yk:=some (us.length,hd)) (env:=us++[.cq]++cs++[.st bs]) ⟨by simp,by simp,fun j hj=>?_,y,by simp,hy,hsp⟩ hs)
      rcases Nat.lt_trichotomy j us.length with hl | hl | hl
      ·simp only[List.append_assoc]
       rw[List.getElem?_append_left hl,List.getElem?_append_left hl]
      ·exact absurd hl hj
      ·simp only[List.append_assoc]
       rw[List.getElem?_append_right (Nat.le_of_lt hl),List.getElem?_append_right (Nat.le_of_lt hl)]
       obtain⟨m,hm⟩:∃m,j-us.length=m+1:=⟨j-us.length-1,by omega⟩
       rw[hm]
       simp
     ·cases h
    ·cases h
   ·cases h
  ·cases h

end

def JA.or (a b:JA):JA where
 R:=fun f st ds=>match a.R f st ds with | some r=>some r | none=>b.R f st ds
 W:=fun f st ds=>match a.W f st ds with | some r=>some r | none=>b.W f st ds
 F:=fun f st cs m=>match a.F f st cs m with | some r=>some r | none=>b.F f st cs m
 I:=fun f st us cs hd=>match a.I f st us cs hd with | some r=>some r | none=>b.I f st us cs hd

theorem qL.or {P:Program}{a b:JA}(ha:qL P a)(hb:qL P b):qL P (a.or b):=by
 refine⟨fun f st ds r h=>?_,fun f st ds r h' h=>?_,fun f st cs m gO h=>?_,fun f st us cs hd d gO h=>?_⟩ <;> simp only[JA.or] at h <;> split at h
 ·rename_i e;cases h;exact ha.R _ _ _ _ e
 ·exact hb.R _ _ _ _ h
 ·rename_i e;cases h;exact ha.W _ _ _ _ _ e
 ·exact hb.W _ _ _ _ _ h
 ·rename_i e;cases h;exact ha.F _ _ _ _ _ e
 ·exact hb.F _ _ _ _ _ h
 ·rename_i e;cases h;exact ha.I _ _ _ _ _ _ _ e
 ·exact hb.I _ _ _ _ _ _ _ h

def mu (P:Program)(tb:Pc)(n:Nat)(b0:List D)(o:JA):Nat→JA
 | 0=>o
 | k+1=>(sW P tb n b0 (mu P tb n b0 o k)).or o

theorem w_ {P:Program}{tb:Pc}{n:Nat}{b0:List D}{o:JA}(htb:∀e,e∈tb→aV P e)(ho:qL P o):∀k,qL P (mu P tb n b0 o k)
 | 0=>ho
 | k+1=>(DO htb (w_ htb ho k)).or ho

end
end

section
section
variable {P:Program} {t a b:T} {bs:List Bind} {env:List D} {Q:iD→Prop} {x g:E} {d:D}

theorem Qav {l:Nat}{K:List D→Prop}{ds:List D}(k:K ds):dD l K Q (.jump l ds):=by simp only[dD,if_pos];exact k

theorem aB {l m:Nat}{K:List D→Prop}{ds:List D}(h:m≠l)(k:Q (.jump m ds)):dD l K Q (.jump m ds):=by simp only[dD,if_neg h];exact k

theorem rounds_succ {l:Nat}{body:List D→(iD→Prop)→Prop}(hm:∀ds (R R':iD→Prop),(∀s,R s→R' s)→body ds R→body ds R'):∀(n:Nat) (ds:List D),rounds l body Q n ds→rounds l body Q (n+1) ds
 | 0,_,h=>h.elim
 | n+1,ds,h=>hm ds _ _ (fun s hs=>by
   cases s with
   | jump l' ds'=>
    simp only[dD] at hs ⊢
    split
    ·rename_i e;rw[if_pos e] at hs;exact rounds_succ hm n ds' hs
    ·rename_i e;rw[if_neg e] at hs;exact hs
   | ret d=>exact hs
   | fc d st sl kd=>exact hs) h

theorem Q8 {l:Nat}{body:List D→(iD→Prop)→Prop}(hm:∀ds (R R':iD→Prop),(∀s,R s→R' s)→body ds R→body ds R'){n m:Nat}(h:n≤m){ds:List D}(hr:rounds l body Q n ds):rounds l body Q m ds:=by
 induction h with
 | refl=>exact hr
 | step _ ih=>exact rounds_succ hm _ _ ih

theorem Dp {l:Nat}{body:List D→(iD→Prop)→Prop}(hm:∀ds (R R':iD→Prop),(∀s,R s→R' s)→body ds R→body ds R')(I:Nat→List D→Prop)(hb:∀k ds,I k ds→∀R:List D→Prop,(∀k' ds',k'<k→I k' ds'→R ds')→body ds (dD l R Q)):∀(k:Nat) (ds:List D),I k ds→rounds l body Q (k+1) ds:=by
 intro k
 induction k using Nat.strongRecOn with
 | _ k ih=>
  intro ds hI
  cases k with
  | zero=>exact hb 0 ds hI _ fun k' _ h=>absurd h (Nat.not_lt_zero _)
  | succ k=>
   refine hb (k+1) ds hI _ fun k' ds' hk' hI'=>?_
   exact Q8 hm (by omega) (ih k' hk' ds' hI')

end
end

section
/-! ## chains -/

def E.zC:E→E→Bool
 | .sym i,.sym j=>i==j
 | .Qrx i a,.Qrx j b=>i==j&&a.zC b
 | .cell i a,.cell j b=>i==j&&a.zC b
 | _,_=>false

theorem E.nO:∀{a b:E},a.zC b=true→a=b
 | .sym i,b,h=>by cases b <;> simp[E.zC] at h;rw[h]
 | .Qrx i a,b,h=>by
  cases b <;> simp[E.zC] at h
  rw[h.1,E.nO h.2]
 | .cell i a,b,h=>by
  cases b <;> simp[E.zC] at h
  rw[h.1,E.nO h.2]
 | .const _,b,h | .nil,b,h | .ax,b,h | .un _ _,b,h | .conv _ _,b,h | .aR _,b,h | .uJ _,b,h | .bt _,b,h | .cells _ _ _,b,h | .bB _ _,b,h | .one _,b,h | .gE _,b,h | .rep _ _ _,b,h | .deref _,b,h | .oO _ _,b,h | .ay _ _,b,h | .nn _,b,h | .aU _,b,h
 | .bin _ _ _ _,b,h | .idx _ _,b,h | .uS _ _ _,b,h | .cons _ _,b,h | .app _ _ _ _,b,h | .bz _ _,b,h | .gV _ _ _,b,h | .aa _ _,b,h | .mm _ _ _,b,h | .aj _ _ _,b,h | .ld _ _ _ _,b,h | .cI _ _ _ _,b,h | .a_ _ _ _ _,b,h | .bO _ _,b,h | .ve _ _ _,b,h | .vf _ _,b,h | .guard _ _ _,b,h
 | .sub _ _ _ _,b,h | .set _ _ _ _,b,h | .ite _ _ _,b,h | .gQ _ _ _ _,b,h | .fU _ _ _ _ _ _,b,h | .apps _ _ _,b,h | .m4 _ _ _ _ _,b,h=>by cases b <;> simp[E.zC] at h

def C2 (n : Nat) : List (E × Bool) → Bool
 | [] => true
 | (.sym k, _) :: r => decide (k < n) && C2 n r
 | _ :: _ => false

def qO (n:Nat)(g:E)(w:Bool):Bind→Option Bind
 | .ev (.guard g' w' x)=>if g.zC g'=true∧w=w' then some (.ev x) else none
 | .call ((g',w') :: act) f h args rs=>if g.zC g'=true∧w=w'∧C2 n act=true then some (.call act f h args rs) else none
 | .fu ((g',w') :: act) x h args rs=>if g.zC g'=true∧w=w'∧C2 n act=true then some (.fu act x h args rs) else none
 | _=>none

def ZC:List Bind→Option (E×Bool)
 | .ev (.guard g w _) :: _=>some (g,w)
 | .call ((g,w) :: _) _ _ _ _ :: _=>some (g,w)
 | .fu ((g,w) :: _) _ _ _ _ :: _=>some (g,w)
 | _=>none

section
variable {P:Program} {env:List D} {g:E} {w p:Bool}

theorem C3 {b b':Bind}(hs:qO env.length g w b=some b')(hg:g.eval env=some (.v (.bool w))){t:T}{Q:iD→Prop}(h:den P (.bind b' t) env Q):den P (.bind b t) env Q:=by
 unfold qO at hs
 split at hs
 ·split at hs
  ·rename_i hc
   cases hs
   rw[←E.nO hc.1,←hc.2]
   obtain⟨d,h1,h2⟩:=h
   exact⟨d,by simp only[E.eval,hg,if_true];exact h1,h2⟩
  ·cases hs
 ·split at hs
  ·rename_i hc
   cases hs
   obtain⟨h0,d,h1,h2⟩:=h
   refine⟨fun q hq=>?_,d,fun ha=>h1 fun q hq=>ha q (by simp[hq]),h2⟩
   rcases List.mem_cons.1 hq with rfl | hq
   ·exact⟨_,by rw[←E.nO hc.1];exact hg⟩
   ·exact h0 q hq
  ·cases hs
 ·split at hs
  ·rename_i hc
   cases hs
   obtain⟨h0,d,h1,h2⟩:=h
   refine⟨fun q hq=>?_,d,fun ha=>h1 fun q hq=>ha q (by simp[hq]),h2⟩
   rcases List.mem_cons.1 hq with rfl | hq
   ·exact⟨_,by rw[←E.nO hc.1];exact hg⟩
   ·exact h0 q hq
  ·cases hs
 ·cases hs

theorem JV : ∀ {act : List (E × Bool)}, C2 env.length act = true → ∀ q, q ∈ act → ∃ d, q.1.eval env = some d
 | [], _, q, hq => by cases hq
 | (x, b) :: r, h, q, hq => by
  cases x <;> simp only [C2, Bool.and_eq_true, decide_eq_true_eq] at h
  case sym k =>
   rcases List.mem_cons.1 hq with rfl | hq
   ·exact ⟨_, List.getElem?_eq_getElem h.1⟩
   ·exact JV h.2 q hq
  all_goals cases h

theorem C4 {b b':Bind}(hs:qO env.length g w b=some b')(hg:g.eval env=some (.v (.bool p)))(hp:p≠w){t:T}{Q:iD→Prop}(h:den P t (env++[D.undef]) Q):den P (.bind b t) env Q:=by
 have hno:∀{act:List (E×Bool)} {g':E} {w':Bool},g.zC g'=true∧w=w'∧C2 env.length act=true→¬bI env ((g',w') :: act):=by
  intro act g' w' hc ha
  have:=ha (g',w') (by simp)
  rw[←E.nO hc.1,←hc.2.1,hg] at this
  cases this
  exact hp rfl
 have qW:∀{act:List (E×Bool)} {g':E} {w':Bool},g.zC g'=true∧w=w'∧C2 env.length act=true→∀q,q∈(g',w') :: act→∃d,q.1.eval env=some d:=by
  intro act g' w' hc q hq
  rcases List.mem_cons.1 hq with rfl | hq
  ·exact⟨_,by rw[←E.nO hc.1];exact hg⟩
  ·exact JV hc.2.2 q hq
 unfold qO at hs
 split at hs
 ·split at hs
  ·rename_i hc
   rw[←E.nO hc.1,←hc.2]
   exact⟨_,by simp only[E.eval,hg,if_neg hp],h⟩
  ·cases hs
 ·split at hs
  ·rename_i hc
   exact⟨qW hc,D.undef,fun ha=>absurd ha (hno hc),h⟩
  ·cases hs
 ·split at hs
  ·rename_i hc
   exact⟨qW hc,D.undef,fun ha=>absurd ha (hno hc),h⟩
  ·cases hs
 ·cases hs

theorem Fc {b:Bind}{t:T}{Q:iD→Prop}(h:den P (.bind b t) env Q):∃d,den P t (env++[d]) Q∧∀(t':T) (Q':iD→Prop),den P t' (env++[d]) Q'→den P (.bind b t') env Q':=by
 cases b with
 | ev x=>obtain⟨d,h1,h2⟩:=h;exact⟨d,h2,fun t' Q' h'=>⟨d,h1,h'⟩⟩
 | call act f hx args rs=>obtain⟨h0,d,h1,h2⟩:=h;exact⟨d,h2,fun t' Q' h'=>⟨h0,d,h1,h'⟩⟩
 | bQ act f hx args rs=>obtain⟨h0,st,d,h',h1,h2,h3,h4⟩:=h;exact⟨_,h4,fun t' Q' k=>⟨h0,st,d,h',h1,h2,h3,k⟩⟩
 | fu act x hx args rs=>obtain⟨h0,d,h1,h2⟩:=h;exact⟨d,h2,fun t' Q' h'=>⟨h0,d,h1,h'⟩⟩
 | fC act x hx args rs=>obtain⟨h0,st,d,h',h1,h2,h3,h4⟩:=h;exact⟨_,h4,fun t' Q' k=>⟨h0,st,d,h',h1,h2,h3,k⟩⟩

end

/-! ## loops over a range -/

section
variable {P:Program} {t a b:T} {bs:List Bind} {env bP:List D} {Q:iD→Prop} {x y z g:E} {d:D}

theorem wrap64 {n:Int}(h:-9223372036854775808≤n∧n<9223372036854775808):IntKind.i64.wrap n=n:=by
 simp[IntKind.wrap,IntKind.bits,IntKind.signed];omega

end
end

section
inductive U where
 | ev (x:E) (u:U)
 | aY (x:E) (u:U)
 | call (f:FuncId) (h:E) (args:List E) (rs:List Bool) (u:U)
 | bQ (f:FuncId) (h:E) (args:List E) (rs:List Bool) (u:U)
 | fu (x h:E) (args:List E) (rs:List Bool) (u:U)
 | gen (b:Bind) (u:U)
 | chain (or:Bool) (g:E) (v u:U)
 | ite (c:E) (a b:U)
 | loop (l:Nat) (inits:List E) (body:U)
 | join (l n:Nat) (body rest:U)
 | Y6 (c:E) (as bs:List E) (rest:U)
 | jump (l:Nat) (vals OX:List E)
 | ret (x:E)
 | fc (x h:E) (sl:List Nat) (ks:List E)
 | nk (x:E) (neg:Bool) (u:U)
 | pick (x:E) (u:U)
 | Jc (f:FuncId) (keep:List Nat) (bT:List E) (res:E) (u:U)
 | kV (f:FuncId) (h:E) (args:List E) (rs:List Bool) (sl:List Nat) (ks:List E) (u:U)
 | iH (f:FuncId) (h:E) (args:List E) (rs:List Bool) (sl:List Nat) (ks:List E) (u:U)
 | gu (x h:E) (args:List E) (rs:List Bool) (sl:List Nat) (ks:List E) (u:U)
 | Qsz (x h:E) (sl:List Nat) (bT:List E) (n l:Nat) (body rest:U)
 | lz (x h:E) (sl:List Nat) (bT:List E) (n l:Nat) (q:Option Nat) (body rest tR:U)
 deriving Inhabited

def bu (P:Program):U→List D→(iD→Prop)→Prop
 | .ev x u,env,Q=>∃d,x.eval env=some d∧bu P u (env++[d]) Q
 | .aY x u,env,Q=>(∃d,x.eval env=some d)∧bu P u env Q
 | .call f h args rs u,env,Q=>∃st ds d,h.eval env=some st∧aM env args=some ds∧aP P f st ds d∧d.fits rs=true∧bu P u (env++[d]) Q
 | .bQ f h args rs u,env,Q=>∃st ds d h',h.eval env=some st∧aM env args=some ds∧bk P f st ds d h'∧d.fits rs=true∧bu P u (env++[d,h']) Q
 | .fu x h args rs u,env,Q=>∃f us cs st ds d,x.eval env=some (.fn f us cs)∧bJ P f=true∧h.eval env=some st∧aM env args=some ds∧aP P f st (us++ds++cs) d∧d.fits rs=true∧bu P u (env++[d]) Q
 | .gen b u,env,Q=>∃d,den P (.bind b (.ret (.sym env.length))) env (fun s=>s=.ret d)∧bu P u (env++[d]) Q
 | .chain or g v u,env,Q=>∃p q,g.eval env=some (.v (.bool p))∧(p=!or→bu P v env (fun s=>s=.ret (.v (.bool q))))∧bu P u (env++[.v (.bool (bif or then p||q else p&&q))]) Q
 | .ite c a b,env,Q=>∃v,c.eval env=some (.v (.bool v))∧(v=true→bu P a env Q)∧(v=false→bu P b env Q)
 | .loop l inits body,env,Q=>∃ds,aM env inits=some ds∧∃n,rounds l (fun ds Q=>ds.length=inits.length∧bu P body (env++ds) Q) Q n ds
 | .join l n body rest,env,Q=>bu P body env (dD l (fun ds=>ds.length=n∧bu P rest (env++ds) Q) Q)
 | .Y6 c as bs rest,env,Q=>∃v ds,c.eval env=some (.v (.bool v))∧(v=true→aM env as=some ds)∧(v=false→aM env bs=some ds)∧bu P rest (env++ds) Q
 | .jump l vals OX,env,Q=>(∃cs,aM env OX=some cs)∧∃ds,aM env vals=some ds∧Q (.jump l ds)
 | .ret x,env,Q=>∃d,x.eval env=some d∧Q (.ret d)
 | .fc x h sl ks,env,Q=>∃d st kd,x.eval env=some d∧h.eval env=some st∧aM env ks=some kd∧Q (.fc d st sl kd)
 | .nk x neg u,env,Q=>∃d bs,x.eval env=some d∧d.isNil=some bs∧∀b,b∈bs→bu P u (env++[.v (.bool (b != neg))]) Q
 | .pick x u,env,Q=>∃ys,x.eval env=some (.bq ys)∧∀d st,.bh [d,st]∈ys→bu P u (env++[d,st]) Q
 | .Jc f keep bT res u,env,Q=>∃fk,aM env bT=some fk∧fk.all D.La=true∧bu P u env (JD P f keep fk res Q)
 | .kV f h args rs sl ks u,env,Q=>∃st ds o,h.eval env=some st∧aM env args=some ds∧k8 P f st ds o∧match o with
  | .ret d=>d.fits rs=true∧bu P u (env++[d]) Q
  | .fc d=>∃kd,aM env ks=some kd∧Q (.fc d st sl kd)
 | .iH f h args rs sl ks u,env,Q=>∃st ds o h',h.eval env=some st∧aM env args=some ds∧eN P f st ds o h'∧match o with
  | .ret d=>d.fits rs=true∧bu P u (env++[d,h']) Q
  | .fc d=>∃kd,aM env ks=some kd∧Q (.fc d h' sl kd)
 | .gu x h args rs sl ks u,env,Q=>∃f us cs st ds o h',x.eval env=some (.fn f us cs)∧bJ P f=true∧h.eval env=some st∧aM env args=some ds∧eN P f st (us++ds++cs) o h'∧match o with
  | .ret d=>d.fits rs=true∧bu P u (env++[d,h']) Q
  | .fc d=>∃kd,aM env ks=some kd∧Q (.fc d h' sl kd)
 | .Qsz x h sl bT n l body rest,env,Q=>∃f us cs st fk d gO,x.eval env=some (.fn f us cs)∧bJ P f=true∧h.eval env=some st∧aM env bT=some fk∧cN fk=true∧gO.gK=true ∧
   (∀(m:Nat) (rec:Loop),(∀Qjv ds Qhx,Qjv.gK=true→cN ds=true→ds.length=n→bu P body (env++[Qjv]++ds) (fun s=>s=.jump l [Qhx])→Fp P (.yl m rec sl fk) Qjv ds Qhx)→bk P f st (us++[.yl m rec sl fk]++cs) d gO)∧bu P rest (env++[gO]) Q
 | .lz x h sl bT n l q body rest tR,env,Q=>∃f us cs bs fk d bs' stop,x.eval env=some (.fn f us cs)∧bJ P f=true∧h.eval env=some (.st bs)∧aM env bT=some fk∧bs'[bs.length]? = some (.bh []) ∧
   (∀(rec:Loop×Code),(∀ia ds b lg,ia[bs.length]? = some (.oM false)→ds.length=n→lg[bs.length]? = some (.bh [])→bu P body (env++[.st (ia.set bs.length (.bh []))]++ds) (fun s=>s=Dl l q b (.st lg))→q7 P (.tW bs.length rec sl fk) (.st ia) ds b (.st (lg.set bs.length (.oM !b)))) →
    bk P f (.st (bs++[.oM false])) (us++[.tW bs.length rec sl fk]++cs) d (.st (bs'.set bs.length (.oM stop))))∧(stop=false→bu P rest (env++[.st bs']) Q)∧(stop=true→bu P tR (env++[.st bs']) Q)

theorem cU {P:Program}:∀{t:U} {env:List D} {Q Q':iD→Prop},(∀s,Q s→Q' s)→bu P t env Q→bu P t env Q'
 | .ev x t,env,Q,Q',hq,⟨d,h1,h2⟩=>⟨d,h1,cU hq h2⟩
 | .aY x t,env,Q,Q',hq,⟨h1,h2⟩=>⟨h1,cU hq h2⟩
 | .call f h args rs t,env,Q,Q',hq,⟨st,ds,d,h1,h2,h3,h4,h5⟩=>⟨st,ds,d,h1,h2,h3,h4,cU hq h5⟩
 | .bQ f h args rs t,env,Q,Q',hq,⟨st,ds,d,h',h1,h2,h3,h4,h5⟩=>⟨st,ds,d,h',h1,h2,h3,h4,cU hq h5⟩
 | .fu x h args rs t,env,Q,Q',hq,⟨f,us,cs,st,ds,d,g1,g2,h1,h2,h3,h4,h5⟩=>⟨f,us,cs,st,ds,d,g1,g2,h1,h2,h3,h4,cU hq h5⟩
 | .gen b t,env,Q,Q',hq,⟨d,h1,h2⟩=>⟨d,h1,cU hq h2⟩
 | .chain or g v u,env,Q,Q',hq,⟨p,q,h1,h2,h3⟩=>⟨p,q,h1,h2,cU hq h3⟩
 | .ite c a b,env,Q,Q',hq,⟨v,h1,h2,h3⟩=>⟨v,h1,fun e=>cU hq (h2 e),fun e=>cU hq (h3 e)⟩
 | .loop l inits body,env,Q,Q',hq,⟨ds,h1,n,h2⟩=>⟨ds,h1,n,uk (fun _ _ _ hR h=>⟨h.1,cU hR h.2⟩) hq n ds h2⟩
 | .join l n body rest,env,Q,Q',hq,h=>cU (t:=body) (fun s hs=>by
   cases s with
   | jump l' ds'=>
    simp only[dD] at hs ⊢
    split
    ·rename_i e;rw[if_pos e] at hs;exact⟨hs.1,cU hq hs.2⟩
    ·rename_i e;rw[if_neg e] at hs;exact hq _ hs
   | ret d=>exact hq _ hs
   | fc d st sl kd=>exact hq _ hs) h
 | .Y6 c as bs rest,env,Q,Q',hq,⟨v,ds,h1,h2,h3,h4⟩=>⟨v,ds,h1,h2,h3,cU hq h4⟩
 | .jump l vals OX,env,Q,Q',hq,⟨h0,ds,h1,h2⟩=>⟨h0,ds,h1,hq _ h2⟩
 | .ret x,env,Q,Q',hq,⟨d,h1,h2⟩=>⟨d,h1,hq _ h2⟩
 | .fc x h sl ks,env,Q,Q',hq,⟨d,st,kd,h1,h2,h3,h4⟩=>⟨d,st,kd,h1,h2,h3,hq _ h4⟩
 | .nk x neg t,env,Q,Q',hq,⟨d,bs,h1,h2,h3⟩=>⟨d,bs,h1,h2,fun b hb=>cU hq (h3 b hb)⟩
 | .pick x t,env,Q,Q',hq,⟨ys,h1,h2⟩=>⟨ys,h1,fun d st hy=>cU hq (h2 d st hy)⟩
 | .Jc f keep bT res t,env,Q,Q',hq,⟨fk,h1,h2,h3⟩=>⟨fk,h1,h2,cU (fun _=>Hs hq) h3⟩
 | .kV f h args rs sl ks t,env,Q,Q',hq,⟨st,ds,.ret d,h1,h2,h3,h4,h5⟩=>⟨st,ds,.ret d,h1,h2,h3,h4,cU hq h5⟩
 | .kV f h args rs sl ks t,env,Q,Q',hq,⟨st,ds,.fc d,h1,h2,h3,kd,h4,h5⟩=>⟨st,ds,.fc d,h1,h2,h3,kd,h4,hq _ h5⟩
 | .iH f h args rs sl ks t,env,Q,Q',hq,⟨st,ds,.ret d,h',h1,h2,h3,h4,h5⟩=>⟨st,ds,.ret d,h',h1,h2,h3,h4,cU hq h5⟩
 | .iH f h args rs sl ks t,env,Q,Q',hq,⟨st,ds,.fc d,h',h1,h2,h3,kd,h4,h5⟩=>⟨st,ds,.fc d,h',h1,h2,h3,kd,h4,hq _ h5⟩
 | .gu x h args rs sl ks t,env,Q,Q',hq,⟨f,us,cs,st,ds,.ret d,h',g1,g2,h1,h2,h3,h4,h5⟩=>⟨f,us,cs,st,ds,.ret d,h',g1,g2,h1,h2,h3,h4,cU hq h5⟩
 | .gu x h args rs sl ks t,env,Q,Q',hq,⟨f,us,cs,st,ds,.fc d,h',g1,g2,h1,h2,h3,kd,h4,h5⟩=>⟨f,us,cs,st,ds,.fc d,h',g1,g2,h1,h2,h3,kd,h4,hq _ h5⟩
 | .Qsz x h sl bT n l body rest,env,Q,Q',hq,⟨f,us,cs,st,fk,d,gO,h1,h2,h3,h4,h5,h6,h7,h8⟩=>⟨f,us,cs,st,fk,d,gO,h1,h2,h3,h4,h5,h6,h7,cU hq h8⟩
 | .lz x h sl bT n l q body rest tR,env,Q,Q',hq,⟨f,us,cs,bs,fk,d,bs',stop,h1,h2,h3,h4,h5,h6,h7,h8⟩=>⟨f,us,cs,bs,fk,d,bs',stop,h1,h2,h3,h4,h5,h6,fun e=>cU hq (h7 e),fun e=>cU hq (h8 e)⟩

/-! ## expressions over other data -/

inductive SE where
 | no
 | e (x:E)
 | pair (i j:Nat)
 deriving Inhabited

def Tw (n i:Nat):E→E
 | .aa (.sym p) (.aa (.sym q) .ax)=>if p<n∧q<n then(if i=0 then .sym p else if i=1 then .sym q else .Qrx i (.aa (.sym p) (.aa (.sym q) .ax))) else .Qrx i (.aa (.sym p) (.aa (.sym q) .ax))
 | x=>.Qrx i x

def E.sb (n:Nat)(σ:List SE):E→Option E
 | .sym k=>match σ[k]? with
  | some (.e x)=>some x
  | some (.pair i j)=>some (.aa (.sym i) (.aa (.sym j) .ax))
  | _=>none
 | .const d=>some (.const d)
 | .nil=>some .nil
 | .ax=>some .ax
 | .un o a=>(a.sb n σ).map (.un o)
 | .conv k a=>(a.sb n σ).map (.conv k)
 | .aR a=>(a.sb n σ).map .aR
 | .uJ a=>(a.sb n σ).map .uJ
 | .bt a=>(a.sb n σ).map .bt
 | .cell i a=>(a.sb n σ).map (.cell i)
 | .cells i m a=>(a.sb n σ).map (.cells i m)
 | .bB m a=>(a.sb n σ).map (.bB m)
 | .one a=>(a.sb n σ).map .one
 | .gE a=>(a.sb n σ).map .gE
 | .Qrx i a=>(a.sb n σ).map (Tw n i)
 | .rep b a d=>(a.sb n σ).map fun x=>.rep b x d
 | .deref a=>(a.sb n σ).map .deref
 | .oO t a=>(a.sb n σ).map (.oO t)
 | .ay k a=>(a.sb n σ).map (.ay k)
 | .nn a=>(a.sb n σ).map .nn
 | .aU a=>(a.sb n σ).map .aU
 | .bin o k a b=>(a.sb n σ).bind fun x=>(b.sb n σ).map (.bin o k x)
 | .idx a b=>(a.sb n σ).bind fun x=>(b.sb n σ).map (.idx x)
 | .uS m a b=>(a.sb n σ).bind fun x=>(b.sb n σ).map (.uS m x)
 | .cons a b=>(a.sb n σ).bind fun x=>(b.sb n σ).map (.cons x)
 | .app m k a b=>(a.sb n σ).bind fun x=>(b.sb n σ).map (.app m k x)
 | .bz a b=>(a.sb n σ).bind fun x=>(b.sb n σ).map (.bz x)
 | .gV f a b=>(a.sb n σ).bind fun x=>(b.sb n σ).map (.gV f x)
 | .aa a b=>(a.sb n σ).bind fun x=>(b.sb n σ).map (.aa x)
 | .mm m a b=>(a.sb n σ).bind fun x=>(b.sb n σ).map (.mm m x)
 | .aj m a b=>(a.sb n σ).bind fun x=>(b.sb n σ).map (.aj m x)
 | .ld g m a b=>(a.sb n σ).bind fun x=>(b.sb n σ).map (.ld g m x)
 | .cI e m a b=>(a.sb n σ).bind fun x=>(b.sb n σ).map (.cI e m x)
 | .a_ e m a b=>(a.sb n σ).bind fun x=>(b.sb n σ).map (.a_ e m x)
 | .bO a b=>(a.sb n σ).bind fun x=>(b.sb n σ).map (.bO x)
 | .ve g a b=>(a.sb n σ).bind fun x=>(b.sb n σ).map (.ve g x)
 | .vf a b=>(a.sb n σ).bind fun x=>(b.sb n σ).map (.vf x)
 | .guard a w b=>(a.sb n σ).bind fun x=>(b.sb n σ).map (.guard x w)
 | .sub m a b c=>(a.sb n σ).bind fun x=>(b.sb n σ).bind fun y=>(c.sb n σ).map (.sub m x y)
 | .set a b k c=>(a.sb n σ).bind fun x=>(b.sb n σ).bind fun y=>(c.sb n σ).map (.set x y k)
 | .ite a b c=>(a.sb n σ).bind fun x=>(b.sb n σ).bind fun y=>(c.sb n σ).map (.ite x y)
 | .gQ m a b c=>(a.sb n σ).bind fun x=>(b.sb n σ).bind fun y=>(c.sb n σ).map (.gQ m x y)
 | .fU e m k a b c=>(a.sb n σ).bind fun x=>(b.sb n σ).bind fun y=>(c.sb n σ).map (.fU e m k x y)
 | .apps a b c=>(a.sb n σ).bind fun x=>(b.sb n σ).bind fun y=>(c.sb n σ).map (.apps x y)
 | .m4 o a b c d=>(a.sb n σ).bind fun x=>(b.sb n σ).bind fun y=>(c.sb n σ).bind fun z=>(d.sb n σ).map (.m4 o x y z)

def Ms (env':List D)(x:Option D):SE→Prop
 | .no=>True
 | .e y=>y.eval env'=x
 | .pair i j=>∃d1 d2,env'[i]? = some d1∧env'[j]? = some d2∧x=some (.bh [d1,d2])

def Hr (σ:List SE)(env env':List D):Prop:=∀(k:Nat) (s:SE),σ[k]? = some s→Ms env' env[k]? s

theorem MW {env:List D}{i:Nat}(x:E):(Tw env.length i x).eval env=(E.Qrx i x).eval env:=by
 unfold Tw
 split
 ·rename_i p q
  split
  ·rename_i h
   have e1:=List.getElem?_eq_getElem h.1
   have e2:=List.getElem?_eq_getElem h.2
   split
   ·rename_i e;subst e
    simp only[E.eval,e1,e2,Option.bind_some,D.aa,D.Qrx]
    rfl
   ·split
    ·rename_i e;subst e
     simp only[E.eval,e1,e2,Option.bind_some,D.aa,D.Qrx]
     rfl
    ·rfl
  ·rfl
 ·rfl

theorem E.eS {σ:List SE}{env env':List D}(hσ:Hr σ env env'):∀{x x':E},x.sb env'.length σ=some x'→x'.eval env'=x.eval env:=by
 intro x
 induction x <;> intro x' h <;> simp only[E.sb,Option.map_eq_some_iff,Option.bind_eq_some_iff] at h
 case sym k=>
  split at h
  ·rename_i y hk
   cases h
   exact hσ k _ hk
  ·rename_i i j hk
   cases h
   obtain⟨d1,d2,h1,h2,h3⟩:=hσ k _ hk
   show _=env[k]?
   rw[h3]
   simp only[E.eval,h1,h2,Option.bind_some,D.aa]
  ·cases h
 case Qrx i a ih=>
  obtain⟨y,h1,rfl⟩:=h
  rw[MW]
  simp only[E.eval,ih h1]
 case const d=>cases h;rfl
 case nil=>cases h;rfl
 case ax=>cases h;rfl
 case ite a b c iha ihb NZ=>
  obtain⟨y,h1,z,h2,u,h3,rfl⟩:=h
  simp only[E.eval,iha h1,ihb h2,NZ h3]
 case guard a w b iha ihb=>
  obtain⟨y,h1,z,h2,rfl⟩:=h
  simp only[E.eval,iha h1,ihb h2]
 all_goals first
 |(rename_i ih;obtain⟨y,h1,rfl⟩:=h;simp only[E.eval,ih h1])
 |(rename_i iha ihb;obtain⟨y,h1,z,h2,rfl⟩:=h;simp only[E.eval,iha h1,ihb h2])
 |(rename_i iha ihb NZ;obtain⟨y,h1,z,h2,u,h3,rfl⟩:=h;simp only[E.eval,iha h1,ihb h2,NZ h3])
 |(rename_i iha ihb NZ ihd;obtain⟨y,h1,z,h2,u,h3,v,h4,rfl⟩:=h;simp only[E.eval,iha h1,ihb h2,NZ h3,ihd h4])

def j8 (n:Nat)(σ:List SE):List E→Option (List E)
 | []=>some []
 | x :: r=>(x.sb n σ).bind fun y=>(j8 n σ r).map (y :: ·)

theorem cZ {σ:List SE}{env env':List D}(hσ:Hr σ env env'):∀{l l':List E},j8 env'.length σ l=some l'→aM env' l'=aM env l
 | [],l',h=>by cases h;rfl
 | x :: r,l',h=>by
  simp only[j8,Option.bind_eq_some_iff,Option.map_eq_some_iff] at h
  obtain⟨y,h1,z,h2,rfl⟩:=h
  simp only[aM,E.eS hσ h1,cZ hσ h2]

def Dh (n:Nat)(σ:List SE):List (E×Bool)→Option (List (E×Bool))
 | []=>some []
 | p :: r=>(p.1.sb n σ).bind fun y=>(Dh n σ r).map ((y,p.2) :: ·)

theorem pN {σ:List SE}{env env':List D}(hσ:Hr σ env env'):∀{l l':List (E×Bool)},Dh env'.length σ l=some l'→((∀p,p∈l'→∃d,p.1.eval env'=some d)→∀p,p∈l→∃d,p.1.eval env=some d)∧(bI env' l'↔bI env l)
 | [],l',h=>by cases h;exact⟨fun _ p hp=>(by cases hp),(by simp[bI])⟩
 | x :: r,l',h=>by
  simp only[Dh,Option.bind_eq_some_iff,Option.map_eq_some_iff] at h
  obtain⟨y,h1,z,h2,rfl⟩:=h
  have e:=E.eS hσ h1
  obtain⟨g1,g2⟩:=pN hσ h2
  refine⟨fun h p hp=>?_,?_⟩
  ·rcases List.mem_cons.1 hp with rfl | hp
   ·rw[←e];exact h (y,p.2) (by simp)
   ·exact g1 (fun q hq=>h q (by simp[hq])) p hp
  ·unfold bI at g2 ⊢
   simp only[List.forall_mem_cons,e,g2]

theorem Hr.append {σ σ2:List SE}{env env' bP ds:List D}(h:Hr σ env env')(hl:env.length=σ.length)(h2:∀(k:Nat) (s:SE),σ2[k]? = some s→Ms bP ds[k]? s)(he:env' <+: bP):Hr (σ++σ2) (env++ds) bP:=by
 intro k s hk
 rcases Nat.lt_or_ge k σ.length with hlt | hge
 ·rw[List.getElem?_append_left hlt] at hk
  rw[List.getElem?_append_left (by omega)]
  have:=h k s hk
  cases s with
  | no=>exact trivial
  | e y=>
   have hd:=List.getElem?_eq_getElem (show k<env.length by omega)
   simp only[Ms] at this ⊢
   rw[hd] at this ⊢
   exact E.cA he _ this
  | pair i j=>
   obtain⟨d1,d2,g1,g2,g3⟩:=this
   obtain⟨r,rfl⟩:=he
   exact⟨d1,d2,by rw[List.getElem?_append_left (List.getElem?_eq_some_iff.1 g1).1];exact g1,by rw[List.getElem?_append_left (List.getElem?_eq_some_iff.1 g2).1];exact g2,g3⟩
 ·rw[List.getElem?_append_right hge] at hk
  rw[List.getElem?_append_right (by omega),hl]
  exact h2 _ s hk

/-! ## Qiw shorter text -/

def E.bits:E→Nat
 | .sym k=>1 <<< k
 | .const _ | .nil | .ax=>0
 | .un _ a | .conv _ a | .aR a | .uJ a | .bt a | .cell _ a | .cells _ _ a | .bB _ a | .one a | .gE a | .Qrx _ a | .rep _ a _ | .deref a | .oO _ a | .ay _ a | .nn a | .aU a=>a.bits
 | .bin _ _ a b | .idx a b | .uS _ a b | .cons a b | .app _ _ a b | .bz a b | .gV _ a b | .aa a b | .mm _ a b | .aj _ a b | .ld _ _ a b | .cI _ _ a b | .a_ _ _ a b | .bO a b | .ve _ a b | .vf a b | .guard a _ b=>a.bits ||| b.bits
 | .sub _ a b c | .set a b _ c | .ite a b c | .gQ _ a b c | .fU _ _ _ a b c | .apps a b c=>a.bits ||| (b.bits ||| c.bits)
 | .m4 _ a b c d=>a.bits ||| (b.bits ||| (c.bits ||| d.bits))

def kQ:List E→Nat
 | []=>0
 | x :: r=>x.bits ||| kQ r

def Jr:List (E×Bool)→Nat
 | []=>0
 | x :: r=>x.1.bits ||| Jr r

def Bind.bits:Bind→Nat
 | .ev x=>x.bits
 | .call act _ h args _ | .bQ act _ h args _=>Jr act ||| (h.bits ||| kQ args)
 | .fu act x h args _ | .fC act x h args _=>Jr act ||| (x.bits ||| (h.bits ||| kQ args))

def T.bits:T→Nat
 | .bind b t=>b.bits ||| t.bits
 | .ite c a b=>c.bits ||| (a.bits ||| b.bits)
 | .loop _ inits body=>kQ inits ||| body.bits
 | .join _ _ body rest=>body.bits ||| rest.bits
 | .jump _ vals=>kQ vals
 | .ret x=>x.bits
 | .fc x h _ ks=>x.bits ||| (h.bits ||| kQ ks)
 | .nk x _ t=>x.bits ||| t.bits
 | .pick x t=>x.bits ||| t.bits
 | .Jc _ _ bT _ t=>kQ bT ||| t.bits
 | .kV _ h args _ _ ks t | .iH _ h args _ _ ks t=>h.bits ||| (kQ args ||| (kQ ks ||| t.bits))
 | .gu x h args _ _ ks t=>x.bits ||| (h.bits ||| (kQ args ||| (kQ ks ||| t.bits)))
 | .Qsz x h _ bT _ _ body rest=>x.bits ||| (h.bits ||| (kQ bT ||| (body.bits ||| rest.bits)))
 | .lz x h _ bT _ _ _ body rest tR=>x.bits ||| (h.bits ||| (kQ bT ||| (body.bits ||| (rest.bits ||| tR.bits))))

def aht (m k:Nat):Bool:=(m >>> k) % 2==1

def qj (g:E)(w:Bool):Nat→T→List Bind×Nat×T
 | n,.bind b t=>match qO n g w b with
  | some b'=>let r:=qj g w (n+1) t;(b' :: r.1,r.2.1+1,r.2.2)
  | none=>([],0,.bind b t)
 | _,t=>([],0,t)

def CB (b:Bool):E→Bool
 | .const (.v (.bool c))=>b==c
 | _=>false

def CM (n : Nat) (b : Bind) (t : T) : Option (Bool × E × T × Nat × T) :=
  match ZC [b] with
  | some (g, w) => match qj g w n (.bind b t) with
    | (bs, k, .bind (.ev (.ite g' y z)) rest) =>
      if g.zC g' = true ∧ (rest.bits >>> n) % (1 <<< k) = 0 then
        if w = false ∧ CB true y = true then some (true, g, Qrz bs (.ret z), k, rest)
        else if w = true ∧ CB false z = true then some (false, g, Qrz bs (.ret y), k, rest)
        else none
      else none
    | _ => none
  | none => none

def yq:E→Bool
 | .sym _=>true
 | .cell _ x | .Qrx _ x | .ay _ x | .bB _ x | .nn x=>yq x
 | _=>false

def cheap (n:Nat):E→Option (Bool×E)
 | .sym j=>if j<n then some (false,.sym j) else none
 | .const d=>some (false,.const d)
 | .bB _ y | .nn y | .bt y=>if yq y=true then some (true,y) else none
 | .cell i y=>if yq y=true then some (true,.cell i y) else none
 | .Qrx i y=>if yq y=true then some (true,.Qrx i y) else none
 | .ay i y=>if yq y=true then some (true,.ay i y) else none
 | _=>none

def fq {α:Type}:List Bool→List α→List α
 | true :: r,x :: l=>x :: fq r l
 | false :: r,_ :: l=>fq r l
 | _,_=>[]

def sure (n:Nat):E→Bool
 | .sym k=>decide (k<n)
 | .const _=>true
 | _=>false

def om:Nat→List Bool→List SE
 | _,[]=>[]
 | n,true :: r=>.e (.sym n) :: om (n+1) r
 | n,false :: r=>.no :: om n r

def D4 (bits:Nat):Nat→Nat→List Bool
 | _,0=>[]
 | k,m+1=>aht bits k :: D4 bits (k+1) m

def s5 (n:Nat):List Bool→List E→List Bool
 | b :: r,x :: l=>(b||!sure n x) :: s5 n r l
 | _,_=>[]

def Ua (l n:Nat):U→U→U
 | .ite c (.jump l1 as []) (.jump l2 bs []),rest=>if l1=l∧l2=l∧as.length=n∧bs.length=n then .Y6 c as bs rest else .join l n (.ite c (.jump l1 as []) (.jump l2 bs [])) rest
 | body,rest=>.join l n body rest

def uh (n:Nat)(σ:List SE):Bind→Option Bind
 | .ev x=>(x.sb n σ).map .ev
 | .call act f h args rs=>(Dh n σ act).bind fun act'=>(h.sb n σ).bind fun h'=>(j8 n σ args).map fun args'=>.call act' f h' args' rs
 | .bQ act f h args rs=>(Dh n σ act).bind fun act'=>(h.sb n σ).bind fun h'=>(j8 n σ args).map fun args'=>.bQ act' f h' args' rs
 | .fu act x h args rs=>(Dh n σ act).bind fun act'=>(x.sb n σ).bind fun x'=>(h.sb n σ).bind fun h'=>(j8 n σ args).map fun args'=>.fu act' x' h' args' rs
 | .fC act x h args rs=>(Dh n σ act).bind fun act'=>(x.sb n σ).bind fun x'=>(h.sb n σ).bind fun h'=>(j8 n σ args).map fun args'=>.fC act' x' h' args' rs

def tr:Nat→Nat→List SE→List (Nat×List Bool)→T→Option U
 | 0,_,_,_,_=>none
 | f+1,n,σ,Γ,.bind b t=>
  match CM σ.length b t with
  | some (or,g,inner,k,rest)=>(g.sb n σ).bind fun g'=>(tr f n σ [] inner).bind fun v=>(tr f (n+1) (σ++(List.replicate k .no++[.e (.sym n)])) Γ rest).map (.chain or g' v)
  | none=>match b with
   | .ev x=>(x.sb n σ).bind fun x'=>match cheap n x' with
    | some (false,y)=>tr f n (σ++[.e y]) Γ t
    | some (true,y)=>(tr f n (σ++[.e y]) Γ t).map (.aY x')
    | none=>(tr f (n+1) (σ++[.e (.sym n)]) Γ t).map (.ev x')
   | .call [] fn h args rs=>(h.sb n σ).bind fun h'=>(j8 n σ args).bind fun args'=>(tr f (n+1) (σ++[.e (.sym n)]) Γ t).map (.call fn h' args' rs)
   | .bQ [] fn h args rs=>(h.sb n σ).bind fun h'=>(j8 n σ args).bind fun args'=>(tr f (n+2) (σ++[.pair n (n+1)]) Γ t).map (.bQ fn h' args' rs)
   | .fu [] x h args rs=>(x.sb n σ).bind fun x'=>(h.sb n σ).bind fun h'=>(j8 n σ args).bind fun args'=>(tr f (n+1) (σ++[.e (.sym n)]) Γ t).map (.fu x' h' args' rs)
   | b=>(uh n σ b).bind fun b'=>(tr f (n+1) (σ++[.e (.sym n)]) Γ t).map (.gen b')
 | f+1,n,σ,Γ,.ite c a b=>(c.sb n σ).bind fun c'=>(tr f n σ Γ a).bind fun a'=>(tr f n σ Γ b).map (.ite c' a')
 | f+1,n,σ,Γ,.loop l inits body=>
  let keep:=s5 σ.length (D4 body.bits σ.length inits.length) inits
  if keep.length=inits.length then(j8 n σ (fq keep inits)).bind fun inits'=>(tr f (n+inits'.length) (σ++om n keep) ((l,keep) :: Γ) body).map (.loop l inits') else none
 | f+1,n,σ,Γ,.join l m body rest=>
  let keep:=D4 rest.bits σ.length m
  if keep.length=m then(tr f n σ ((l,keep) :: Γ) body).bind fun body'=>(tr f (n+(fq keep keep).length) (σ++om n keep) Γ rest).map (Ua l (fq keep keep).length body') else none
 | _+1,n,σ,Γ,.jump l vals=>(Γ.lookup l).bind fun keep=>if vals.length=keep.length then(j8 n σ (fq keep vals)).bind fun YY=>(j8 n σ ((fq (keep.map not) vals).filter fun x=>!sure σ.length x)).map (.jump l YY) else none
 | _+1,n,σ,_,.ret x=>(x.sb n σ).map .ret
 | _+1,n,σ,_,.fc x h sl ks=>(x.sb n σ).bind fun x'=>(h.sb n σ).bind fun h'=>(j8 n σ ks).map (.fc x' h' sl)
 | f+1,n,σ,Γ,.nk x neg t=>(x.sb n σ).bind fun x'=>(tr f (n+1) (σ++[.e (.sym n)]) Γ t).map (.nk x' neg)
 | f+1,n,σ,Γ,.pick x t=>(x.sb n σ).bind fun x'=>(tr f (n+2) (σ++[.pair n (n+1)]) Γ t).map (.pick x')
 | f+1,n,σ,Γ,.Jc fn keep bT res t=>(j8 n σ bT).bind fun iA=>(tr f n σ Γ t).map (.Jc fn keep iA res)
 | f+1,n,σ,Γ,.kV fn h args rs sl ks t=>(h.sb n σ).bind fun h'=>(j8 n σ args).bind fun args'=>(j8 n σ ks).bind fun ks'=>(tr f (n+1) (σ++[.e (.sym n)]) Γ t).map (.kV fn h' args' rs sl ks')
 | f+1,n,σ,Γ,.iH fn h args rs sl ks t=>(h.sb n σ).bind fun h'=>(j8 n σ args).bind fun args'=>(j8 n σ ks).bind fun ks'=>(tr f (n+2) (σ++[.pair n (n+1)]) Γ t).map (.iH fn h' args' rs sl ks')
 | f+1,n,σ,Γ,.gu x h args rs sl ks t=>(x.sb n σ).bind fun x'=>(h.sb n σ).bind fun h'=>(j8 n σ args).bind fun args'=>(j8 n σ ks).bind fun ks'=>(tr f (n+2) (σ++[.pair n (n+1)]) Γ t).map (.gu x' h' args' rs sl ks')
 | f+1,n,σ,Γ,.Qsz x h sl bT m l body rest=>(x.sb n σ).bind fun x'=>(h.sb n σ).bind fun h'=>(j8 n σ bT).bind fun iA=>
  (tr f (n+(m+1)) (σ++om n (List.replicate (m+1) true)) [(l,[true])] body).bind fun body'=>(tr f (n+1) (σ++[.e (.sym n)]) Γ rest).map (.Qsz x' h' sl iA m l body')
 | f+1,n,σ,Γ,.lz x h sl bT m l q body rest tR=>(x.sb n σ).bind fun x'=>(h.sb n σ).bind fun h'=>(j8 n σ bT).bind fun iA=>
  (tr f (n+(m+1)) (σ++om n (List.replicate (m+1) true)) [(l,[true]),(l+1,[true])] body).bind fun body'=>(tr f (n+1) (σ++[.e (.sym n)]) Γ rest).bind fun rest'=>(tr f (n+1) (σ++[.e (.sym n)]) Γ tR).map (.lz x' h' sl iA m l q body' rest')
end

section
section
variable {P:Program} {g:E} {w p:Bool}

theorem F_:∀{t:T} {env:List D} {x:E} {dx:D},g.eval env=some (.v (.bool w))→den P (Qrz (qj g w env.length t).1 (.ret x)) env (fun s=>s=.ret dx) →
  ∃us:List D,us.length=(qj g w env.length t).2.1∧x.eval (env++us)=some dx∧∀(Q:iD→Prop),den P (qj g w env.length t).2.2 (env++us) Q→den P t env Q:=by
 intro t
 induction t with
 | bind b t ih=>
  intro env x dx hg h
  simp only[qj] at h ⊢
  cases hs:qO env.length g w b with
  | none=>
   simp only[hs] at h ⊢
   obtain⟨d,h1,h2⟩:=h
   cases h2
   exact⟨[],rfl,by simpa using h1,fun Q k=>by simpa using k⟩
  | some b'=>
   simp only[hs] at h ⊢
   have h':den P (.bind b' (Qrz (qj g w (env.length+1) t).1 (.ret x))) env (fun s=>s=.ret dx):=h
   obtain⟨d,h1,h2⟩:=Fc h'
   have hl:env.length+1=(env++[d]).length:=by simp
   rw[hl] at h1 ⊢
   obtain⟨us,g1,g2,g3⟩:=ih (env:=env++[d]) (E.cA (prefix_append _ _) _ hg) h1
   refine⟨d :: us,by simp[g1],by simpa using g2,fun Q k=>?_⟩
   exact C3 hs hg (h2 _ _ (g3 Q (by simpa using k)))
 | _=>
  intro env x dx hg h
  obtain⟨d,h1,h2⟩:=h
  cases h2
  exact⟨[],rfl,by simpa using h1,fun Q k=>by simpa[qj] using k⟩

theorem Ga:∀{t:T} {env:List D},g.eval env=some (.v (.bool p))→p≠w →
  ∃us:List D,us.length=(qj g w env.length t).2.1∧∀(Q:iD→Prop),den P (qj g w env.length t).2.2 (env++us) Q→den P t env Q:=by
 intro t
 induction t with
 | bind b t ih=>
  intro env hg hp
  simp only[qj]
  cases hs:qO env.length g w b with
  | none=>exact⟨[],rfl,fun Q k=>by simpa using k⟩
  | some b'=>
   simp only
   have hl:env.length+1=(env++[D.undef]).length:=by simp
   rw[hl]
   obtain⟨us,g1,g3⟩:=ih (env:=env++[D.undef]) (E.cA (prefix_append _ _) _ hg) hp
   refine⟨D.undef :: us,by simp[g1],fun Q k=>?_⟩
   exact C4 hs hg hp (g3 Q (by simpa using k))
 | _=>
  intro env hg hp
  exact⟨[],rfl,fun Q k=>by simpa[qj] using k⟩

theorem Eg {b:Bool}{x:E}(h:CB b x=true):x=.const (.v (.bool b)):=by
 unfold CB at h
 split at h
 ·simp only[beq_iff_eq] at h;rw[h]
 ·cases h

theorem Mb {b:Bind} {t inner rest:T} {or:Bool} {k:Nat} {env:List D} {Q:iD→Prop} (hc:CM env.length b t=some (or,g,inner,k,rest)) {q:Bool} (hg:g.eval env=some (.v (.bool p)))
  (h1:p=!or→den P inner env (fun s=>s=.ret (.v (.bool q)))) (h2:∀us:List D,us.length=k→den P rest (env++us++[.v (.bool (bif or then p||q else p&&q))]) Q):den P (.bind b t) env Q:=by
 unfold CM at hc
 split at hc
 ·rename_i g0 w _
  split at hc
  ·rename_i bs k0 g' y z aoq hT
   split at hc
   ·rename_i hb
    have hgg:=E.nO hb.1
    subst hgg
    split at hc
    ·rename_i hw
     cases hc
     obtain⟨rfl,hy⟩:=hw
     have hy:=Eg hy
     subst hy
     cases p with
     | true=>
      obtain⟨us,g1,g3⟩:=Ga (P:=P) (t:=.bind b t) (w:=false) hg (by simp)
      rw[hT] at g1 g3
      refine g3 Q ⟨.v (.bool true),?_,?_⟩
      ·simp only[E.eval,E.cA (prefix_append env us) _ hg]
      ·simpa using h2 us g1
     | false=>
      have h1':=h1 rfl
      have e:bs=(qj g false env.length (.bind b t)).1:=by rw[hT]
      rw[e] at h1'
      obtain⟨us,g1,g2,g3⟩:=F_ (P:=P) (t:=.bind b t) hg h1'
      rw[hT] at g1 g3
      refine g3 Q ⟨.v (.bool q),?_,?_⟩
      ·simp only[E.eval,E.cA (prefix_append env us) _ hg];exact g2
      ·simpa using h2 us g1
    ·split at hc
     ·rename_i hw
      cases hc
      obtain⟨rfl,hz⟩:=hw
      have hz:=Eg hz
      subst hz
      cases p with
      | false=>
       obtain⟨us,g1,g3⟩:=Ga (P:=P) (t:=.bind b t) (w:=true) hg (by simp)
       rw[hT] at g1 g3
       refine g3 Q ⟨.v (.bool false),?_,?_⟩
       ·simp only[E.eval,E.cA (prefix_append env us) _ hg]
       ·simpa using h2 us g1
      | true=>
       have h1':=h1 rfl
       have e:bs=(qj g true env.length (.bind b t)).1:=by rw[hT]
       rw[e] at h1'
       obtain⟨us,g1,g2,g3⟩:=F_ (P:=P) (t:=.bind b t) hg h1'
       rw[hT] at g1 g3
       refine g3 Q ⟨.v (.bool q),?_,?_⟩
       ·simp only[E.eval,E.cA (prefix_append env us) _ hg];exact g2
       ·simpa using h2 us g1
     ·cases hc
   ·cases hc
  ·cases hc
 ·cases hc

theorem Ma {env:List D}{x y:E}{c:Bool}(h:cheap env.length x=some (c,y))(hd:c=true→∃d,x.eval env=some d):∃d,x.eval env=some d∧y.eval env=some d:=by
 unfold cheap at h
 split at h
 ·rename_i j
  split at h
  ·rename_i hj;cases h;exact⟨_,List.getElem?_eq_getElem hj,List.getElem?_eq_getElem hj⟩
  ·cases h
 ·cases h;exact⟨_,rfl,rfl⟩
 ·split at h
  ·cases h
   obtain⟨d,hd⟩:=hd rfl
   simp only[E.eval,Option.bind_eq_some_iff] at hd
   obtain⟨d',h1,h2⟩:=hd
   refine⟨d',?_,h1⟩
   simp only[E.eval,h1,Option.bind_some]
   unfold D.bB at h2 ⊢
   split at h2
   ·split at h2
    ·rename_i hl;rw[if_pos hl]
    ·cases h2
   ·cases h2
  ·cases h
 ·split at h
  ·cases h
   obtain⟨d,hd⟩:=hd rfl
   simp only[E.eval,Option.bind_eq_some_iff] at hd
   obtain⟨d',h1,h2⟩:=hd
   refine⟨d',?_,h1⟩
   simp only[E.eval,h1,Option.bind_some]
   unfold D.nn at h2 ⊢
   split at h2 <;> first | rfl | cases h2
  ·cases h
 ·split at h
  ·cases h
   obtain⟨d,hd⟩:=hd rfl
   simp only[E.eval,Option.bind_eq_some_iff] at hd
   obtain⟨d',h1,h2⟩:=hd
   refine⟨d',?_,h1⟩
   simp only[E.eval,h1,Option.bind_some]
   unfold D.bt at h2 ⊢
   split at h2
   ·rename_i hl;rw[if_pos hl]
   ·cases h2
  ·cases h
 ·split at h
  ·cases h;obtain⟨d,hd⟩:=hd rfl;exact⟨d,hd,hd⟩
  ·cases h
 ·split at h
  ·cases h;obtain⟨d,hd⟩:=hd rfl;exact⟨d,hd,hd⟩
  ·cases h
 ·split at h
  ·cases h;obtain⟨d,hd⟩:=hd rfl;exact⟨d,hd,hd⟩
  ·cases h
 ·cases h

/-! ## values aiY are left out -/

theorem I7:∀{keep:List Bool} {ds pre:List D},ds.length=keep.length→∀(k:Nat) (s:SE),(om pre.length keep)[k]? = some s→Ms (pre++fq keep ds) ds[k]? s
 | [],_,_,_,k,s,h=>by simp[om] at h
 | true :: r,d :: ds,pre,hl,k,s,h=>by
  cases k with
  | zero=>
   simp only[om,List.getElem?_cons_zero,Option.some.injEq] at h
   subst h
   simp[Ms,E.eval,fq]
  | succ k=>
   simp only[om,List.getElem?_cons_succ] at h
   have hp:pre.length+1=(pre++[d]).length:=by simp
   rw[hp] at h
   have:=I7 (pre:=pre++[d]) (ds:=ds) (keep:=r) (by simpa using hl) k s h
   simpa[fq] using this
 | false :: r,d :: ds,pre,hl,k,s,h=>by
  cases k with
  | zero=>
   simp only[om,List.getElem?_cons_zero,Option.some.injEq] at h
   subst h
   exact trivial
  | succ k=>
   simp only[om,List.getElem?_cons_succ] at h
   have:=I7 (pre:=pre) (ds:=ds) (keep:=r) (by simpa using hl) k s h
   simpa[fq] using this
 | _ :: _,[],_,hl,_,_,_=>by simp at hl

theorem mg:∀{keep:List Bool} {n:Nat},(om n keep).length=keep.length
 | [],_=>rfl
 | true :: r,n=>by simp[om,mg (keep:=r)]
 | false :: r,n=>by simp[om,mg (keep:=r)]

theorem jD {env:List D}:∀{l:List E} {ds:List D},aM env l=some ds→ds.length=l.length
 | [],ds,h=>by simp[aM] at h;simp[h]
 | x :: r,ds,h=>by
  simp only[aM,Option.bind_eq_some_iff,Option.map_eq_some_iff] at h
  obtain⟨d,_,ds',h2,rfl⟩:=h
  simp[jD h2]

theorem oT {env:List D}:∀{keep:List Bool} {l:List E} {ds':List D},l.length=keep.length→aM env (fq keep l)=some ds'→(∀x,x∈fq (keep.map not) l→∃d,x.eval env=some d)→∃ds,aM env l=some ds∧fq keep ds=ds'
 | [],[],ds',_,h,_=>by
  simp[fq,aM] at h
  subst h
  exact⟨[],rfl,rfl⟩
 | true :: r,x :: l,ds',hl,h,hd=>by
  simp only[fq,aM,Option.bind_eq_some_iff,Option.map_eq_some_iff] at h
  obtain⟨d,h1,ZQ,h2,rfl⟩:=h
  obtain⟨ds,g1,g2⟩:=oT (keep:=r) (l:=l) (by simpa using hl) h2 (fun x hx=>hd x (by simpa[fq] using hx))
  exact⟨d :: ds,by simp[aM,h1,g1],by simp[fq,g2]⟩
 | false :: r,x :: l,ds',hl,h,hd=>by
  simp only[fq] at h
  obtain⟨d,h1⟩:=hd x (by simp[fq])
  obtain⟨ds,g1,g2⟩:=oT (keep:=r) (l:=l) (by simpa using hl) h (fun x hx=>hd x (by simp[fq,hx]))
  exact⟨d :: ds,by simp[aM,h1,g1],by simp[fq,g2]⟩
 | [],_ :: _,_,hl,_,_=>by simp at hl
 | _ :: _,[],_,hl,_,_=>by simp at hl

theorem BM {env:List D}:∀{l:List E} {ds:List D},aM env l=some ds→∀x,x∈l→∃d,x.eval env=some d
 | [],_,_,x,hx=>by cases hx
 | y :: r,ds,h,x,hx=>by
  simp only[aM,Option.bind_eq_some_iff,Option.map_eq_some_iff] at h
  obtain⟨d,h1,ZQ,h2,rfl⟩:=h
  rcases List.mem_cons.1 hx with rfl | hx
  ·exact⟨d,h1⟩
  ·exact BM h2 x hx

theorem Ps {env:List D}{x:E}(h:sure env.length x=true):∃d,x.eval env=some d:=by
 cases x <;> simp only[sure,decide_eq_true_eq] at h
 case sym k=>exact⟨_,List.getElem?_eq_getElem h⟩
 case const d=>exact⟨d,rfl⟩
 all_goals cases h

theorem AL {env:List D}:∀{ks:List Bool} {l:List E},(s5 env.length ks l).length=l.length→∀x,x∈fq ((s5 env.length ks l).map not) l→∃d,x.eval env=some d
 | [],[],_,x,hx=>by simp[s5,fq] at hx
 | b :: r,y :: l,hl,x,hx=>by
  simp only[s5,List.length_cons,Nat.add_right_cancel_iff,List.map_cons] at hl hx
  cases hb:(b||!sure env.length y) with
  | true=>
   rw[hb] at hx
   simp only[Bool.not_true,fq] at hx
   exact AL hl x hx
  | false=>
   rw[hb] at hx
   simp only[Bool.not_false,fq,List.mem_cons] at hx
   rcases hx with rfl | hx
   ·simp only[Bool.or_eq_false_iff,Bool.not_eq_false'] at hb
    exact Ps hb.2
   ·exact AL hl x hx
 | [],_ :: _,hl,_,_=>by simp[s5] at hl
 | _ :: _,[],_,x,hx=>by simp[s5,fq] at hx

structure vA (Γ:List (Nat×List Bool))(Q' Q:iD→Prop):Prop where
 ret:∀d,Q' (.ret d)→Q (.ret d)
 fc:∀d st sl kd,Q' (.fc d st sl kd)→Q (.fc d st sl kd)
 jump:∀l keep,Γ.lookup l=some keep→∀ds:List D,ds.length=keep.length→Q' (.jump l (fq keep ds))→Q (.jump l ds)

theorem vA.catch {Γ:List (Nat×List Bool)}{Q' Q:iD→Prop}{K' K:List D→Prop}{l:Nat}{keep:List Bool}(h:vA Γ Q' Q)(hK:∀ds:List D,ds.length=keep.length→K' (fq keep ds)→K ds):vA ((l,keep) :: Γ) (dD l K' Q') (dD l K Q):=by
 refine⟨h.ret,h.fc,fun m kp hm ds hl=>?_⟩
 simp only[List.lookup] at hm
 split at hm
 ·rename_i e
  have e:m=l:=by simpa using e
  cases hm
  subst e
  simp only[dD,if_true]
  exact hK ds hl
 ·rename_i e
  have e:m≠l:=by simpa using e
  simp only[dD,if_neg e]
  exact h.jump m kp hm ds hl

theorem vA.same {Γ:List (Nat×List Bool)}(hΓ:Γ=[]){Q:iD→Prop}:vA Γ Q Q:=by
 subst hΓ
 exact⟨fun _ h=>h,fun _ _ _ _ h=>h,fun _ _ h=>by cases h⟩

theorem Ri {l n:Nat}{body rest:U}{env:List D}{Q:iD→Prop}(h:bu P (Ua l n body rest) env Q):bu P (.join l n body rest) env Q:=by
 unfold Ua at h
 split at h
 ·rename_i c l1 as l2 bs
  split at h
  ·rename_i hc
   obtain⟨rfl,rfl,h1,h2⟩:=hc
   obtain⟨v,ds,g1,g2,g3,g4⟩:=h
   refine⟨v,g1,fun e=>?_,fun e=>?_⟩
   ·refine⟨⟨[],rfl⟩,ds,g2 e,?_⟩
    simp only[dD,if_true]
    exact⟨by rw[jD (g2 e),h1],g4⟩
   ·refine⟨⟨[],rfl⟩,ds,g3 e,?_⟩
    simp only[dD,if_true]
    exact⟨by rw[jD (g3 e),h2],g4⟩
  ·exact h
 ·exact h

end

section
variable {P:Program} {σ:List SE} {env env':List D}

theorem Hr.one (h:Hr σ env env')(hl:env.length=σ.length){d:D}{s:SE}{bP:List D}(he:env' <+: bP)(hs:Ms bP (some d) s):Hr (σ++[s]) (env++[d]) bP:=
 h.append hl (fun k s' hk=>by
  cases k with
  | zero=>simp at hk;subst hk;exact hs
  | succ k=>simp at hk) he

theorem Hr.push (h:Hr σ env env')(hl:env.length=σ.length)(d:D):Hr (σ++[.e (.sym env'.length)]) (env++[d]) (env'++[d]):=
 h.one hl (prefix_append _ _) (by simp[Ms,E.eval])

theorem Hr.pair (h:Hr σ env env')(hl:env.length=σ.length)(d e:D):Hr (σ++[.pair env'.length (env'.length+1)]) (env++[.bh [d,e]]) (env'++[d,e]):=
 h.one hl (prefix_append _ _) ⟨d,e,by simp,by simp,rfl⟩

theorem Hr.om (h:Hr σ env env')(hl:env.length=σ.length){keep:List Bool}{ds:List D}(hd:ds.length=keep.length):Hr (σ++Go.Am.om env'.length keep) (env++ds) (env'++fq keep ds):=
 h.append hl (I7 hd) (prefix_append _ _)

theorem WA {b:Bind}{Q:iD→Prop}{d:D}(h:den P (.bind b (.ret (.sym env.length))) env (fun s=>s=.ret d)){t:T}(k:den P t (env++[d]) Q):den P (.bind b t) env Q:=by
 obtain⟨d',h1,h2⟩:=Fc h
 obtain⟨d2,g1,g2⟩:=h1
 simp only[E.eval,List.getElem?_append_right (Nat.le_refl _),Nat.sub_self,List.getElem?_cons_zero,Option.some.injEq] at g1
 cases g2
 subst g1
 exact h2 _ _ k

theorem M8 (hσ:Hr σ env env'){b b':Bind}(h:uh env'.length σ b=some b'){d:D}(hd:den P (.bind b' (.ret (.sym env'.length))) env' (fun s=>s=.ret d)):den P (.bind b (.ret (.sym env.length))) env (fun s=>s=.ret d):=by
 have last:∀{e:List D} {x:D},den P (.ret (.sym e.length)) (e++[x]) (fun s=>s=.ret d)↔x=d:=by
  intro e x
  constructor
  ·rintro⟨d2,g1,g2⟩
   simp only[E.eval,List.getElem?_append_right (Nat.le_refl _),Nat.sub_self,List.getElem?_cons_zero,Option.some.injEq] at g1
   cases g2
   exact g1
  ·rintro rfl
   exact⟨x,by simp[E.eval],rfl⟩
 cases b with
 | ev x=>
  simp only[uh,Option.map_eq_some_iff] at h
  obtain⟨x',h1,rfl⟩:=h
  obtain⟨d0,g1,g2⟩:=hd
  exact⟨d0,by rw[←E.eS hσ h1];exact g1,last.2 (last.1 g2)⟩
 | call act f h' args rs=>
  simp only[uh,Option.bind_eq_some_iff,Option.map_eq_some_iff] at h
  obtain⟨act',ha,h2,hh,args',hA,rfl⟩:=h
  obtain⟨k1,k2⟩:=pN hσ ha
  obtain⟨g0,d0,g1,g2⟩:=hd
  refine⟨k1 g0,d0,fun hact=>?_,last.2 (last.1 g2)⟩
  obtain⟨st,ds,q1,q2,q3⟩:=g1 (k2.2 hact)
  exact⟨st,ds,by rw[←E.eS hσ hh];exact q1,by rw[←cZ hσ hA];exact q2,q3⟩
 | bQ act f h' args rs=>
  simp only[uh,Option.bind_eq_some_iff,Option.map_eq_some_iff] at h
  obtain⟨act',ha,h2,hh,args',hA,rfl⟩:=h
  obtain⟨k1,k2⟩:=pN hσ ha
  obtain⟨g0,st,d0,hn,g1,g2,g3,g4⟩:=hd
  refine⟨k1 g0,st,d0,hn,by rw[←E.eS hσ hh];exact g1,fun hact=>?_,fun hact=>g3 fun hh=>hact (k2.1 hh),last.2 (last.1 g4)⟩
  obtain⟨ds,q2,q3⟩:=g2 (k2.2 hact)
  exact⟨ds,by rw[←cZ hσ hA];exact q2,q3⟩
 | fu act x h' args rs=>
  simp only[uh,Option.bind_eq_some_iff,Option.map_eq_some_iff] at h
  obtain⟨act',ha,x',hx,h2,hh,args',hA,rfl⟩:=h
  obtain⟨k1,k2⟩:=pN hσ ha
  obtain⟨g0,d0,g1,g2⟩:=hd
  refine⟨k1 g0,d0,fun hact=>?_,last.2 (last.1 g2)⟩
  obtain⟨f,us,cs,st,ds,q0,q1,q2,q3,q4⟩:=g1 (k2.2 hact)
  exact⟨f,us,cs,st,ds,by rw[←E.eS hσ hx];exact q0,q1,by rw[←E.eS hσ hh];exact q2,by rw[←cZ hσ hA];exact q3,q4⟩
 | fC act x h' args rs=>
  simp only[uh,Option.bind_eq_some_iff,Option.map_eq_some_iff] at h
  obtain⟨act',ha,x',hx,h2,hh,args',hA,rfl⟩:=h
  obtain⟨k1,k2⟩:=pN hσ ha
  obtain⟨g0,st,d0,hn,g1,g2,g3,g4⟩:=hd
  refine⟨k1 g0,st,d0,hn,by rw[←E.eS hσ hh];exact g1,fun hact=>?_,fun hact=>g3 fun hh=>hact (k2.1 hh),last.2 (last.1 g4)⟩
  obtain⟨xd,ds,q1,q2,q3⟩:=g2 (k2.2 hact)
  exact⟨xd,ds,by rw[←E.eS hσ hx];exact q1,by rw[←cZ hσ hA];exact q2,q3⟩

theorem xH {α:Type}:∀{m:Nat} {l:List α},l.length=m→fq (List.replicate m true) l=l
 | 0,[],_=>rfl
 | m+1,x :: l,h=>by simp[List.replicate,fq,xH (m:=m) (l:=l) (by simpa using h)]

theorem Ts:∀(f:Nat) {σ:List SE} {Γ:List (Nat×List Bool)} {t:T} {u:U} {env env':List D} {Q' Q:iD→Prop},tr f env'.length σ Γ t=some u→env.length=σ.length→Hr σ env env'→vA Γ Q' Q→bu P u env' Q'→den P t env Q:=by
 intro f
 induction f with
 | zero=>intro σ Γ t u env env' Q' Q h;simp[tr] at h
 | succ f ih=>
  intro σ Γ t u env env' Q' Q h hl hσ hQ hu
  have sS:∀{t:T} {u:U} {d:D} {Γ:List (Nat×List Bool)} {Q' Q:iD→Prop},tr f (env'.length+1) (σ++[.e (.sym env'.length)]) Γ t=some u→vA Γ Q' Q→bu P u (env'++[d]) Q'→den P t (env++[d]) Q:=by
   intro t u d Γ Q' Q ht hq hd
   exact ih (env:=env++[d]) (env':=env'++[d]) (by simpa using ht) (by simp[hl]) (hσ.push hl d) hq hd
  have HW:∀{t:T} {u:U} {d e:D} {Γ:List (Nat×List Bool)} {Q' Q:iD→Prop},tr f (env'.length+2) (σ++[.pair env'.length (env'.length+1)]) Γ t=some u→vA Γ Q' Q→bu P u (env'++[d,e]) Q'→den P t (env++[.bh [d,e]]) Q:=by
   intro t u d e Γ Q' Q ht hq hd
   exact ih (env:=env++[.bh [d,e]]) (env':=env'++[d,e]) (by simpa using ht) (by simp[hl]) (hσ.pair hl d e) hq hd
  cases t with
  | bind b t=>
   simp only[tr] at h
   cases hc:CM σ.length b t with
   | some r=>
    obtain⟨or,g,inner,k,rest⟩:=r
    simp only[hc,Option.bind_eq_some_iff,Option.map_eq_some_iff] at h
    obtain⟨g',h1,v,h2,r',h3,rfl⟩:=h
    obtain⟨p,q,k1,k2,k3⟩:=hu
    refine Mb (by rw[hl];exact hc) (by rw[←E.eS hσ h1];exact k1) (fun e=>ih h2 hl hσ (vA.same rfl) (k2 e)) fun us hus=>?_
    rw[List.append_assoc]
    refine ih (env':=env'++[_]) (by simpa using h3) (by simp[hl,hus]) ?_ hQ k3
    refine hσ.append hl (fun k' s hs=>?_) (prefix_append _ _)
    rcases Nat.lt_or_ge k' k with hk | hk
    ·rw[List.getElem?_append_left (by simpa using hk)] at hs
     simp only[List.getElem?_replicate,hk,if_true,Option.some.injEq] at hs
     subst hs
     exact trivial
    ·rw[List.getElem?_append_right (by simpa using hk)] at hs
     rw[List.getElem?_append_right (by omega)]
     simp only[List.length_replicate] at hs
     rw[hus]
     cases hkk:k'-k with
     | zero=>
      rw[hkk] at hs
      simp only[List.getElem?_cons_zero,Option.some.injEq] at hs
      subst hs
      simp[Ms,E.eval]
     | succ m=>rw[hkk] at hs;simp at hs
   | none=>
    simp only[hc] at h
    have YC:∀{b:Bind},((uh env'.length σ b).bind fun b'=>(tr f (env'.length+1) (σ++[.e (.sym env'.length)]) Γ t).map (.gen b'))=some u→den P (.bind b t) env Q:=by
     intro b h
     simp only[Option.bind_eq_some_iff,Option.map_eq_some_iff] at h
     obtain⟨b',h1,r,h2,rfl⟩:=h
     obtain⟨d,k1,k2⟩:=hu
     exact WA (M8 hσ h1 k1) (sS h2 hQ k2)
    split at h
    ·rename_i x
     simp only[Option.bind_eq_some_iff] at h
     obtain⟨x',hx,h⟩:=h
     have ex:=E.eS hσ hx
     split at h
     ·rename_i y hch
      obtain⟨d,k1,k2⟩:=Ma hch (fun e=>by cases e)
      exact⟨d,by rw[←ex];exact k1,ih (env:=env++[d]) h (by simp[hl]) (hσ.one hl (List.prefix_refl _) k2) hQ hu⟩
     ·rename_i y hch
      simp only[Option.map_eq_some_iff] at h
      obtain⟨r,h2,rfl⟩:=h
      obtain⟨d,k1,k2⟩:=Ma hch (fun _=>hu.1)
      exact⟨d,by rw[←ex];exact k1,ih (env:=env++[d]) h2 (by simp[hl]) (hσ.one hl (List.prefix_refl _) k2) hQ hu.2⟩
     ·simp only[Option.map_eq_some_iff] at h
      obtain⟨r,h2,rfl⟩:=h
      obtain⟨d,k1,k2⟩:=hu
      exact⟨d,by rw[←ex];exact k1,sS h2 hQ k2⟩
    ·simp only[Option.bind_eq_some_iff,Option.map_eq_some_iff] at h
     obtain⟨h',hh,args',ha,r,h2,rfl⟩:=h
     obtain⟨st,ds,d,k1,k2,k3,k4,k5⟩:=hu
     exact⟨fun _ hp=>(by cases hp),d,fun _=>⟨st,ds,by rw[←E.eS hσ hh];exact k1,by rw[←cZ hσ ha];exact k2,k3,k4⟩,sS h2 hQ k5⟩
    ·simp only[Option.bind_eq_some_iff,Option.map_eq_some_iff] at h
     obtain⟨h',hh,args',ha,r,h2,rfl⟩:=h
     obtain⟨st,ds,d,hn,k1,k2,k3,k4,k5⟩:=hu
     exact⟨fun _ hp=>(by cases hp),st,d,hn,by rw[←E.eS hσ hh];exact k1,fun _=>⟨ds,by rw[←cZ hσ ha];exact k2,k3,k4⟩,fun hno=>absurd (fun _ hp=>(by cases hp)) hno,HW h2 hQ k5⟩
    ·simp only[Option.bind_eq_some_iff,Option.map_eq_some_iff] at h
     obtain⟨x',hx,h',hh,args',ha,r,h2,rfl⟩:=h
     obtain⟨fn,us,cs,st,ds,d,g1,g2,k1,k2,k3,k4,k5⟩:=hu
     exact⟨fun _ hp=>(by cases hp),d,fun _=>⟨fn,us,cs,st,ds,by rw[←E.eS hσ hx];exact g1,g2,by rw[←E.eS hσ hh];exact k1,by rw[←cZ hσ ha];exact k2,k3,k4⟩,sS h2 hQ k5⟩
    ·exact YC h
  | ite c a b=>
   simp only[tr,Option.bind_eq_some_iff,Option.map_eq_some_iff] at h
   obtain⟨c',hc,a',ha,b',hb,rfl⟩:=h
   obtain⟨v,k1,k2,k3⟩:=hu
   exact⟨v,by rw[←E.eS hσ hc];exact k1,fun e=>ih ha hl hσ hQ (k2 e),fun e=>ih hb hl hσ hQ (k3 e)⟩
  | loop l inits body=>
   simp only[tr] at h
   split at h
   ·rename_i k9
    simp only[Option.bind_eq_some_iff,Option.map_eq_some_iff] at h
    obtain⟨inits',hi,body',hb,rfl⟩:=h
    obtain⟨ds',k1,n,k2⟩:=hu
    rw[←hl] at k9 hi hb
    generalize hkeep:s5 env.length (D4 body.bits env.length inits.length) inits=keep at *
    obtain⟨ds,g1,g2⟩:=oT (env:=env) (keep:=keep) (l:=inits) k9.symm (by rw[←cZ hσ hi];exact k1) (by rw[←hkeep];exact AL (by rw[hkeep];exact k9))
    refine⟨ds,g1,n,?_⟩
    have hin:inits'.length=(fq keep inits).length:=by
     have e1:=jD k1
     have e2:=jD (show aM env (fq keep inits)=some ds' by rw[←cZ hσ hi];exact k1)
     omega
    have main:∀(n:Nat) (ds:List D) {R' R:iD→Prop},ds.length=inits.length→vA Γ R' R→rounds l (fun ds Q=>ds.length=inits'.length∧bu P body' (env'++ds) Q) R' n (fq keep ds)→rounds l (fun ds Q=>ds.length=inits.length∧den P body (env++ds) Q) R n ds:=by
     intro n
     induction n with
     | zero=>intro ds R' R _ _ h;exact h
     | succ n ihn=>
      intro ds R' R cP hR h
      obtain⟨q1,q2⟩:=h
      refine⟨cP,ih (env:=env++ds) (env':=env'++fq keep ds) (by rw[List.length_append,q1];exact hb) (by simp[hl,cP,mg,k9]) (hσ.om hl (by omega)) (hR.catch fun Xb W0 hr=>ihn Xb (by omega) hR hr) q2⟩
    exact main n ds (jD g1) hQ (by rw[g2];exact k2)
   ·cases h
  | join l m body rest=>
   simp only[tr] at h
   split at h
   ·rename_i k9
    simp only[Option.bind_eq_some_iff,Option.map_eq_some_iff] at h
    obtain⟨body',hb,rest',hr,rfl⟩:=h
    have hu:=Ri hu
    generalize D4 rest.bits σ.length m=keep at *
    show den P body env (dD l _ Q)
    refine ih hb hl hσ (hQ.catch fun ds cP hk=>?_) hu
    obtain⟨q1,q2⟩:=hk
    exact⟨by omega,ih (env:=env++ds) (env':=env'++fq keep ds) (by rw[List.length_append,q1];exact hr) (by simp[hl,cP,mg]) (hσ.om hl cP) hQ q2⟩
   ·cases h
  | jump l vals=>
   simp only[tr,Option.bind_eq_some_iff] at h
   obtain⟨keep,hlk,h⟩:=h
   split at h
   ·rename_i k9
    simp only[Option.bind_eq_some_iff,Option.map_eq_some_iff] at h
    obtain⟨YY,hv,OX,hch,rfl⟩:=h
    obtain⟨⟨cs,k0⟩,ds',k1,k2⟩:=hu
    obtain⟨ds,g1,g2⟩:=oT (env:=env) (keep:=keep) (l:=vals) k9 (by rw[←cZ hσ hv];exact k1) (fun x hx=>by
     cases hs:sure σ.length x with
     | true=>exact Ps (by rw[hl];exact hs)
     | false=>exact BM (show aM env _=some cs by rw[←cZ hσ hch];exact k0) x (by simp[hx,hs]))
    exact⟨ds,g1,hQ.jump l keep hlk ds (by rw[jD g1,k9]) (by rw[g2];exact k2)⟩
   ·cases h
  | ret x=>
   simp only[tr,Option.map_eq_some_iff] at h
   obtain⟨x',hx,rfl⟩:=h
   obtain⟨d,k1,k2⟩:=hu
   exact⟨d,by rw[←E.eS hσ hx];exact k1,hQ.ret _ k2⟩
  | fc x hE sl ks=>
   simp only[tr,Option.bind_eq_some_iff,Option.map_eq_some_iff] at h
   obtain⟨x',hx,h',hh,ks',hks,rfl⟩:=h
   obtain⟨d,st,kd,k1,k2,k3,k4⟩:=hu
   exact⟨d,st,kd,by rw[←E.eS hσ hx];exact k1,by rw[←E.eS hσ hh];exact k2,by rw[←cZ hσ hks];exact k3,hQ.fc _ _ _ _ k4⟩
  | nk x neg t=>
   simp only[tr,Option.bind_eq_some_iff,Option.map_eq_some_iff] at h
   obtain⟨x',hx,t',ht,rfl⟩:=h
   obtain⟨d,bs,k1,k2,k3⟩:=hu
   exact⟨d,bs,by rw[←E.eS hσ hx];exact k1,k2,fun b hb=>sS ht hQ (k3 b hb)⟩
  | pick x t=>
   simp only[tr,Option.bind_eq_some_iff,Option.map_eq_some_iff] at h
   obtain⟨x',hx,t',ht,rfl⟩:=h
   obtain⟨ys,k1,k2⟩:=hu
   exact⟨ys,by rw[←E.eS hσ hx];exact k1,fun d st hy=>HW ht hQ (k2 d st hy)⟩
  | Jc fn keep bT res t=>
   simp only[tr,Option.bind_eq_some_iff,Option.map_eq_some_iff] at h
   obtain⟨iA,hc,t',ht,rfl⟩:=h
   obtain⟨fk,k1,k2,k3⟩:=hu
   refine⟨fk,by rw[←cZ hσ hc];exact k1,k2,ih ht hl hσ ⟨fun d hd=>?_,fun d st sl kd hd=>?_,fun l kp _ ds _ hd=>hd.elim⟩ k3⟩
   ·unfold JD at hd ⊢
    split at hd
    ·obtain⟨gO,d',q1,q2,q3⟩:=hd;exact⟨gO,d',q1,q2,hQ.ret _ q3⟩
    ·rename_i heq;cases heq
    ·exact hd.elim
   ·unfold JD at hd ⊢
    obtain⟨q0,gO,d',q1,q2,q3⟩:=hd
    exact⟨q0,gO,d',q1,q2,hQ.ret _ q3⟩
  | kV fn hE args rs sl ks t=>
   simp only[tr,Option.bind_eq_some_iff,Option.map_eq_some_iff] at h
   obtain⟨h',hh,args',ha,ks',hks,t',ht,rfl⟩:=h
   obtain⟨st,ds,o,k1,k2,k3,k4⟩:=hu
   refine⟨st,ds,o,by rw[←E.eS hσ hh];exact k1,by rw[←cZ hσ ha];exact k2,k3,?_⟩
   cases o with
   | ret d=>exact⟨k4.1,sS ht hQ k4.2⟩
   | fc d=>obtain⟨kd,q1,q2⟩:=k4;exact⟨kd,by rw[←cZ hσ hks];exact q1,hQ.fc _ _ _ _ q2⟩
  | iH fn hE args rs sl ks t=>
   simp only[tr,Option.bind_eq_some_iff,Option.map_eq_some_iff] at h
   obtain⟨h',hh,args',ha,ks',hks,t',ht,rfl⟩:=h
   obtain⟨st,ds,o,hn,k1,k2,k3,k4⟩:=hu
   refine⟨st,ds,o,hn,by rw[←E.eS hσ hh];exact k1,by rw[←cZ hσ ha];exact k2,k3,?_⟩
   cases o with
   | ret d=>exact⟨k4.1,HW ht hQ k4.2⟩
   | fc d=>obtain⟨kd,q1,q2⟩:=k4;exact⟨kd,by rw[←cZ hσ hks];exact q1,hQ.fc _ _ _ _ q2⟩
  | gu x hE args rs sl ks t=>
   simp only[tr,Option.bind_eq_some_iff,Option.map_eq_some_iff] at h
   obtain⟨x',hx,h',hh,args',ha,ks',hks,t',ht,rfl⟩:=h
   obtain⟨fn,us,cs,st,ds,o,hn,g1,g2,k1,k2,k3,k4⟩:=hu
   refine⟨fn,us,cs,st,ds,o,hn,by rw[←E.eS hσ hx];exact g1,g2,by rw[←E.eS hσ hh];exact k1,by rw[←cZ hσ ha];exact k2,k3,?_⟩
   cases o with
   | ret d=>exact⟨k4.1,HW ht hQ k4.2⟩
   | fc d=>obtain⟨kd,q1,q2⟩:=k4;exact⟨kd,by rw[←cZ hσ hks];exact q1,hQ.fc _ _ _ _ q2⟩
  | Qsz x hE sl bT m l body rest=>
   simp only[tr,Option.bind_eq_some_iff,Option.map_eq_some_iff] at h
   obtain⟨x',hx,h',hh,iA,hc,body',hb,rest',hr,rfl⟩:=h
   obtain⟨fn,us,cs,st,fk,d,gO,g1,g2,k1,k2,k3,k4,k5,k6⟩:=hu
   refine⟨fn,us,cs,st,fk,d,gO,by rw[←E.eS hσ hx];exact g1,g2,by rw[←E.eS hσ hh];exact k1,by rw[←cZ hσ hc];exact k2,k3,k4,fun mm rec hY=>?_,sS hr hQ k6⟩
   refine k5 mm rec fun Qjv ds Qhx n1 n2 n3 fQ=>hY Qjv ds Qhx n1 n2 n3 ?_
   have e:(Qjv :: ds).length=(List.replicate (m+1) true).length:=by simp[n3]
   have hs:=hσ.om hl e
   rw[xH (by simp[n3])] at hs
   rw[List.append_assoc] at fQ ⊢
   refine ih (env:=env++([Qjv]++ds)) (env':=env'++([Qjv]++ds)) (by simpa[n3,Nat.add_comm,Nat.add_left_comm] using hb) (by simp[hl,n3,mg]) hs ⟨fun d hd=>(by cases hd),fun _ _ _ _ hd=>(by cases hd),fun l' kp hlk ds' cP hd=>?_⟩ fQ
   simp only[List.lookup] at hlk
   split at hlk
   ·rename_i e'
    have e':l'=l:=by simpa using e'
    cases hlk
    match ds',cP with
    | [y],_=>
     simp only[fq] at hd
     rw[hd]
   ·cases hlk
  | lz x hE sl bT m l q body rest tR=>
   simp only[tr,Option.bind_eq_some_iff,Option.map_eq_some_iff] at h
   obtain⟨x',hx,h',hh,iA,hc,body',hb,rest',hr,aos,hqt,rfl⟩:=h
   obtain⟨fn,us,cs,bs,fk,d,bs',stop,g1,g2,k1,k2,k3,k4,k5,k6⟩:=hu
   refine⟨fn,us,cs,bs,fk,d,bs',stop,by rw[←E.eS hσ hx];exact g1,g2,by rw[←E.eS hσ hh];exact k1,by rw[←cZ hσ hc];exact k2,k3,fun rec hY=>k4 rec fun ia ds b lg n1 n2 n3 fQ=>hY ia ds b lg n1 n2 n3 ?_,fun e=>sS hr hQ (k5 e),fun e=>sS hqt hQ (k6 e)⟩
   have e:(D.st (ia.set bs.length (.bh [])) :: ds).length=(List.replicate (m+1) true).length:=by simp[n2]
   have hs:=hσ.om hl e
   rw[xH (by simp[n2])] at hs
   rw[List.append_assoc] at fQ ⊢
   refine ih (env:=env++([D.st (ia.set bs.length (.bh []))]++ds)) (env':=env'++([D.st (ia.set bs.length (.bh []))]++ds)) (by simpa[n2,Nat.add_comm,Nat.add_left_comm] using hb) (by simp[hl,n2,mg]) hs ⟨fun d hd=>hd,fun _ _ _ _ hd=>hd,fun l' kp hlk ds' cP hd=>?_⟩ fQ
   have hkp:kp=[true]:=by
    simp only[List.lookup] at hlk
    split at hlk
    ·cases hlk;rfl
    ·split at hlk
     ·cases hlk;rfl
     ·cases hlk
   subst hkp
   match ds',cP with
   | [y],_=>exact hd


def sI (n:Nat)(t:T):Option U:=tr 100000 n ((List.range n).map fun k=>.e (.sym k)) [] t

theorem pM {t:T}{u:U}{Q:iD→Prop}(h:sI env.length t=some u)(hu:bu P u env Q):den P t env Q:=
 Ts 100000 h (by simp) (fun k s hk=>by
  simp only[List.getElem?_map,Option.map_eq_some_iff] at hk
  obtain⟨j,h1,rfl⟩:=hk
  have:j=k:=by
   rw[List.getElem?_range (by
    have:=(List.getElem?_eq_some_iff.1 h1).1
    simpa using this)] at h1
   exact(Option.some.inj h1).symm
  subst this
  rfl) (vA.same rfl) hu

end
end

section
def cm (P:Program)(f:FuncId)(kn:Kn)(cf:cz)(bX:List Bool)(u:U):Prop:=
 ∃fn,P.funcs[f]? = some fn∧bR P fn=bX∧(match kn with
  | .plain=>(kO P cf fn).bind (sI (bX.length+1))
  | .defers keep=>(kP P cf fn keep).bind (sI (bX.length+1))
  | .mz=>(r_ P cf fn).bind (sI (bX.length+2)))=some u

section
variable {P:Program} {f:FuncId} {kn:Kn} {cf:cz} {bX:List Bool} {u:U} {ds bs bs':List D} {d:D} {o:Out}

theorem cm.plain {fn:Func}(hf:P.funcs[f]? = some fn)(h1:bR P fn=bX)(h2:(kO P cf fn).bind (sI (bX.length+1))=some u):cm P f .plain cf bX u:=⟨fn,hf,h1,h2⟩
theorem cm.defers {fn:Func}{keep:List Nat}(hf:P.funcs[f]? = some fn)(h1:bR P fn=bX)(h2:(kP P cf fn keep).bind (sI (bX.length+1))=some u):cm P f (.defers keep) cf bX u:=⟨fn,hf,h1,h2⟩
theorem cm.mz {fn:Func}(hf:P.funcs[f]? = some fn)(h1:bR P fn=bX)(h2:(r_ P cf fn).bind (sI (bX.length+2))=some u):cm P f .mz cf bX u:=⟨fn,hf,h1,h2⟩

theorem cm.adW (h:cm P f .plain cf bX u)(hro:cf.ro=true)(hfit:dZ bX ds=true)(fQ:bu P u (ds++[.st bs]) (tG o (.st bs))):k8 P f (.st bs) ds o:=by
 obtain⟨fn,hf,rfl,hc⟩:=h
 obtain⟨t,h1,h2⟩:=Option.bind_eq_some_iff.1 hc
 obtain⟨hl,_⟩:=gG hfit
 exact Oq hro hf h1 hfit (pM (by simpa[←hl] using h2) fQ)

theorem cm.Z6 (h:cm P f .plain cf bX u)(hfit:dZ bX ds=true)(fQ:bu P u (ds++[.st bs]) (tG o (.st bs'))):eN P f (.st bs) ds o (.st bs'):=by
 obtain⟨fn,hf,rfl,hc⟩:=h
 obtain⟨t,h1,h2⟩:=Option.bind_eq_some_iff.1 hc
 obtain⟨hl,_⟩:=gG hfit
 exact CI hf h1 hfit (pM (by simpa[←hl] using h2) fQ)

theorem cm.recoverD {m:Option D}{d0:D}(h:cm P f .mz cf bX u)(hfit:dZ bX ds=true)(hm:(xa m).one=true)(fQ:bu P u (ds++[.st bs,xa m]) (fun s=>s=.ret (.bh [d0,.st bs']))):A9 P f (.st bs) ds m (.st bs'):=by
 obtain⟨fn,hf,rfl,hc⟩:=h
 obtain⟨t,h1,h2⟩:=Option.bind_eq_some_iff.1 hc
 obtain⟨hl,_⟩:=gG hfit
 exact VR hf h1 hfit hm (pM (by simpa[←hl] using h2) fQ)

theorem cm.R (h:cm P f .plain cf bX u)(hro:cf.ro=true)(hfit:dZ bX ds=true)(fQ:bu P u (ds++[.st bs]) (fun s=>s=.ret (.bh [d,.st bs]))):aP P f (.st bs) ds d:=h.adW hro hfit fQ

theorem cm.W (h:cm P f .plain cf bX u)(hfit:dZ bX ds=true)(fQ:bu P u (ds++[.st bs]) (fun s=>s=.ret (.bh [d,.st bs']))):bk P f (.st bs) ds d (.st bs'):=h.Z6 hfit fQ
end

/-! ## to write texts with -/

def aI:List (U→U)→U→U
 | [],u=>u
 | f :: r,u=>f (aI r u)

theorem aG (u:U):aI [] u=u:=rfl
theorem aC (f:U→U)(r:List (U→U))(u:U):aI (f :: r) u=f (aI r u):=rfl

abbrev ki (n:Int):E:=.const (.v (.int .i64 n))
abbrev kb (b:Bool):E:=.const (.v (.bool b))

def QF (x:E):Nat→Nat→E
 | _,0=>.nil
 | k,n+1=>.cons (.cell k x) (QF x (k+1) n)

def fN (n:Nat)(x:E):E:=QF x 0 n
end

section
/-! ## short names,for Qiw blocks of steps -/

theorem sbc {α:Type}{a:α}{as bs:List α}:a :: as++bs=a :: (as++bs):=rfl
theorem sbn {α:Type}{as:List α}:[]++as=as:=rfl
theorem sb0:(!true)=false:=rfl
theorem sb1:(!false)=true:=rfl
theorem sb2 {p:Prop}[Decidable p]:(decide p=true)=p:=decide_eq_true_eq
theorem sb3 {p:Prop}[Decidable p]:(decide p=false)↔¬p:=decide_eq_false_iff_not
theorem sb4 (a b:Bool):((a&&b)=true)=(a=true∧b=true):=Bool.and_eq_true a b
theorem sb5 (a b:Bool):((a||b)=true)=(a=true∨b=true):=Bool.or_eq_true a b
theorem sb6 {a b:Bool}:(a||b)=false↔a=false∧b=false:=Bool.or_eq_false_iff
theorem sb7 {a:Bool}:(!a)=true↔a=false:=by cases a <;> simp
theorem sb8 {a:Bool}:(!a)=false↔a=true:=by cases a <;> simp
theorem sb9 {a b:Int}:¬a<b↔b≤a:=Int.not_lt
theorem ajf {a b:Int}:¬a≤b↔b<a:=Int.not_le
theorem adR {α:Type}[BEq α][LawfulBEq α]{a b:α}:(a==b)=true↔a=b:=beq_iff_eq
theorem adQ {α:Type}[BEq α][LawfulBEq α]{a b:α}:(a != b)=true↔a≠b:=bne_iff_ne
theorem adP {α:Type}[BEq α][LawfulBEq α]{a b:α}:(a==b)=false↔a≠b:=beq_eq_false_iff_ne
theorem adO {α:Type}[BEq α][LawfulBEq α]{a b:α}:(a != b)=false↔a=b:=bne_eq_false_iff_eq
theorem aje {a b:Bool}:(a&&b)=false↔a=false∨b=false:=Bool.and_eq_false_iff
theorem ajd {p:Prop}[Decidable p]:¬¬p↔p:=Decidable.not_not
theorem ajc (c f:Bool):(bif c then true else f)=(c||f):=Bool.cond_true_left c f
theorem ajb (c t:Bool):(bif c then t else false)=(c&&t):=Bool.cond_false_right c t

theorem bA:(((!true)=false)∧((!false)=true)∧(∀(p:Prop) [Decidable p],(decide p=true)=p)∧(∀(p:Prop) [Decidable p],(decide p=false)↔¬p)∧(∀a b:Bool,((a&&b)=true)=(a=true∧b=true))∧(∀a b:Bool,((a||b)=true)=(a=true∨b=true))∧(∀a b:Bool,(a||b)=false↔a=false∧b=false)∧(∀a:Bool,(!a)=true↔a=false)∧(∀a:Bool,(!a)=false↔a=true)∧(∀a b:Int,¬a<b↔b≤a)∧(∀a b:Int,¬a≤b↔b<a))∧((∀a b:Int,(a==b)=true↔a=b)∧(∀a b:Int,(a != b)=true↔a≠b)∧(∀a b:Int,(a==b)=false↔a≠b)∧(∀a b:Int,(a != b)=false↔a=b)∧(∀a b:Bool,(a==b)=true↔a=b)∧(∀a b:Bool,(a != b)=true↔a≠b)∧(∀a b:Bool,(a==b)=false↔a≠b)∧(∀a b:Bool,(a != b)=false↔a=b)∧(∀a b:Bool,(a&&b)=false↔a=false∨b=false)∧(∀(p:Prop) [Decidable p],¬¬p↔p)∧(∀c f:Bool,(bif c then true else f)=(c||f))∧(∀c t:Bool,(bif c then t else false)=(c&&t))∧(∀a b:Int,(a≠b)=¬(a=b))∧(∀a b:Bool,(a≠b)=¬(a=b))∧((false=true)=False)∧((true=false)=False)∧(∀p:Prop,(False∨p)=p)∧(∀p:Prop,(p∨False)=p)∧(∀p:Prop,(True∧p)=p)∧(∀p:Prop,(p∧True)=p)):=
 ⟨⟨rfl,rfl,fun _ _=>sb2,fun _ _=>sb3,sb4,sb5,fun _ _=>sb6,fun _=>sb7,fun _=>sb8,fun _ _=>sb9,fun _ _=>ajf⟩,fun _ _=>adR,fun _ _=>adQ,fun _ _=>adP,fun _ _=>adO,fun _ _=>adR,fun _ _=>adQ,fun _ _=>adP,fun _ _=>adO,fun _ _=>aje,fun _ _=>ajd,ajc,ajb,fun _ _=>rfl,fun _ _=>rfl,by simp,by simp,false_or,or_false,true_and,and_true⟩

theorem ai:(∀{α:Type} (a:α) (as bs:List α),a :: as++bs=a :: (as++bs))∧(∀{α:Type} (as:List α),[]++as=as):=⟨fun _ _ _=>rfl,fun _=>rfl⟩

/-! ## steps -/

def wv (P:Program)(u:U)(env:List D)(Q:iD→Prop):Prop:=bu P u env Q

def KJ (P:Program)(n:Nat)(rest:U)(env:List D)(Q:iD→Prop)(ds:List D):Prop:=ds.length=n∧bu P rest (env++ds) Q

def jc (p:Bool)(a b:D):D:=
 match a,b with
 | .v (.bool x),.v (.bool y)=>.v (.bool (bif p then x else y))
 | .v (.int .i64 x),.v (.int .i64 y)=>.v (.int .i64 (if p=true then x else y))
 | a,b=>bif p then a else b

theorem Gj (a b:D):jc true a b=a:=by
 unfold jc;split <;> rfl
theorem De (a b:D):jc false a b=b:=by
 unfold jc;split <;> simp

section
variable {P:Program} {u v a b rest body:U} {env bP:List D} {Q:iD→Prop} {x y z g h:E} {d st h':D} {ds:List D} {args:List E} {rs:List Bool} {f:FuncId} {p q:Bool} {l n:Nat}

theorem bp (he:env=bP)(k:bu P u bP Q):wv P u env Q:=by subst he;exact k
theorem kj (hl:ds.length=n)(k:wv P rest (env++ds) Q):KJ P n rest env Q ds:=⟨hl,k⟩

theorem aD (hx:x.eval env=some d)(he:env++[d]=bP)(k:bu P u bP Q):bu P (.ev x u) env Q:=by subst he;exact⟨d,hx,k⟩
theorem jH {dy dz:D}(hg:g.eval env=some (.v (.bool p)))(hy:y.eval env=some dy)(hz:z.eval env=some dz)(he:env++[jc p dy dz]=bP)(k:bu P u bP Q):bu P (.ev (.ite g y z) u) env Q:=by
 subst he
 exact⟨_,by cases p <;> simp only[E.eval,hg,hy,hz,Gj,De],k⟩
theorem aN (hx:x.eval env=some d)(k:bu P u env Q):bu P (.aY x u) env Q:=⟨⟨d,hx⟩,k⟩
theorem aF (hs:h.eval env=some st)(ha:aM env args=some ds)(hf:aP P f st ds d)(hr:d.fits rs=true)(he:env++[d]=bP)(k:bu P u bP Q):bu P (.call f h args rs u) env Q:=by subst he;exact⟨st,ds,d,hs,ha,hf,hr,k⟩
theorem eZ (hs:h.eval env=some st)(ha:aM env args=some ds)(hf:bk P f st ds d h')(hr:d.fits rs=true)(he:env++[d,h']=bP)(k:bu P u bP Q):bu P (.bQ f h args rs u) env Q:=by subst he;exact⟨st,ds,d,h',hs,ha,hf,hr,k⟩
theorem fJ {us cs:List D}(hx:x.eval env=some (.fn f us cs))(hc:bJ P f=true)(hs:h.eval env=some st)(ha:aM env args=some ds)(hf:aP P f st (us++ds++cs) d)(hr:d.fits rs=true)(he:env++[d]=bP)(k:bu P u bP Q):bu P (.fu x h args rs u) env Q:=by subst he;exact⟨f,us,cs,st,ds,d,hx,hc,hs,ha,hf,hr,k⟩

theorem bL (hg:g.eval env=some (.v (.bool p)))(h1:p=false→bu P v env (fun s=>s=.ret (.v (.bool q))))(k:wv P u (env++[.v (.bool (p||q))]) Q):bu P (.chain true g v u) env Q:=⟨p,q,hg,h1,k⟩
theorem bg (hg:g.eval env=some (.v (.bool p)))(h1:p=true→bu P v env (fun s=>s=.ret (.v (.bool q))))(k:wv P u (env++[.v (.bool (p&&q))]) Q):bu P (.chain false g v u) env Q:=⟨p,q,hg,h1,k⟩
theorem aX {c:Bool}(hg:g.eval env=some (.v (.bool c)))(k1:c=true→bu P a env Q)(k2:c=false→bu P b env Q):bu P (.ite g a b) env Q:=⟨c,hg,k1,k2⟩
theorem aH {c:Bool}(hg:g.eval env=some (.v (.bool c)))(hc:c=true)(k:bu P a env Q):bu P (.ite g a b) env Q:=⟨c,hg,fun _=>k,fun e=>(by rw[hc] at e;cases e)⟩
theorem aK {c:Bool}(hg:g.eval env=some (.v (.bool c)))(hc:c=false)(k:bu P b env Q):bu P (.ite g a b) env Q:=⟨c,hg,fun e=>(by rw[hc] at e;cases e),fun _=>k⟩
theorem au (k:bu P body env (dD l (KJ P n rest env Q) Q)):bu P (.join l n body rest) env Q:=k

theorem av {vals OX:List E}{cs:List D}(hc:aM env OX=some cs)(hv:aM env vals=some ds)(k:Q (.jump l ds)):bu P (.jump l vals OX) env Q:=⟨⟨cs,hc⟩,ds,hv,k⟩
theorem aq (hx:x.eval env=some d)(k:Q (.ret d)):bu P (.ret x) env Q:=⟨d,hx,k⟩
theorem ant {sl:List Nat}{ks:List E}(hx:x.eval env=some d)(hh:h.eval env=some st)(hk:aM env ks=some ds)(k:Q (.fc d st sl ds)):bu P (.fc x h sl ks) env Q:=⟨d,st,ds,hx,hh,hk,k⟩

theorem aiD {neg:Bool}{es:List D}(hx:x.eval env=some (.bq es))(k:∀b,(b=true→es=[])→wv P u (env++[.v (.bool (b != neg))]) Q):bu P (.nk x neg u) env Q:=by
 cases es with
 | nil=>exact⟨_,_,hx,rfl,fun b _=>k b fun _=>rfl⟩
 | cons e es=>exact⟨_,_,hx,rfl,fun b hb=>k b fun h=>(by rw[h] at hb;simp at hb)⟩

theorem qM {inits:List E}(I:Nat→List D→Prop)(hi:aM env inits=some ds)(k:Nat)(h0:I k ds)(hb:∀k ds,I k ds→ds.length=inits.length∧∀R:List D→Prop,(∀k' ds',k'<k→I k' ds'→R ds')→wv P body (env++ds) (dD l R Q)):bu P (.loop l inits body) env Q:=
 ⟨ds,hi,k+1,Dp (fun _ _ _ hR h=>⟨h.1,cU hR h.2⟩) I (fun k ds h R hR=>⟨(hb k ds h).1,(hb k ds h).2 R hR⟩) k ds h0⟩

theorem bf {inits:List E} (f:Nat→List D) (J:Nat→Prop) (n:Nat) (h0:aM env inits=some (f 0)) (hl:∀i,(f i).length=inits.length) (j0:J 0)
  (hb:∀i,i<n→J i→∀R:List D→Prop,(J (i+1)→R (f (i+1)))→wv P body (env++f i) (dD l R Q))
  (he:J n→∀R:List D→Prop,wv P body (env++f n) (dD l R Q)):bu P (.loop l inits body) env Q:=by
 refine qM (fun k ds=>∃i,i≤n∧k=n-i∧ds=f i∧J i) h0 n ⟨0,Nat.zero_le _,rfl,rfl,j0⟩ ?_
 rintro k _ ⟨i,hi,rfl,rfl,hJ⟩
 refine⟨hl i,fun R hR=>?_⟩
 rcases Nat.lt_or_ge i n with h | h
 ·exact hb i h hJ R fun hJ'=>hR (n-(i+1)) _ (by omega) ⟨i+1,h,rfl,rfl,hJ'⟩
 ·have e:i=n:=by omega
  subst e
  exact he hJ R

/-! ### numbers -/

theorem VZ {env:List D}{y z:E}{m k:Int}(hy:y.eval env=some (.v (.int .i64 m)))(hz:z.eval env=some (.v (.int .i64 k)))(hb:-9223372036854775808≤m+k∧m+k<9223372036854775808):(E.bin .add .int y z).eval env=some (.v (.int .i64 (m+k))):=by
 simp only[E.eval,hy,hz,Option.bind_some,D.bin,mq,O7,wrap64 hb,if_true,Option.map_some]
 first | done | rfl
theorem VY {env:List D}{y z:E}{m k:Int}(hy:y.eval env=some (.v (.int .i64 m)))(hz:z.eval env=some (.v (.int .i64 k)))(hb:-9223372036854775808≤m-k∧m-k<9223372036854775808):(E.bin .sub .int y z).eval env=some (.v (.int .i64 (m-k))):=by
 simp only[E.eval,hy,hz,Option.bind_some,D.bin,mq,O7,wrap64 hb,if_true,Option.map_some]
 first | done | rfl
theorem abX {env:List D}{y z:E}{m k:Int}(hy:y.eval env=some (.v (.int .i64 m)))(hz:z.eval env=some (.v (.int .i64 k)))(hb:-9223372036854775808≤m*k∧m*k<9223372036854775808):(E.bin .mul .int y z).eval env=some (.v (.int .i64 (m*k))):=by
 simp only[E.eval,hy,hz,Option.bind_some,D.bin,mq,O7,wrap64 hb,if_true,Option.map_some]
 first | done | rfl
theorem abY {env:List D}{y:E}{i:Nat}(hy:y.eval env=some (.v (.int .i64 i)))(hb:i<4611686018427387904):(E.bin .add .int y (.const (.v (.int .i64 1)))).eval env=some (.v (.int .i64 (i+1:Nat))):=
 VZ (k:=1) hy (by rfl) (by omega)
theorem abZ {env:List D}{y:E}{i:Nat}(hy:y.eval env=some (.v (.int .i64 (i+1:Nat))))(hb:i<4611686018427387904):(E.bin .sub .int y (.const (.v (.int .i64 1)))).eval env=some (.v (.int .i64 i)):=by
 have:=VY (z:=.const (.v (.int .i64 1))) (k:=1) hy (by rfl) (by omega)
 rw[this]
 congr 3
 omega

theorem YI {env:List D}{y:E}{i:Nat}(hy:y.eval env=some (.v (.int .i64 i)))(hb:1≤i∧i<4611686018427387904):(E.bin .sub .int y (.const (.v (.int .i64 1)))).eval env=some (.v (.int .i64 (i-1:Nat))):=by
 obtain⟨k,rfl⟩:∃k,i=k+1:=⟨i-1,by omega⟩
 exact abZ hy (by omega)

/-! ### ends -/
theorem bG {d d' st:D}(h:d=d'):iD.ret (.bh [d,st])=iD.ret (.bh [d',st]):=by rw[h]
theorem bH {x y:Bool}{st:D}(h:x=y):iD.ret (.bh [.v (.bool x),st])=iD.ret (.bh [.v (.bool y),st]):=by rw[h]
theorem bF {k:IntKind}{x y:Int}{st:D}(h:x=y):iD.ret (.bh [.v (.int k x),st])=iD.ret (.bh [.v (.int k y),st]):=by rw[h]
end

/-! ## lists as data -/
section
variable {α:Type} {enc:α→D} {xs:List α} {i:Nat} {a:α}

theorem ak:D.aR (.bq (xs.map enc))=some (.v (.int .i64 xs.length)):=by simp[D.aR]

end
end

section
def o5 {α:Type}(bs:List D)(e:TypeId)(sz:Nat)(enc:α→List D)(s:D)(xs:List α):Prop:=
 (xs=[]∧s=.cq)∨∃i,s=.sl i 0 xs.length∧bs[i]? = some (.aE e sz (xs.flatMap enc))

def D.SX:D→Option Nat
 | .sl i _ _=>some i
 | _=>none

section
variable {α:Type} {bs bs':List D} {e:TypeId} {sz:Nat} {enc:α→List D} {s:D} {xs:List α}

theorem o5.len (h:o5 bs e sz enc s xs):D.aR s=some (.v (.int .i64 xs.length)):=by
 rcases h with⟨rfl,rfl⟩ | ⟨i,rfl,_⟩ <;> rfl

theorem o5.get (h:o5 bs e sz enc s xs){i:Nat}(hi:i<xs.length):∃b,s=.sl b 0 xs.length∧bs[b]? = some (.aE e sz (xs.flatMap enc)):=by
 rcases h with⟨rfl,_⟩ | h
 ·simp at hi
 ·exact h

theorem o5.keep (h:o5 bs e sz enc s xs)(hk:∀i,s.SX=some i→bs'[i]? = bs[i]?):o5 bs' e sz enc s xs:=by
 rcases h with h | ⟨i,rfl,h⟩
 ·exact .inl h
 ·exact .inr ⟨i,rfl,by rw[hk i rfl];exact h⟩

theorem o5.lt (h:o5 bs e sz enc s xs){i:Nat}(hi:s.SX=some i):i<bs.length:=by
 rcases h with⟨_,rfl⟩ | ⟨j,rfl,h⟩
 ·cases hi
 ·cases hi
  exact(List.getElem?_eq_some_iff.1 h).1

theorem o5.aE (h:o5 bs e sz enc s xs){i:Nat}(hi:s.SX=some i):bs[i]? = some (.aE e sz (xs.flatMap enc)):=by
 rcases h with⟨_,rfl⟩ | ⟨j,rfl,h⟩
 ·cases hi
 ·cases hi
  exact h

theorem o5.nil:o5 bs e sz enc .cq ([]:List α):=.inl ⟨rfl,rfl⟩

theorem vV (hsz:∀x,(enc x).length=sz):∀{xs:List α} {i:Nat} {x:α},xs[i]? = some x→∃r,(xs.flatMap enc).drop (i*sz)=enc x++r
 | [],i,x,h=>by simp at h
 | y :: ys,0,x,h=>by
  simp at h
  subst h
  exact⟨ys.flatMap enc,by simp⟩
 | y :: ys,i+1,x,h=>by
  obtain⟨r,hr⟩:=vV hsz (xs:=ys) (i:=i) (x:=x) (by simpa using h)
  refine⟨r,?_⟩
  rw[List.flatMap_cons,List.drop_append,hsz y,show(i+1)*sz=sz+i*sz from by rw[Nat.add_mul];omega]
  rw[List.drop_eq_nil_of_le (by rw[hsz y];omega),Nat.add_sub_cancel_left,hr]
  rfl

theorem h_ (hsz:∀x,(enc x).length=sz):∀{xs:List α},(xs.flatMap enc).length=xs.length*sz
 | []=>by simp
 | y :: ys=>by rw[List.flatMap_cons,List.length_append,h_ hsz,hsz y,List.length_cons,Nat.add_mul];omega

theorem eH {b n i:Nat}(hi:i<n):D.aj sz (.sl b 0 n) (.v (.int .i64 i))=some (.loc b (i*sz)):=by
 simp[D.aj,hi]

theorem aow {b i:Nat}{x:α}(hb:bs[b]? = some (.aE e sz (xs.flatMap enc)))(hsz:∀x,(enc x).length=sz)(hx:xs[i]? = some x):D.ld true sz (.st bs) (.loc b (i*sz))=some (.agg (enc x)):=by
 obtain⟨r,hr⟩:=vV hsz hx
 have hl:=h_ hsz (xs:=xs)
 have hi:=(List.getElem?_eq_some_iff.1 hx).1
 have h1:i*sz+sz≤(xs.flatMap enc).length:=by
  rw[hl,←Nat.succ_mul];exact Nat.mul_le_mul_right _ hi
 simp only[D.ld,D.Qly,D.gF,hb,Option.bind_some,if_true,h1,hr,List.take_append,hsz x,Nat.sub_self,List.take_zero,List.append_nil]
 rw[List.take_of_length_le (by rw[hsz x];omega)]

theorem gX {j k:Nat}{cs:List D}{d:D}(hj:bs[j]? = some (.aE e sz cs))(hk:cs[k]? = some d):D.ld false 1 (.st bs) (.loc j k)=some d:=by
 simp only[D.ld,D.Qly,D.gF,hj,Option.bind_some,Bool.false_eq_true,if_false,hk]

theorem XZ {j k n:Nat}{cs:List D}(hj:bs[j]? = some (.aE e sz cs))(hk:k+n≤cs.length):D.ld true n (.st bs) (.loc j k)=some (.agg ((cs.drop k).take n)):=by
 simp only[D.ld,D.Qly,D.gF,hj,Option.bind_some,if_true,hk]

end

section
variable {P:Program} {u:U} {Q:iD→Prop} {env bP:List D} {x y z:E} {d dx dy dz:D}
theorem jI {g:Bool}{n:Nat}(hx:x.eval env=some dx)(hy:y.eval env=some dy)(h:D.ld g n dx dy=some d)(he:env++[d]=bP)(kk:bu P u bP Q):bu P (.ev (.ld g n x y) u) env Q:=by
 subst he
 exact⟨d,by simp only[E.eval,hx,hy,Option.bind_some,h],kk⟩
theorem aA {n:Nat}(hx:x.eval env=some dx)(hy:y.eval env=some dy)(h:D.aj n dx dy=some d)(he:env++[d]=bP)(kk:bu P u bP Q):bu P (.ev (.aj n x y) u) env Q:=by
 subst he
 exact⟨d,by simp only[E.eval,hx,hy,Option.bind_some,h],kk⟩
theorem Qex  (hx:x.eval env=some dx)(h:D.aR dx=some d)(he:env++[d]=bP)(kk:bu P u bP Q):bu P (.ev (.aR x) u) env Q:=by
 subst he
 exact⟨d,by simp only[E.eval,hx,Option.bind_some,h],kk⟩
theorem Bd  (hx:x.eval env=some dx)(hy:y.eval env=some dy)(h:D.idx dx dy=some d)(he:env++[d]=bP)(kk:bu P u bP Q):bu P (.ev (.idx x y) u) env Q:=by
 subst he
 exact⟨d,by simp only[E.eval,hx,hy,Option.bind_some,h],kk⟩
theorem aiH {n:Nat}(hx:x.eval env=some dx)(hy:y.eval env=some dy)(h:D.uS n dx dy=some d)(he:env++[d]=bP)(kk:bu P u bP Q):bu P (.ev (.uS n x y) u) env Q:=by
 subst he
 exact⟨d,by simp only[E.eval,hx,hy,Option.bind_some,h],kk⟩
theorem mV {n m:Nat}(hx:x.eval env=some dx)(hy:y.eval env=some dy)(h:D.app n m dx dy=some d)(he:env++[d]=bP)(kk:bu P u bP Q):bu P (.ev (.app n m x y) u) env Q:=by
 subst he
 exact⟨d,by simp only[E.eval,hx,hy,Option.bind_some,h],kk⟩
theorem sC {n:Nat}(hx:x.eval env=some dx)(hy:y.eval env=some dy)(hz:z.eval env=some dz)(h:D.sub n dx dy dz=some d)(he:env++[d]=bP)(kk:bu P u bP Q):bu P (.ev (.sub n x y z) u) env Q:=by
 subst he
 exact⟨d,by simp only[E.eval,hx,hy,hz,Option.bind_some,h],kk⟩
theorem Ba {k:Nat}(hx:x.eval env=some dx)(hy:y.eval env=some dy)(hz:z.eval env=some dz)(h:D.set dx dy k dz=some d)(he:env++[d]=bP)(kk:bu P u bP Q):bu P (.ev (.set x y k z) u) env Q:=by
 subst he
 exact⟨d,by simp only[E.eval,hx,hy,hz,Option.bind_some,h],kk⟩
theorem kT {n:Nat}(hx:x.eval env=some dx)(hy:y.eval env=some dy)(hz:z.eval env=some dz)(h:D.gQ n dx dy dz=some d)(he:env++[d]=bP)(kk:bu P u bP Q):bu P (.ev (.gQ n x y z) u) env Q:=by
 subst he
 exact⟨d,by simp only[E.eval,hx,hy,hz,Option.bind_some,h],kk⟩
theorem qN {e n m:Nat}(hx:x.eval env=some dx)(hy:y.eval env=some dy)(hz:z.eval env=some dz)(h:D.fU e n m dx dy dz=some d)(he:env++[d]=bP)(kk:bu P u bP Q):bu P (.ev (.fU e n m x y z) u) env Q:=by
 subst he
 exact⟨d,by simp only[E.eval,hx,hy,hz,Option.bind_some,h],kk⟩
theorem aiO  (hx:x.eval env=some dx)(hy:y.eval env=some dy)(hz:z.eval env=some dz)(h:D.apps dx dy dz=some d)(he:env++[d]=bP)(kk:bu P u bP Q):bu P (.ev (.apps x y z) u) env Q:=by
 subst he
 exact⟨d,by simp only[E.eval,hx,hy,hz,Option.bind_some,h],kk⟩
theorem F9 {n:Nat}{d0:D}(hx:x.eval env=some dx)(h:D.rep n dx d0=some d)(he:env++[d]=bP)(kk:bu P u bP Q):bu P (.ev (.rep n x d0) u) env Q:=by
 subst he
 exact⟨d,by simp only[E.eval,hx,Option.bind_some,h],kk⟩
theorem aiF {e n:Nat}(hx:x.eval env=some dx)(hy:y.eval env=some dy)(h:D.cI e n dx dy=some d)(he:env++[d]=bP)(kk:bu P u bP Q):bu P (.ev (.cI e n x y) u) env Q:=by
 subst he
 exact⟨d,by simp only[E.eval,hx,hy,Option.bind_some,h],kk⟩
theorem eX {o:BinOp}{k:Kd}(hx:x.eval env=some dx)(hy:y.eval env=some dy)(h:D.bin o k dx dy=some d)(he:env++[d]=bP)(kk:bu P u bP Q):bu P (.ev (.bin o k x y) u) env Q:=by
 subst he
 exact⟨d,by simp only[E.eval,hx,hy,Option.bind_some,h],kk⟩
theorem aiM {g:Bool}(hx:x.eval env=some dx)(hy:y.eval env=some dy)(h:D.ve g dx dy=some d)(he:env++[d]=bP)(kk:bu P u bP Q):bu P (.ev (.ve g x y) u) env Q:=by
 subst he
 exact⟨d,by simp only[E.eval,hx,hy,Option.bind_some,h],kk⟩
theorem aiN  (hx:x.eval env=some dx)(hy:y.eval env=some dy)(h:D.vf dx dy=some d)(he:env++[d]=bP)(kk:bu P u bP Q):bu P (.ev (.vf x y) u) env Q:=by
 subst he
 exact⟨d,by simp only[E.eval,hx,hy,Option.bind_some,h],kk⟩
theorem aiE {e n:Nat}(hx:x.eval env=some dx)(hy:y.eval env=some dy)(h:D.a_ e n dx dy=some d)(he:env++[d]=bP)(kk:bu P u bP Q):bu P (.ev (.a_ e n x y) u) env Q:=by
 subst he
 exact⟨d,by simp only[E.eval,hx,hy,Option.bind_some,h],kk⟩
theorem ahF  (hx:x.eval env=some dx)(hy:y.eval env=some dy)(h:D.bO dx dy=some d)(he:env++[d]=bP)(kk:bu P u bP Q):bu P (.ev (.bO x y) u) env Q:=by
 subst he
 exact⟨d,by simp only[E.eval,hx,hy,Option.bind_some,h],kk⟩
theorem Xg {o:MOp}{w:E}{dw:D}(hx:x.eval env=some dx)(hy:y.eval env=some dy)(hz:z.eval env=some dz)(hw:w.eval env=some dw)(h:D.m4 o dx dy dz dw=some d)(he:env++[d]=bP)(kk:bu P u bP Q):bu P (.ev (.m4 o x y z w) u) env Q:=by
 subst he
 exact⟨d,by simp only[E.eval,hx,hy,hz,hw,Option.bind_some,h],kk⟩
theorem Xf {g:Bool}(hx:x.eval env=some dx)(hy:y.eval env=some dy)(h:D.mm g dx dy=some d)(he:env++[d]=bP)(kk:bu P u bP Q):bu P (.ev (.mm g x y) u) env Q:=by
 subst he
 exact⟨d,by simp only[E.eval,hx,hy,Option.bind_some,h],kk⟩
theorem ahG {i n:Nat}(hx:x.eval env=some dx)(h:D.part i n dx=some d)(he:env++[d]=bP)(kk:bu P u bP Q):bu P (.ev (.cells i n x) u) env Q:=by
 subst he
 exact⟨d,by simp only[E.eval,hx,Option.bind_some,h],kk⟩

theorem bM {m k:Int}(hx:x.eval env=some (.v (.int .i64 m)))(hy:y.eval env=some (.v (.int .i64 k)))(hb:-9223372036854775808≤m+k∧m+k<9223372036854775808)(he:env++[.v (.int .i64 (m+k))]=bP)(h:bu P u bP Q):bu P (.ev (.bin .add .int x y) u) env Q:=by subst he;exact⟨_,VZ hx hy hb,h⟩
theorem cC {m k:Int}(hx:x.eval env=some (.v (.int .i64 m)))(hy:y.eval env=some (.v (.int .i64 k)))(hb:-9223372036854775808≤m-k∧m-k<9223372036854775808)(he:env++[.v (.int .i64 (m-k))]=bP)(h:bu P u bP Q):bu P (.ev (.bin .sub .int x y) u) env Q:=by subst he;exact⟨_,VY hx hy hb,h⟩
theorem anu {m k:Int}(hx:x.eval env=some (.v (.int .i64 m)))(hy:y.eval env=some (.v (.int .i64 k)))(hb:-9223372036854775808≤m*k∧m*k<9223372036854775808)(he:env++[.v (.int .i64 (m*k))]=bP)(h:bu P u bP Q):bu P (.ev (.bin .mul .int x y) u) env Q:=by subst he;exact⟨_,abX hx hy hb,h⟩
theorem aW {i:Nat}(hx:x.eval env=some (.v (.int .i64 i)))(hb:i<4611686018427387904)(he:env++[.v (.int .i64 (i+1:Nat))]=bP)(h:bu P u bP Q):bu P (.ev (.bin .add .int x (ki 1)) u) env Q:=by subst he;exact⟨_,abY hx hb,h⟩
theorem bZ {i:Nat}(hx:x.eval env=some (.v (.int .i64 i)))(hb:1≤i∧i<4611686018427387904)(he:env++[.v (.int .i64 (i-1:Nat))]=bP)(h:bu P u bP Q):bu P (.ev (.bin .sub .int x (ki 1)) u) env Q:=by subst he;exact⟨_,YI hx hb,h⟩
end

section
variable {α:Type} {enc:α→D} {xs ys:List α} {i:Nat} {a:α}

theorem r6 {sz:Nat}(h:xs[i]? = some a)(hc:(enc a).cells.length=sz):D.aj sz (.bq (xs.map enc)) (.v (.int .i64 i))=some (.ptr (enc a).cells):=by
 simp[D.aj,h,hc]

theorem b_ {sz:Nat}(h:i<xs.length)(hc:(enc xs[i]).cells.length=sz):D.aj sz (.bq (xs.map enc)) (.v (.int .i64 i))=some (.ptr (enc xs[i]).cells):=r6 (List.getElem?_eq_getElem h) hc

theorem Ju {sz bytes:Nat}(h:(xs.length+ys.length)*bytes≤140737488355328)(h':xs.length+ys.length≤maxLen)(hsz:∀a,(enc a).cells.length=sz):D.app sz bytes (.bq (xs.map enc)) (.bq (ys.map enc))=some (.bq ((xs++ys).map enc)):=by
 have h1:∀zs:List α,bK sz (zs.map enc)=true:=fun zs=>by simp[bK,hsz]
 simp only[D.app,h1,List.length_map,and_true]
 rw[if_pos ⟨h,h'⟩,List.map_append]

theorem zJ {sz bytes:Nat}(h:(xs.length+1)*bytes≤140737488355328)(h':xs.length+1≤maxLen)(hsz:∀a,(enc a).cells.length=sz):D.app sz bytes (.bq (xs.map enc)) (.bq [enc a])=some (.bq ((xs++[a]).map enc)):=
 Ju (ys:=[a]) h h' hsz

end

section
variable {P:Program} {body:U} {env:List D} {Q:iD→Prop} {l:Nat}

end
end

section
theorem Rl {d:D}(h:d.one=true):d.cells=[d]:=by
 cases d <;> first | rfl | simp[D.one] at h

section
variable {α:Type} {bs:List D} {e:TypeId} {sz:Nat} {enc:α→List D} {s:D} {xs:List α}

theorem mr {i k:Nat}{cs:List D}{d:D}(hb:bs[i]? = some (.aE e sz cs))(hk:k<cs.length)(hd:d.one=true):D.gQ 1 (.st bs) (.loc i k) d=some (.st (bs.set i (.aE e sz (cs.set k d)))):=by
 simp only[D.gQ,D.gF,hb,Option.bind_some,Rl hd,List.length_cons,List.length_nil,List.all_cons,hd,List.all_nil,Bool.and_self,true_and,and_true]
 rw[if_pos (by omega)]
 have:cs.set k d=cs.take k++[d]++cs.drop (k+1):=by rw[List.set_eq_take_append_cons_drop,if_pos hk];simp
 rw[this]

theorem LG (hsz:∀x,(enc x).length=sz){o:Nat}(ho:o<sz){d:D}{x':α}:∀{xs:List α} {i:Nat} {x:α},xs[i]? = some x→enc x'=(enc x).set o d→(xs.flatMap enc).set (i*sz+o) d=(xs.set i x').flatMap enc
 | [],i,x,h,_=>by simp at h
 | y :: ys,0,x,h,he=>by
  simp at h
  subst h
  simp only[List.flatMap_cons,List.set_cons_zero,Nat.zero_mul,Nat.zero_add]
  rw[List.set_append_left _ _ (by rw[hsz];exact ho),he]
 | y :: ys,i+1,x,h,he=>by
  simp only[List.flatMap_cons,List.set_cons_succ]
  rw[List.set_append_right _ _ (by rw[hsz,Nat.add_mul];omega),hsz,show(i+1)*sz+o-sz=i*sz+o from by rw[Nat.add_mul];omega,LG hsz ho (xs:=ys) (by simpa using h) he]

theorem o5.append (h:o5 bs e sz enc s xs){bytes:Nat}{x:α}{y:D}(hsz:∀x,(enc x).length=sz)(hy:y.cells=enc x)(ho:(enc x).all (·.one)=true)(hb:(xs.length+1)*bytes≤140737488355328)(hm:xs.length+1≤maxLen) :
  ∃ia,D.fU e sz bytes (.st bs) s (.bq [y])=some (.st ia)∧D.apps (.st bs) s (.bq [y])=some (.sl bs.length 0 (xs.length+1))∧ia[bs.length]? = some (.aE e sz ((xs++[x]).flatMap enc))∧ia.length=bs.length+1∧∀k,k<bs.length→s.SX≠some k→ia[k]? = bs[k]?:=by
 have hac:bK sz [y]=true:=by simp[bK,hy,hsz]
 have hone:((Qrj [y]).all (·.one))=true:=by simpa[Qrj,hy] using ho
 rcases h with⟨rfl,rfl⟩ | ⟨i,rfl,hi⟩
 ·refine⟨bs++[.aE e sz (Qrj [y])],?_,rfl,?_,by simp,fun k hk _=>by rw[List.getElem?_append_left hk]⟩
  ·simp only[D.fU,D.JN,hac,hone,List.cons_ne_nil,if_false,List.length_cons,List.length_nil]
   rw[if_pos (by refine⟨by simpa using hb,by simpa using hm,?_⟩;simp)]
  ·simp[Qrj,hy]
 ·have mU:=(List.getElem?_eq_some_iff.1 hi).1
  refine⟨(bs.set i (.bh []))++[.aE e sz (xs.flatMap enc++Qrj [y])],?_,rfl,?_,by simp,fun k hk hne=>?_⟩
  ·simp only[D.fU,D.JN,D.gF,hi,Option.bind_some,hac,hone,List.cons_ne_nil,if_false,List.length_cons,List.length_nil]
   rw[if_pos (by refine⟨?_,?_,?_,h_ hsz,by simpa using hb,by simpa using hm,?_⟩ <;> simp)]
  ·rw[List.getElem?_append_right (by simp)]
   simp[Qrj,hy]
  ·rw[List.getElem?_append_left (by simpa using hk)]
   rw[List.getElem?_set_ne (fun e'=>hne (by rw[e'];rfl))]

end

/-! ## maps -/
section
variable {pre:List D} {kd:Kd} {dL:List D} {k u:D}
theorem aj2 (h:D.uD kd k dL=some none):D.m4 (.put kd) (.st (pre++[.iE dL])) (.mp pre.length) k u=some (.st (pre++[.iE (dL++[.bh [k,u]])])):=by
 simp[D.m4,D.Ul,h]
theorem aj3 {x d:D}{i:Nat}(h:D.uD kd k dL=some (some (i,x)))(h1:x.one=true):D.m4 (.get kd false) (.st (pre++[.iE dL])) (.mp pre.length) k d=some x:=by
 simp[D.m4,D.entries,D.acF (D.acT h),h,h1]
end

/-! ## steps of Qiw store -/

structure Stp (bs:List D)(F:Nat→Prop)(bs':List D)(F':Nat→Prop):Prop where
 len:bs.length≤bs'.length
 old:∀k,k<bs.length→¬F k→bs'[k]? = bs[k]?
 new:∀k,F' k→F k∨bs.length≤k

theorem Stp.refl (bs:List D)(F:Nat→Prop):Stp bs F bs F:=⟨Nat.le_refl _,fun _ _ _=>rfl,fun _ h=>.inl h⟩

theorem Stp.trans {bs ia lg:List D}{F F1 F2:Nat→Prop}(h:Stp bs F ia F1)(h':Stp ia F1 lg F2):Stp bs F lg F2:=by
 refine⟨Nat.le_trans h.len h'.len,fun k hk hf=>?_,fun k hk=>?_⟩
 ·rw[h'.old k (Nat.lt_of_lt_of_le hk h.len) (fun h1=>(h.new k h1).elim hf fun h2=>absurd hk (by omega)),h.old k hk hf]
 ·rcases h'.new k hk with h1 | h1
  ·exact h.new k h1
  ·exact .inr (Nat.le_trans h.len h1)
end

section
noncomputable section

structure Spec where
 f:FuncId
 fn:Func
 cf:cz
 own:Bool
 kn:Kn:=.plain
 nd:Bool:=false

def anm (P:Program)(s:Spec):Option T:=
 match s.kn with
 | .plain=>kO P s.cf s.fn
 | .defers keep=>kP P s.cf s.fn keep
 | .mz=>r_ P s.cf s.fn

def Jy (P:Program):List Spec→Prop
 | []=>True
 | s :: r=>P.funcs[s.f]? = some s.fn∧Jy P r

def PZ (P:Program)(k:Pc→Bool):List Spec→Pc→Bool
 | [],tb=>k tb
 | s :: r,tb=>match anm P s with
  | none=>false
  | some t=>PZ P k r ({ f:=s.f,kn:=s.kn,cf:=s.cf,own:=s.own,bX:=bR P s.fn,t:=t,nd:=s.nd } :: tb)

theorem Kw {P:Program}{k:Pc→Bool}:∀{l:List Spec} {tb:Pc},Jy P l→(∀e,e∈tb→aV P e)→PZ P k l tb=true→∃tb',(∀e,e∈tb'→aV P e)∧k tb'=true
 | [],tb,_,h,hk=>⟨tb,h,hk⟩
 | s :: r,tb,hs,h,hk=>by
  unfold PZ at hk
  split at hk
  ·cases hk
  ·rename_i t ht
   refine Kw hs.2 (fun e he=>?_) hk
   rcases List.mem_cons.1 he with rfl | he
   ·refine⟨s.fn,hs.1,rfl,?_⟩
    unfold anm at ht
    cases hk:s.kn <;> rw[hk] at ht <;> exact ht
   ·exact h e he

structure Fact where
 f:FuncId
 ds:List D
 d:D

def Fact.ok (P:Program)(b0:List D)(x:Fact):Prop:=∀bs:List D,aP P x.f (.st (b0++bs)) x.ds x.d

def JB (P:Program)(b0:List D):List Fact→Prop
 | []=>True
 | x :: r=>x.ok P b0∧JB P b0 r

def AV (f:FuncId)(ds:List D):List Fact→Option D
 | []=>none
 | x :: r=>if x.f=f then(if D.jJ x.ds ds=true then some x.d else AV f ds r) else AV f ds r

theorem AU {P:Program}{b0:List D}{f:FuncId}{ds:List D}{d:D}{bs:List D}:∀{l:List Fact},JB P b0 l→AV f ds l=some d→aP P f (.st (b0++bs)) ds d
 | [],_,h=>by simp[AV] at h
 | x :: r,hl,h=>by
  unfold AV at h
  split at h
  ·rename_i hf
   split at h
   ·rename_i hd
    cases h
    have:=hl.1 bs
    rw[hf,D.gb hd] at this
    exact this
   ·exact AU hl.2 h
  ·exact AU hl.2 h

def Qs (b0:List D)(l:List Fact):JA where
 R:=fun f st ds=>match st with
  | .st bs=>if Qqx b0 bs=true then(AV f ds l).map .ret else none
  | _=>none
 W:=fun _ _ _=>none
 F:=fun _ _ _ _=>none
 I:=fun _ _ _ _ _=>none

theorem EI {P:Program}{b0:List D}{l:List Fact}(h:JB P b0 l):qL P (Qs b0 l):=by
 refine⟨fun f st ds r hr=>?_,fun _ _ _ _ _ h=>(by cases h),fun _ _ _ _ _ h=>(by cases h),fun _ _ _ _ _ _ _ h=>(by cases h)⟩
 simp only[Qs] at hr
 split at hr
 ·split at hr
  ·rename_i hb
   obtain⟨q,rfl⟩:=Qky hb
   obtain⟨d,hd,rfl⟩:=Option.map_eq_some_iff.1 hr
   exact AU h hd
  ·cases hr
 ·cases hr

def Out.UM (d:D):Option Out→Bool
 | some (.ret d')=>D.same d' d
 | _=>false

theorem Out.UL {d:D}{x:Option Out}(h:Out.UM d x=true):x=some (.ret d):=by
 unfold Out.UM at h
 split at h
 ·rw[D.dU h]
 ·cases h

theorem nM {P:Program}{l:List Spec}{o:JA}{b0:List D}(hs:Jy P l)(ho:qL P o)(x:Fact)(n m:Nat)(hd:eG x.ds=true)(h0:lf b0=true)(h1:x.d.iw=true){tb0:Pc}(ht:∀e,e∈tb0→aV P e)(h:PZ P (fun tb=>Out.UM x.d ((mu P tb n b0 o m).R x.f (.st b0) x.ds)) l tb0=true):x.ok P b0:=by
 obtain⟨tb,g1,g2⟩:=Kw hs ht h
 exact fun bs=>((w_ (n:=n) g1 ho m).R x.f (.st b0) x.ds _ (Out.UL g2)).ofA h0 hd h1 bs

end
end
end Go.Am
