/-
  Several texts, one behind the other.
-/
import Derived.Test.YtjnipnanfjglpaaGreatDoorAmSound
import Derived.Defers
import Derived.Recover
import Derived.ProofKit
import Derived.OpenShut
import Derived.Carry
import Derived.Handed
set_option linter.unusedSimpArgs false
set_option linter.unusedVariables false
namespace Go.Am
section
noncomputable section

def Iz (σ:af):SV→Option E
 | .kF o=>match σ.obj o with
  | some (.row x _)=>some x
  | _=>none
 | sv=>sv.toE

def B2 (P:Program)(σ:af):ResultVar→Option E
 | .tmp t=>Iz σ (σ.tmp t)
 | .cell t ty=>match σ.tmp t with
  | .addr o off=>match σ.obj o,iy P ty,o6 P ty with
   | some (.box cs),some true,some n=>if off+n≤cs.length then(SV.agg ((cs.drop off).take n)).toE else none
   | some (.box cs),some false,_=>(cs[off]?).bind (Iz σ)
   | _,_,_=>none
  | .e p _=>match σ.hs,iy P ty,o6 P ty with
   | some (.store _ h),some agg,some n=>some (.ld agg n h p)
   | _,_,_=>none
  | _=>none

def sJ (P:Program)(σ:af):List ResultVar→Option E
 | []=>some .ai
 | r :: rs=>match B2 P σ r,sJ P σ rs with
  | some x,some y=>some (.ah x y)
  | _,_=>none

def LQ (P:Program)(rs:List ResultVar)(σ:af):Option E:=
 match rs with
 | [r]=>B2 P σ r
 | rs=>sJ P σ rs

def AQ (ρ:cr)(σ:af):Sets:=ρ.S.or fun b _=>∃o x sz,σ.obj o=some (.row x sz)∧ρ.bh o=b

section
variable {P:Program} {w w0:World} {X:gB} {a:Act} {σ:af} {env:List D} {ρ:cr}

theorem aZ.fin {v:Value}{d:D}(h:aZ w ρ.S v d):aZ w (AQ ρ σ) v d:=h.keep (bp.refl _ _) (ρ.S.mr _)

theorem Si {o:Nat}{x:E}{sz:Nat}(ho:σ.obj o=some (.row x sz))(h:fI w ρ env o (.row x sz)):∃d,x.eval env=some d∧aZ w (AQ ρ σ) (ρ.val o) d:=by
 obtain⟨vs,ty,es,hh,hx,hz,hl,hr,hv,hm,hS⟩:=h
 refine⟨_,hx,?_⟩
 rw[hv]
 refine .a_ (size:=sz) (val:=fun i j=>vs.getD (i*sz+j) undef) rfl (A0m _) hm hz (fun i e j d he hd=>(hr i e j d he hd).1) (fun i e j d he hd=>.inr ⟨o,x,sz,ho,rfl⟩) (fun i e j d he hd=>?_) fun i e j d he hd=>?_
 ·obtain⟨_,v,fQ,_⟩:=hr i e j d he hd
  rw[B0k,eE hh,fQ,A0p,fQ]
  rfl
 ·obtain⟨_,v,fQ,hrd⟩:=hr i e j d he hd
  rw[A0p,fQ]
  exact hrd.fin

theorem DF {sv:SV}{x:E}{v:Value}(h:Iz σ sv=some x)(hr:cu w ρ env v sv)(ea:∀o y,σ.obj o=some y→fI w ρ env o y):∃d,x.eval env=some d∧aZ w (AQ ρ σ) v d:=by
 unfold Iz at h
 split at h
 ·rename_i o
  split at h
  ·rename_i y sz ho
   cases h
   rw[hr.nT]
   exact Si ho (ea o _ ho)
  ·cases h
 ·obtain⟨d,hd,hrd⟩:=SV.toE_rd h hr
  exact⟨d,hd,hrd.fin⟩

def iE (tmps:Array Value):ResultVar→Sem Value
 | .tmp t=>pure (tmps.getD t undef)
 | .cell a t=>do loadVar t (←asAddr (tmps.getD a undef))

theorem A9 (h:bE w0 X w a σ env ρ){r:ResultVar}{x:E}{d:D}(hx:B2 P σ r=some x)(he:x.eval env=some d):∃v,(iE a.tmps r).run P w=.ok v w∧aZ w (AQ ρ σ) v d:=by
 unfold B2 at hx
 split at hx
 ·rename_i t
  obtain⟨d',hd,hrd⟩:=DF hx (h.tmps t) h.cn
  rw[he] at hd
  cases hd
  exact⟨_,rfl,hrd⟩
 ·rename_i t ty
  split at hx
  ·rename_i o off ht
   have qY:=h.tmps t
   rw[ht] at qY
   have hv:=qY.iN
   have hrun:∀{v:Value},(loadVar ty ⟨ρ.bh o,off,none⟩).run P w=.ok v w→(iE a.tmps (.cell t ty)).run P w=.ok v w:=by
    intro v hl
    simp only[iE,hv,asAddr,A0k,A0n,A0e,hl]
   split at hx
   ·rename_i cs n ho hg hn
    obtain⟨vs,tyb,hh,hlen,hone,hr,_⟩:=h.cn o _ ho
    split at hx
    ·rename_i hle
     have hs:cu w ρ env (.agg ((vs.toList.drop off).take n).toArray) (.agg ((cs.drop off).take n)):=by
      refine .agg (by simp[hlen]) (fun i v hv=>?_) fun i v c hv hc=>?_
      ·simp only[B0n,B0c] at hv
       split at hv
       ·exact hone (off+i) v (by simpa using hv)
       ·cases hv
      ·simp only[B0n,B0c] at hv hc
       split at hv
       ·rename_i hi
        rw[if_pos hi] at hc
        exact hr (off+i) v c (by simpa using hv) (by simpa using hc)
       ·cases hv
     obtain⟨d',hd,hrd⟩:=SV.toE_rd hx hs
     rw[he] at hd
     cases hd
     refine⟨_,hrun (nX (vs:=(vs.toList.drop off).take n) hg hn (by simp[hlen];omega) fun j v hv=>?_),hrd.fin⟩
     rw[eE hh]
     rw[B0c] at hv
     split at hv
     ·simpa using hv
     ·cases hv
    ·cases hx
   ·rename_i cs ho hg
    obtain⟨vs,tyb,hh,hlen,hone,hr,_⟩:=h.cn o _ ho
    obtain⟨c,hc,hx⟩:=A0c.1 hx
    have hi:off<vs.size:=by rw[hlen];exact(A0a.1 hc).1
    obtain⟨d',hd,hrd⟩:=DF hx (hr off vs[off] c (by simp[hi]) hc) h.cn
    rw[he] at hd
    cases hd
    exact⟨_,hrun (nW (v:=vs[off]) hg (by rw[eE hh];simp[hi])),hrd⟩
   ·cases hx
  ·rename_i p s ht
   have qY:=h.tmps t
   rw[ht] at qY
   obtain⟨dp,hp,FF,_⟩:=qY.gj
   split at hx
   ·rename_i cf hh agg n nK hg hn
    cases hx
    obtain⟨bs,lY,hst,_⟩:=h.cn aO (.store cf hh) (by rw[af.cK,if_pos rfl];exact nK)
    simp only[E.eval,lY,hp,A0d] at he
    obtain⟨b,off,u,hv,hrun,J7,_⟩:=Cn hg hn FF (.inr hst) he
    refine⟨u,?_,J7.fin⟩
    simp only[iE,hv,asAddr,A0k,A0n,A0e,hrun]
   ·cases hx
  ·cases hx

theorem xP (h:bE w0 X w a σ env ρ):∀{rs:List ResultVar} {x:E} {d:D},sJ P σ rs=some x→x.eval env=some d→∃vs ds,(rs.mapM (iE a.tmps)).run P w=.ok vs w∧d=.aM ds∧vs.length=ds.length∧vs.length=rs.length∧∀(i:Nat) (v:Value) (d:D),vs[i]? = some v→ds[i]? = some d→aZ w (AQ ρ σ) v d
 | [],x,d,hx,he=>by
  simp[sJ] at hx
  subst hx
  simp[E.eval] at he
  exact⟨[],[],rfl,he.symm,rfl,rfl,by simp⟩
 | r :: rs,x,d,hx,he=>by
  simp only[sJ] at hx
  split at hx
  ·rename_i y z hy hz
   cases hx
   simp only[E.eval,A0c] at he
   obtain⟨d1,OR,d2,Kj,he⟩:=he
   obtain⟨v,h1,h3⟩:=A9 h hy OR
   obtain⟨vs,ds,h4,rfl,h6,h6',h7⟩:=xP h hz Kj
   simp only[D.ah] at he
   cases he
   refine⟨v :: vs,d1 :: ds,by simp only[List.mapM_cons,A0k,h1,A0e,h4,A0n],rfl,by simp[h6],by simp[h6'],fun i v' d' hv hd=>?_⟩
   cases i with
   | zero=>simp at hv hd;subst hv hd;exact h3
   | succ i=>exact h7 i v' d' (by simpa using hv) (by simpa using hd)
  ·cases hx

theorem mi (fn:Func)(tmps:Array Value){vs:List Value}(h:(fn.results.toList.mapM (iE tmps)).run P w=.ok vs w):(results fn tmps).run P w=.ok (if h:vs.length=1 then vs[0] else .tuple vs.toArray) w:=by
 have he:results fn tmps=(do let vs ←fn.results.mapM (iE tmps);pure (if h:vs.size=1 then vs[0] else .tuple vs)):=by
  unfold results
  congr 1
 rw[he,Array.mapM_eq_mapM_toList]
 simp only[A0k,Sem.run_map,h,A0e,A0n,List.size_toArray]
 congr 1

theorem DG (h:bE w0 X w a σ env ρ){fn:Func}{x:E}{d:D}(hx:LQ P fn.results.toList σ=some x)(he:x.eval env=some d):∃v,(results fn a.tmps).run P w=.ok v w∧aZ w (AQ ρ σ) v d:=by
 unfold LQ at hx
 split at hx
 ·rename_i r hr
  obtain⟨v,h1,h3⟩:=A9 h hx he
  refine⟨v,?_,h3⟩
  have:=mi (P:=P) (w:=w) fn a.tmps (vs:=[v]) (by rw[hr];simp only[List.mapM_cons,List.mapM_nil,A0k,h1,A0e,A0n])
  simpa using this
 ·rename_i hne
  obtain⟨vs,ds,h1,rfl,h3,h3',h4⟩:=xP h hx he
  have:=mi (P:=P) (w:=w) fn a.tmps h1
  rw[dif_neg ?_] at this
  ·exact⟨_,this,.aM (by simpa using h3) fun i v d hv hd=>h4 i v d (by simpa using hv) hd⟩
  ·intro hl
   rw[hl] at h3'
   match jE:fn.results.toList,h3' with
   | [r],_=>exact hne r jE

end

def bl (P:Program)(fn:Func):List Bool:=(fn.params.toList.map fun t=>decide (iy P t=some false))++List.replicate fn.nfree true

def cq (fn:Func):Nat:=fn.params.size+fn.nfree

def gE:Nat→List Bool→List SV
 | _,[]=>[]
 | i,b :: r=>.e (.sym i) b :: gE (i+1) r

def cg (cf:bV)(n np:Nat)(bs:List Bool):af:={ tmps:=gE 0 bs++List.replicate (n-bs.length) .bS,mem:=List.replicate n none,hs:=some (.store cf (.sym np)) }

def kG (P:Program)(rs:List ResultVar)(σ:af):Option E:=
 match LQ P rs σ,σ.hs with
 | some x,some (.store _ h)=>some (.ah x (.ah h .ai))
 | _,_=>none

def ir (P:Program)(cf:bV)(fn:Func):Option T:=
 match fn.body with
 | none=>none
 | some c=>if fn.ntmps<cq fn∨aO<fn.ntmps then none else compile P (kG P fn.results.toList) c 0 (cq fn+1) (cg cf fn.ntmps (cq fn) (bl P fn)) [] fun _ _ σ=>(kG P fn.results.toList σ).map T.ret

def cW:List Bool→List D→Bool
 | [],[]=>true
 | b :: r,d :: s=>(!b||d.one)&&cW r s
 | _,_=>false

theorem eR:∀{bs:List Bool} {ds:List D},cW bs ds=true→bs.length=ds.length∧∀(i:Nat) (b:Bool) (d:D),bs[i]? = some b→ds[i]? = some d→b=true→d.one=true
 | [],[],_=>⟨rfl,by simp⟩
 | [],_ :: _,h=>by simp[cW] at h
 | _ :: _,[],h=>by simp[cW] at h
 | b :: r,d :: s,h=>by
  simp only[cW,A0g,Bool.or_eq_true,Bool.not_eq_true'] at h
  obtain⟨h1,h2⟩:=eR h.2
  refine⟨by simp[h1],fun i b' d' hb hd ht=>?_⟩
  cases i with
  | zero=>simp at hb hd;subst hb hd;exact h.1.resolve_left (by simp[ht])
  | succ i=>exact h2 i b' d' (by simpa using hb) (by simpa using hd) ht

theorem mE:∀{bs:List Bool} {k i:Nat} {c:SV},(gE k bs)[i]? = some c→∃b,bs[i]? = some b∧c=.e (.sym (k+i)) b
 | [],_,_,_,h=>by simp[gE] at h
 | b :: r,k,0,c,h=>by simp[gE] at h;exact⟨b,rfl,h.symm⟩
 | b :: r,k,i+1,c,h=>by
  obtain⟨b',h1,h2⟩:=mE (bs:=r) (k:=k+1) (i:=i) (by simpa[gE] using h)
  exact⟨b',by simpa using h1,by rw[h2,show k+1+i=k+(i+1) from by omega]⟩

theorem cZ:∀(bs:List Bool) (k:Nat),(gE k bs).length=bs.length
 | [],_=>rfl
 | _ :: r,k=>by simp[gE,cZ r]

theorem Eh {w w':World}{a:Act}{σ:af}{env:List D}{ρ:cr}{S:Sets}{an may:Nat→Prop}{zK:List Deferred}{bs:List D}{cf:bV}{x:E}(h:bE w ⟨may,S,an,zK⟩ w' a σ env ρ)(hst:ck w' ρ.S ρ.an bs)(bW:σ.obj aO=some (.store cf x))(p5:∀b,may b→an b):Left w S an may w' (AQ ρ σ) ρ.an bs:=by
 have h0:=kz h hst ⟨cf,x,bW⟩ p5
 have qZ:∀b off,ρ.an b→¬AQ ρ σ b off:=by
  intro b off OP hs
  rcases hs with hs | ⟨o,x',sz,ho,hb⟩
  ·exact hst.rH b off OP hs
  ·have:=h.inj o aO _ _ b ho bW hb OP
   subst this
   rw[bW] at ho
   cases ho
 refine⟨?_,Sets.le_trans h.sub (ρ.S.mr _),h.os,h.tape,h.output,h.grown,h.old,h0.ft,fun b o hs=>?_,fun b o hs=>?_⟩
 ·refine⟨hst.n,fun i e sz cs hi=>?_,qZ,fun i bH hi=>?_,hst.inj,fun i z hi hz=>?_⟩
  ·obtain⟨hf',us,g1,g2,g3,g4,g5,g6⟩:=hst.cells i e sz cs hi
   exact⟨hf',us,g1,g2,g3,g4,fun j u d hu hd=>(g5 j u d hu hd).fin,fun off=>qZ _ off hf'⟩
  ·obtain⟨hf',es,clock,g1,g2,g3,g4⟩:=hst.maps i bH hi
   refine⟨hf',es,clock,g1,g2,fun off=>qZ _ off hf',fun j e kv he hkv=>?_⟩
   obtain⟨dk,dv,g5,g6,g7⟩:=g4 j e kv he hkv
   exact⟨dk,dv,g5,g6.fin,g7.fin⟩
  ·obtain⟨hf',g1,_⟩:=hst.pV i z hi hz
   exact⟨hf',g1,fun off=>qZ _ off hf'⟩
 ·rcases hs with hs | ⟨o',x',sz,ho,rfl⟩
  ·exact h0.new b o hs
  ·rcases(h.own o' _ _ ho rfl).1 with g | g | g
   ·cases g.1
   ·exact .inr (.inr g)
   ·exact .inr (.inl g)
 ·rcases hs with hs | ⟨o',x',sz,ho,rfl⟩
  ·exact h.cells b o hs
  ·exact(h.own o' _ _ ho rfl).2

def Ak (Qd:D→D→Prop)(Qp:D→D→Prop):eV→Prop
 | .ret (.aM [d,st])=>Qd d st
 | .dI d st _ _=>Qp d st
 | _=>False

theorem lf {P:Program} {cf:bV} {f:FuncId} {fn:Func} {t:T} {ds:List D} {bs:List D} {Qd Qp:D→D→Prop} (hf:P.funcs[f]? = some fn) (hc:ir P cf fn=some t) (hfit:cW (bl P fn) ds=true) (eb:den P t (ds++[.st bs]) (Ak Qd Qp))
  {w:World} {S:Sets} {an may:Nat→Prop} {vs:Array Value} (hst:ck w S an bs) (dF:oT w S an) (hfl:∀b,an b→b<w.heap.size) (hS:∀b o,S b o→b<w.heap.size) (hvl:vs.size=ds.length) (hrd:∀(i:Nat) (v:Value) (x:D),vs[i]? = some v→ds[i]? = some x→aZ w S v x)
  (hmay:∀b,an b→cf.ro=true∨may b) (p5:∀b,may b→an b) :
  Calls P f vs w fun e w'=>∃(o:Out) (v:Value) (S':Sets) (bf:Nat→Prop) (bs':List D),(match o with | .ret d=>Qd d (.st bs') | .dI d=>Qp d (.st bs'))∧o.ends w' S' v e∧Left w S an may w' S' bf bs':=by
 obtain⟨oY,vL⟩:=eR hfit
 have qA:(bl P fn).length=cq fn:=by simp[bl,cq]
 unfold ir at hc
 split at hc
 ·cases hc
 ·rename_i c hbody
  split at hc
  ·cases hc
  ·rename_i hnt
   rw[not_or] at hnt
   refine(callsIn_wide (n:=0)).1 (callsIn_of_wp_marks (F:=Fence.wide) hf hbody trivial ?_)
   show c.wpIn (FW none) 0 P _ _ _
   have aG:bE w ⟨may,S,an,[]⟩ w { tmps:=vs++Array.replicate (fn.ntmps-vs.size) undef,defers:=[] } (cg cf fn.ntmps (cq fn) (bl P fn)) (ds++[.st bs]) { bh:=fun _=>0,val:=fun _=>undef,S:=S,an:=an }:=by
    have ea:∀o x,(cg cf fn.ntmps (cq fn) (bl P fn)).obj o=some x→o=aO∧x=.store cf (.sym (cq fn)):=by
     intro o x hx
     simp only[af.cK,cg,A0i,List.getElem?_replicate] at hx
     split at hx
     ·cases hx;exact⟨by assumption,rfl⟩
     ·split at hx <;> simp at hx
    refine⟨by simp[cg,cZ,hvl,oY],fun t=>?_,fun o x hx=>?_,fun o o' x x' b hx hx' _ _=>?_,fun o x b hx hb=>?_,hS,rfl,.refl _,rfl,A0m _,fun _ _ _=>rfl,Sets.le_refl _,fun _ _ h=>.inl h,rfl,fun l rec hl=>⟨(dF l rec hl).1,fun hm=>(dF l rec hl).2 (p5 l hm),(dF l rec hl).2⟩⟩
    ·simp only[af.eH,cg,A0i]
     rcases Nat.lt_or_ge t (bl P fn).length with ht | ht
     ·rw[A0j (by rw[cZ];exact ht)]
      cases hs:(gE 0 (bl P fn))[t]? with
      | none=>exact .bS
      | some c=>
       obtain⟨b,hb,rfl⟩:=mE hs
       have MQ:t<ds.length:=by omega
       have S8:t<vs.size:=by omega
       simp only[B0m,B0k]
       have hval:(vs++Array.replicate (fn.ntmps-vs.size) undef).getD t undef=vs[t]:=by
        rw[A0p,Array.getElem?_append_left S8,A0o S8]
        rfl
       rw[hval]
       exact .e (d:=ds[t]) (by simp[E.eval,A0j MQ,MQ]) (hrd t _ _ (A0o S8) (A0f MQ)) fun P_=>vL t b _ hb (A0f MQ) P_
     ·rw[A0l (by rw[cZ];exact ht),List.getElem?_replicate]
      split <;> exact .bS
    ·obtain⟨rfl,rfl⟩:=ea o x hx
     refine⟨bs,?_,hst,rfl⟩
     simp only[E.eval]
     rw[A0l (by omega)]
     simp[show cq fn-ds.length=0 from by omega]
    ·obtain⟨rfl,_⟩:=ea o x hx
     obtain⟨rfl,_⟩:=ea o' x' hx'
     rfl
    ·obtain⟨rfl,rfl⟩:=ea o x hx
     exact⟨(hmay b hb).imp (fun e=>⟨e,hb⟩) .inr,hfl b hb⟩
   have hmk:∀{w1 w':World} {X1:gB} {a':Act} {σ:af} {env:List D} {ρ:cr} {u:FrameMode} {R:Ending→World→Prop},u≠.run→Ext w ⟨may,S,an,[]⟩ w1 X1→bE w1 X1 w' a' σ env ρ→(∀w2,bE w ⟨may,S,an,X1.zK⟩ w2 a' σ env ρ→(∀b o,w2.cell? ⟨b,o,none⟩=w'.cell? ⟨b,o,none⟩)→(∀o x b,σ.obj o=some x→bw ρ o x b→w2.heap[b]? = w'.heap[b]?)→LeavesIn Fence.wide 0 P fn a'.tmps R [] u w2)→LeavesInM Fence.wide 0 P fn a'.tmps R a'.defers u w':=by
    intro w1 w' X1 a' σ env ρ u R hu hx hr h
    obtain⟨cs,h1,h2,h3⟩:=hx.zK
    have h0:=hx.rep hr aG.hold
    rw[hr.su,h1,List.append_nil]
    refine s9 hu cs w' h2 (fun D hD=>?_) fun w2 hm=>h w2 (bE.marked hr h0 (fun D hD=>?_) hm) hm.cell fun o x b hx hb=>hm.other b fun hD=>?_
    ·obtain⟨g1,g2,g3,g4⟩:=h3 D hD
     exact(hr.old D (A0h.1 g1).1 g2).trans g1
    ·obtain⟨g1,g2,g3,g4⟩:=h3 D hD
     exact⟨(A0h.1 g1).1,g2,g3,g4⟩
    ·obtain⟨g1,g2,g3,g4⟩:=h3 b hD
     have:=(A0h.1 g1).1
     rcases(hr.own o x b hx hb).1 with g | g | g
     ·exact g3 g.2
     ·omega
     ·exact g2 g
   obtain⟨R,hR⟩:∃R:Ending→World→Prop,R=fun e w'=>∃(o:Out) (v:Value) (S':Sets) (bf:Nat→Prop) (bs':List D),(match o with | .ret d=>Qd d (.st bs') | .dI d=>Qp d (.st bs'))∧o.ends w' S' v e∧Left w S an may w' S' bf bs':=⟨_,rfl⟩
   rw[←hR]
   have hend:∀(w1:World) (X1:gB) (σ:af) (x:E) (env:List D) (ρ:cr) (a':Act) (w':World) (d':D),Ext w ⟨may,S,an,[]⟩ w1 X1→kG P fn.results.toList σ=some x→bE w1 X1 w' a' σ env ρ→x.eval env=some d' →
     ∃d0 bs',d'=.aM [d0,.st bs']∧(Qd d0 (.st bs')→LeavesInM Fence.wide 0 P fn a'.tmps R a'.defers .returning w'):=by
    intro w1 X1 σ x env ρ a' w' d' yZ hx hr he
    unfold kG at hx
    split at hx
    ·rename_i y tP hh hy nK
     cases hx
     have bW:σ.obj aO=some (.store tP hh):=by rw[af.cK,if_pos rfl];exact nK
     obtain⟨bs',lY,_,_⟩:=hr.cn _ _ bW
     simp only[E.eval,lY,A0d,D.ah,A0c] at he
     obtain⟨d2,h2,he⟩:=he
     cases he
     refine⟨d2,bs',rfl,fun hq=>hmk (by simp) yZ hr fun w2 CF _ _=>?_⟩
     obtain⟨gi,q9,lR,_⟩:=CF.cn _ _ bW
     rw[lY] at q9
     cases q9
     obtain⟨v,h1,h3⟩:=DG CF hy h2
     refine⟨v,h1,?_⟩
     rw[hR]
     exact⟨.ret d2,v,AQ ρ σ,ρ.an,bs',hq,⟨rfl,h3⟩,Eh CF lR bW p5⟩
    ·cases hx
   have nk:lz fn.ntmps (cg cf fn.ntmps (cq fn) (bl P fn)):=⟨by simp[cg,cZ,qA];omega,by simp[cg]⟩
   have hs:=j_ (P:=P) (N:=fn.ntmps) c (B:=fun w1 X1=>Ext w ⟨may,S,an,[]⟩ w1 X1) (fL:=fun w' a' d'=>∃d0 bs',d'=.aM [d0,.st bs']∧(Qd d0 (.st bs')→LeavesInM Fence.wide 0 P fn a'.tmps R a'.defers .returning w')) (rd:=none) (nd:=0)
    (rv:=kG P fn.results.toList) (fun w1 X1 hB σ x hx env ρ a w' d hr he=>hend w1 X1 σ x env ρ a w' d hB hx hr he) (fun l e=>by cases e) (.inr (.inr fun _ _ _ _ h k=>h.trans k)) 0 _ [] _ t (ds++[.st bs]) (by rw[A0t,←oY,qA];exact hc) _ _ w w ⟨may,S,an,[]⟩ _ (Ext.refl _ _) eb aG nk (fun id e he=>by simp[iZ] at he)
   refine wpIn_mono hs fun e a' w' h=>?_
   cases e with
   | normal=>
    obtain⟨w1,X1,env',σ',ρ',t',yZ,_,hk,dY,hr',_⟩:=h
    obtain⟨x,hx,rfl⟩:=A0b.1 hk
    obtain⟨d',he,hq⟩:=dY
    obtain⟨d0,bs',rfl,h3⟩:=hend w1 X1 σ' x env' ρ' a' w' d' yZ hx hr' he
    exact h3 hq
   | ret=>
    obtain⟨d',hq,d0,bs',rfl,h3⟩:=h
    exact h3 hq
   | exit id=>obtain⟨_,_,e,_,_,_,he,_⟩:=h;simp[iZ] at he
   | goto l=>exact h.elim
   | panic c=>
    obtain⟨w1,X1,σ,env,ρ,v,d,bs',yZ,rfl,hr,hrd,cL,uf,_,_,hq⟩:=h
    refine hmk (by simp) yZ hr fun w2 CF hcell jj=>?_
    show R _ w2
    rw[hR]
    obtain⟨tP,hh,bW⟩:=uf
    have hk:bp ρ.S w' w2:=fun b o _=>hcell b o
    have lR:ck w2 ρ.S ρ.an bs':=cL.to ⟨fun _ _ h=>h,rfl,fun _=>rfl,fun _=>rfl,fun _=>rfl⟩ (fun _ _ h=>h) (fun b hb=>jj aO _ b bW hb) fun v d i x _ _ h=>h.keep hk (Sets.le_refl _)
    exact⟨.dI d,v,ρ.S,ρ.an,bs',hq,⟨rfl,hrd.keep hk (Sets.le_refl _)⟩,kz CF lR ⟨tP,hh,bW⟩ p5⟩
   | outgrown=>exact h.elim

def oU (o:Out)(st:D):eV→Prop:=
 match o with
 | .ret d=>fun s=>s=.ret (.aM [d,st])
 | .dI d=>fun s=>∃sl kd,s=.dI d st sl kd

theorem oU.as {o:Out}{st:D}{s:eV}(h:oU o st s):Ak (fun d cG=>o=.ret d∧cG=st) (fun d cG=>o=.dI d∧cG=st) s:=by
 cases o with
 | ret d=>cases h;exact⟨rfl,rfl⟩
 | dI d=>obtain⟨_,_,rfl⟩:=h;exact⟨rfl,rfl⟩

theorem Ho {P:Program}{cf:bV}{f:FuncId}{fn:Func}{t:T}{ds:List D}{bs:List D}{o:Out}(hro:cf.ro=true)(hf:P.funcs[f]? = some fn)(hc:ir P cf fn=some t)(hfit:cW (bl P fn) ds=true)(eb:den P t (ds++[.st bs]) (oU o (.st bs))) :
  eD P f (.st bs) ds o:=by
 intro w S an nF vs hb hst dF hfl hS hvl hrd
 cases hb
 refine(lf (may:=fun _=>False) hf hc hfit (cB (fun s hs=>hs.as) eb) hst dF hfl hS hvl hrd (fun _ _=>.inl hro) fun _ hf=>hf.elim).mono ?_
 rintro e w' ⟨o',v,S',bf,bs',hq,c_,hl⟩
 have:o'=o∧bs'=bs:=by cases o' <;> (obtain⟨rfl,h2⟩:=hq;cases h2;exact⟨rfl,rfl⟩)
 obtain⟨rfl,rfl⟩:=this
 exact⟨v,S',c_,⟨⟨hl.os,hl.tape.tape,hl.output,hl.size,fun b hb=>hl.old b hb fun hf=>hf⟩,hl.tape.dr⟩,hl.le,by rw[hl.st.n,hst.n],fun b o hs=>(hl.new b o hs).imp_right fun g=>g.resolve_left fun hf=>hf,hl.lt⟩

theorem wZ {P:Program}{cf:bV}{f:FuncId}{fn:Func}{t:T}{ds:List D}{bs bs':List D}{o:Out}(hf:P.funcs[f]? = some fn)(hc:ir P cf fn=some t)(hfit:cW (bl P fn) ds=true)(eb:den P t (ds++[.st bs]) (oU o (.st bs'))) :
  bC P f (.st bs) ds o (.st bs'):=by
 intro w S an nF vs hb hst dF hfl hS hvl hrd
 cases hb
 refine(lf (may:=an) hf hc hfit (cB (fun s hs=>hs.as) eb) hst dF hfl hS hvl hrd (fun _ h=>.inr h) fun _ h=>h).mono ?_
 rintro e w' ⟨o',v,S',bf,Og,hq,c_,hl⟩
 have:o'=o∧Og=bs':=by cases o' <;> (obtain⟨rfl,h2⟩:=hq;cases h2;exact⟨rfl,rfl⟩)
 obtain⟨rfl,rfl⟩:=this
 exact⟨v,S',bf,_,c_,rfl,hl.st,fun b o hs=>World.cell?_of_block (a:=⟨b,o,none⟩) (hl.old b (hS b o hs) fun hf=>hst.rH b o hf hs),hl.le,hl.os,hl.tape,hl.output,hl.size,hl.old,hl.ft,hl.new,hl.lt⟩

end
end

section
noncomputable section

def mC:Code→List Oper
 | .region _ ops _=>ops.toList
 | .seq a b | .cond _ a b=>mC a++mC b
 | .block _ b | .loop b | .scope b=>mC b
 | .rangeFunc _ _ a b=>mC a++mC b
 | _=>[]

def tmpsOf (xs:List Operand):List Nat:=xs.filterMap fun | .tmp t=>some t | _=>none

def captured (os:List Oper):List Nat:=os.flatMap fun o=>match o.op with
 | .makeFunc _ _ cs=>tmpsOf cs.toList
 | _=>[]

def LD (os:List Oper):List Nat:=os.flatMap fun o=>match o.op with
 | .store _ (.tmp t) _=>[t]
 | _=>[]

def boxed (os:List Oper):List Nat:=os.filterMap fun o=>match o.op with
 | .box _ _=>o.dst
 | _=>none

def QE (os:List Oper):List Nat:=os.filterMap fun o=>match o.op with
 | .alloc _=>o.dst
 | _=>none

def handed (os:List Oper):List Nat:=os.flatMap fun o=>match o.op with
 | .call c=>tmpsOf c.args.toList
 | _=>[]

def sL:Code→List Oper
 | .seq a b | .cond _ a b=>sL a++sL b
 | .block _ b | .loop b | .scope b=>sL b
 | .rangeFunc _ _ a b=>mC a++mC b
 | _=>[]

def aj (ro:Bool)(wr dI more:List Nat)(NI:List (Nat×Nat))(fn:Func):bV:=
  let os:=match fn.body with | some c=>mC c | none=>[]
  let cap:=captured os++(match fn.body with | some c=>(sL c).flatMap (fun o=>tmpsOf o.op.operands.toList) | none=>[])
  let st:=LD os
  { ro:=ro,wr:=wr,dI:=dI,NI:=NI,
    Uf:=(boxed os).filter fun d=>cap.contains d&&!st.contains d&&!more.contains d,
    xV:=((boxed os).filter fun d=>cap.contains d&&st.contains d)++((QE os).filter fun d=>(cap.contains d||(handed os).contains d)&&!(NI.map (·.2)).contains d)++more }

end
end

section
noncomputable section

def Out.fO:Out→Bool
 | .ret d | .dI d=>d.fO

theorem bC.yy {P:Program}{f:FuncId}{ds:List D}{o:Out}{h':D}(h:bC P f (.st []) ds o h')(hds:dH ds=true)(ho:o.fO=true)(bs:List D):eD P f (.st bs) ds o:=by
 intro w S an nF vs hb hst dF hfl hS hvl hrd
 let S0:Sets:={ mem:=S.mem,loc:=fun _=>0,n:=0,cap:=fun _=>0 }
 have yV:ck w S0 (fun _=>False) []:=⟨rfl,fun i e sz cs hi=>by simp at hi,fun b off hf=>hf.elim,fun i bH hi=>by simp at hi,fun i j x y hi=>by simp at hi,fun i z hi=>by simp at hi⟩
 refine(h w S0 (fun _=>False) [] vs rfl yV (fun l rec hl=>by cases hl) (fun _ hf=>hf.elim) hS hvl fun i v x hv hx=>(hrd i v x hv hx).free (fun _ _ h=>h) (fc hds hx)).mono ?_
 rintro e w' ⟨v,S',bf,bs',c_,_,_,hK,hle,hos,ng,hout,hsz,hold,hft,hnew,hlt⟩
 refine⟨v,{ S with mem:=S'.mem },?_,⟨⟨hos,ng.tape,hout,hsz,fun b hb=>hold b hb fun hf=>hf⟩,ng.dr⟩,⟨hle.mem,A0m _,fun _ _=>rfl,fun _ _=>rfl,rfl,fun _ _=>rfl⟩,rfl,fun b o hs=>?_,hlt⟩
 ·cases o with
  | ret d=>exact⟨c_.1,c_.2.free (fun _ _ h=>h) ho⟩
  | dI d=>exact⟨c_.1,c_.2.free (fun _ _ h=>h) ho⟩
 ·rcases hnew b o hs with g | g | g
  ·exact .inl g
  ·exact g.elim
  ·exact .inr g

end
end

section
noncomputable section

def rE (m:Option D):D:=match m with | none=>.v .nilIface | some d=>d

def DH:Code→Option (Nat×Nat×Code)
 | .seq (.region _ ops false) rest=>match ops.toList with
  | [o0,o1]=>(match o0.op,o0.guard,o0.dst,o1.op,o1.guard,o1.dst with
   | .call { callee:=.builtin .recover,args:=_,argTypes:=_ },none,some d,.assign (.tmp t),none,some d'=>if t=d then some (d,d',rest) else none
   | _,_,_,_,_,_=>none)
  | _=>none
 | _=>none

def lW (P:Program)(cf:bV)(fn:Func):Option T:=
 match fn.body with
 | none=>none
 | some c=>match DH c with
  | none=>none
  | some (d,d',rest)=>if fJ rest=false then none else if fn.ntmps<cq fn∨aO<fn.ntmps∨fn.ntmps≤d∨fn.ntmps≤d' then none else
   compile P (kG P fn.results.toList) rest 0 (cq fn+2) (((cg cf fn.ntmps (cq fn) (bl P fn)).put (some d) (.e (.sym (cq fn+1)) true)).put (some d') (.e (.sym (cq fn+1)) true)) [] fun _ _ σ=>(kG P fn.results.toList σ).map T.ret

section
variable {P:Program}

theorem A4 {cf:bV} {fn:Func} {ds bs:List D} {w:World} {S:Sets} {an may:Nat→Prop} {vs:Array Value} (hfit:cW (bl P fn) ds=true) (hst:ck w S an bs) (dF:oT w S an) (p5:∀b,may b→an b) (hfl:∀b,an b→b<w.heap.size) (hS:∀b o,S b o→b<w.heap.size) (hvl:vs.size=ds.length) (hrd:∀(i:Nat) (v:Value) (x:D),vs[i]? = some v→ds[i]? = some x→aZ w S v x)
  (hmay:∀b,an b→cf.ro=true∨may b) :
  bE w ⟨may,S,an,[]⟩ w { tmps:=vs++Array.replicate (fn.ntmps-vs.size) undef,defers:=[] } (cg cf fn.ntmps (cq fn) (bl P fn)) (ds++[.st bs]) { bh:=fun _=>0,val:=fun _=>undef,S:=S,an:=an }:=by
 obtain⟨oY,vL⟩:=eR hfit
 have qA:(bl P fn).length=cq fn:=by simp[bl,cq]
 have ea:∀o x,(cg cf fn.ntmps (cq fn) (bl P fn)).obj o=some x→o=aO∧x=.store cf (.sym (cq fn)):=by
  intro o x hx
  simp only[af.cK,cg,A0i,List.getElem?_replicate] at hx
  split at hx
  ·cases hx;exact⟨by assumption,rfl⟩
  ·split at hx <;> simp at hx
 refine⟨by simp[cg,cZ,hvl,oY],fun t=>?_,fun o x hx=>?_,fun o o' x x' b hx hx' _ _=>?_,fun o x b hx hb=>?_,hS,rfl,.refl _,rfl,A0m _,fun _ _ _=>rfl,Sets.le_refl _,fun _ _ h=>.inl h,rfl,fun l rec hl=>⟨(dF l rec hl).1,fun hm=>(dF l rec hl).2 (p5 l hm),(dF l rec hl).2⟩⟩
 ·simp only[af.eH,cg,A0i]
  rcases Nat.lt_or_ge t (bl P fn).length with ht | ht
  ·rw[A0j (by rw[cZ];exact ht)]
   cases hs:(gE 0 (bl P fn))[t]? with
   | none=>exact .bS
   | some c=>
    obtain⟨b,hb,rfl⟩:=mE hs
    have MQ:t<ds.length:=by omega
    have S8:t<vs.size:=by omega
    simp only[B0m,B0k]
    have hval:(vs++Array.replicate (fn.ntmps-vs.size) undef).getD t undef=vs[t]:=by
     rw[A0p,Array.getElem?_append_left S8,A0o S8]
     rfl
    rw[hval]
    exact .e (d:=ds[t]) (by simp[E.eval,A0j MQ,MQ]) (hrd t _ _ (A0o S8) (A0f MQ)) fun P_=>vL t b _ hb (A0f MQ) P_
  ·rw[A0l (by rw[cZ];exact ht),List.getElem?_replicate]
   split <;> exact .bS
 ·obtain⟨rfl,rfl⟩:=ea o x hx
  refine⟨bs,?_,hst,rfl⟩
  simp only[E.eval]
  rw[A0l (by omega)]
  simp[show cq fn-ds.length=0 from by omega]
 ·obtain⟨rfl,_⟩:=ea o x hx
  obtain⟨rfl,_⟩:=ea o' x' hx'
  rfl
 ·obtain⟨rfl,rfl⟩:=ea o x hx
  exact⟨(hmay b hb).imp (fun e=>⟨e,hb⟩) .inr,hfl b hb⟩

theorem B1 {fn:Func}{w:World}{S:Sets}{an may:Nat→Prop}{σ:af}{x:E}{env:List D}{ρ:cr}{a':Act}{w':World}{d':D}(p5:∀b,may b→an b)(hx:kG P fn.results.toList σ=some x)(hr:bE w ⟨may,S,an,[]⟩ w' a' σ env ρ)(he:x.eval env=some d') :
  a'.defers=[]∧∃(v:Value) (d0:D) (bs':List D) (S':Sets) (bf:Nat→Prop),(results fn a'.tmps).run P w'=.ok v w'∧d'=.aM [d0,.st bs']∧aZ w' S' v d0∧Left w S an may w' S' bf bs':=by
 unfold kG at hx
 split at hx
 ·rename_i y tP hh hy nK
  cases hx
  have bW:σ.obj aO=some (.store tP hh):=by rw[af.cK,if_pos rfl];exact nK
  obtain⟨bs',lY,cL,_⟩:=hr.cn _ _ bW
  simp only[E.eval,lY,A0d,D.ah,A0c] at he
  obtain⟨d2,h2,he⟩:=he
  obtain⟨v,h1,h3⟩:=DG hr hy h2
  cases he
  exact⟨hr.su,v,d2,bs',AQ ρ σ,ρ.an,h1,rfl,h3,Eh hr cL bW p5⟩
 ·cases hx

theorem NH {cf:bV}{f:FuncId}{fn:Func}{t:T}{cs:List D}{bs bs':List D}{m:Option D}{d0:D}(hf:P.funcs[f]? = some fn)(hc:lW P cf fn=some t)(hfit:cW (bl P fn) cs=true)(hm:(rE m).one=true)(eb:den P t (cs++[.st bs,rE m]) fun s=>s=.ret (.aM [d0,.st bs'])) :
  sq P f (.st bs) cs m (.st bs'):=by
 intro w S an nF vs u hb hst dF hfl hS hvl hrd hu
 cases hb
 unfold lW at hc
 split at hc
 ·cases hc
 rename_i c hbody
 split at hc
 ·cases hc
 rename_i d d' rest hsplit
 split at hc
 ·cases hc
 rename_i J_
 have J_:fJ rest=true:=by simpa using J_
 split at hc
 ·cases hc
 rename_i hnt
 rw[not_or,not_or,not_or] at hnt
 obtain⟨hn1,hn2,hn3,hn4⟩:=hnt
 obtain⟨oY,vL⟩:=eR hfit
 have qA:(bl P fn).length=cq fn:=by simp[bl,cq]
 obtain⟨id,ops,o0,o1,as,ts,rfl,M4,TP,h01,h02,h10,h11,h12⟩:∃id ops o0 o1 as ts,c=.seq (.region id ops false) rest∧ops.toList=[o0,o1]∧o0.op=.call { callee:=.builtin .recover,args:=as,argTypes:=ts }∧o0.guard=none∧o0.dst=some d∧o1.op=.assign (.tmp d)∧o1.guard=none∧o1.dst=some d':=by
  unfold DH at hsplit
  split at hsplit
  ·rename_i id ops rest'
   split at hsplit
   ·rename_i o0 o1 M4
    split at hsplit
    ·rename_i as ts d1 t1 d2 g1 g2 g3 g4 g5 g6
     split at hsplit
     ·rename_i MQ
      cases hsplit
      exact⟨id,ops,o0,o1,as,ts,rfl,M4,g1,g2,g3,by rw[g4,MQ],g5,g6⟩
     ·cases hsplit
    ·cases hsplit
   ·cases hsplit
  ·cases hsplit
 have hoa:ops=#[o0,o1]:=by rw[←B0g (xs:=ops),M4]
 subst hoa
 have hstart:=A4 (may:=an) (cf:=cf) hfit hst dF (fun _ h=>h) hfl hS hvl hrd fun _ h=>.inr h
 have Nj:cs++[.st bs,rE m]=(cs++[.st bs])++[rE m]:=by simp
 have fH:∃v u',aZ w S v (rE m)∧settle u'=.returning∧∀(c₀:Frame) (fs:List Frame),c₀.mode=u→(match recoverD (c₀ :: fs) with | some (v',cs')=>v'=v∧cs'={ c₀ with mode:=u' } :: fs | none=>v=.nilIface∧u'=u):=by
  cases m with
  | none=>
   refine⟨.nilIface,u,.v rfl,?_,fun c₀ fs hm=>?_⟩
   ·have hu:u=.returning:=hu
    rw[hu];rfl
   ·have hu:u=.returning:=hu
    subst hu
    simp[recoverD,hm]
  | some d=>
   obtain⟨v,hv,hu⟩:=hu
   refine⟨v,.panicking [{ v,recovered:=true }],hv,rfl,fun c₀ fs hm=>?_⟩
   subst hu
   simp[recoverD,hm]
 obtain⟨v,u',hv,PS,fH⟩:=fH
 refine callsD_of_wpS hf hbody fun c₀ fs Rv=>?_
 have hlen:(cg cf fn.ntmps (cq fn) (bl P fn)).tmps.length=fn.ntmps:=by simp[cg,cZ,qA];omega
 have Ro:=hstart.env (prefix_append _ [rE m])
 rw[←Nj] at Ro
 have rP:∀{ρ:cr},aZ w ρ.S v (rE m)→cu w ρ (cs++[.st bs,rE m]) v (.e (.sym (cq fn+1)) true):=by
  intro ρ sw
  refine .e (d:=rE m) ?_ sw fun _=>hm
  simp only[E.eval]
  rw[A0l (by omega)]
  simp[show cq fn+1-cs.length=1 from by omega]
 have EB:=(Ro.put (dst:=some d) (v:=v) (fun d2 e=>by cases e;rw[hlen];exact Nat.lt_of_not_le hn3) (rP hv)).put (dst:=some d') (v:=v) (fun d2 e=>by cases e;simp only[af.ep,List.length_set];rw[hlen];exact Nat.lt_of_not_le hn4) (rP hv)
 have nk:lz fn.ntmps (((cg cf fn.ntmps (cq fn) (bl P fn)).put (some d) (.e (.sym (cq fn+1)) true)).put (some d') (.e (.sym (cq fn+1)) true)):=⟨by simp[af.ep,hlen],by simp[af.ep,cg]⟩
 have y_:=j_ (P:=P) (N:=fn.ntmps) rest (B:=fun w1 X1=>w1=w∧X1=⟨an,S,an,[]⟩) (rd:=none) (nd:=0) (fL:=fun w' a' d'=>a'.defers=[]∧∃(v:Value) (d0:D) (bs':List D) (S':Sets) (bf:Nat→Prop),(results fn a'.tmps).run P w'=.ok v w'∧d'=.aM [d0,.st bs']∧aZ w' S' v d0∧Left w S an an w' S' bf bs')
  (rv:=kG P fn.results.toList) (fun w1 X1 hB σ x hx env ρ a' w' d' hr he=>by obtain⟨rfl,rfl⟩:=hB;exact B1 (fun _ h=>h) hx hr he) (fun l e=>by cases e) (.inl J_) 0 _ [] _ t (cs++[.st bs,rE m]) (by rw[show(cs++[D.st bs,rE m]).length=cq fn+2 from by simp;omega];exact hc) _ _ w w _ _ ⟨rfl,rfl⟩ eb EB nk (fun id e he=>by simp[iZ] at he)
 have y_:=wpIn_wide.1 y_
 have P5:∀(d1:D),(.ret d1:eV)=.ret (.aM [d0,.st bs'])→∀(w':World) (a':Act),(a'.defers=[]∧∃(v:Value) (d0:D) (bs':List D) (S':Sets) (bf:Nat→Prop),(results fn a'.tmps).run P w'=.ok v w'∧d1=.aM [d0,.st bs']∧aZ w' S' v d0∧Left w S an an w' S' bf bs') →
   a'.defers=[]∧∃u'',{ c₀ with mode:=u' } :: fs={ c₀ with mode:=u'' } :: fs∧∃v,(results fn a'.tmps).run P w'=.ok v w'∧∃(v1:Value) (S':Sets) (bf:Nat→Prop) (ew:List D),Ending.returned v=.returned v1∧settle u''=.returning∧D.st bs'=.st ew∧Left w S an an w' S' bf ew:=by
  rintro d1 h1 w' a' ⟨g1,v2,d2,gi,S',bf,g2,rfl,g3,g4⟩
  cases h1
  exact⟨g1,u',rfl,v2,g2,v2,S',bf,bs',rfl,PS,rfl,g4⟩
 refine wpS_seq (wpS_region ?_)
 rw[show List.range (#[o0,o1]:Array Oper).size=[0,1] from rfl]
 have hw0:∀tm,Region.wanted o0 tm=true:=fun tm=>by simp[Region.wanted,h01]
 have hw1:∀tm,Region.wanted o1 tm=true:=fun tm=>by simp[Region.wanted,h11]
 have OI:∀a:Act,(execOp a.eval o0).run P w=.ok .recover w:=by
  intro a
  unfold execOp
  rw[TP]
  rfl
 have Dg:∀a:Act,(execOp a.eval o1).run P w=.ok (.value (a.eval (.tmp d))) w:=by
  intro a
  unfold execOp
  rw[h10]
  rfl
 have I9:∀cs',cs'=({ c₀ with mode:=u' }:Frame) :: fs→wpOpsS P #[o0,o1] (Exit.thenS (rest.wpS P (bodyPostS P fn c₀ fs fun e u' w'=>∃(v:Value) (S':Sets) (bf:Nat→Prop) (ew:List D),e=.returned v∧settle u'=.returning∧D.st bs'=.st ew∧Left w S an an w' S' bf ew)) (bodyPostS P fn c₀ fs fun e u' w'=>∃(v:Value) (S':Sets) (bf:Nat→Prop) (ew:List D),e=.returned v∧settle u'=.returning∧D.st bs'=.st ew∧Left w S an an w' S' bf ew)) [1] (({ tmps:=vs++Array.replicate (fn.ntmps-vs.size) undef,defers:=[] }:Act).put o0.dst v) cs' w:=by
  rintro cs' rfl
  simp only[wpOpsS,show(#[o0,o1]:Array Oper)[1]? = some o1 from rfl,hw1,if_true,Dg,Oper.upon_value]
  have bz:(({ tmps:=vs++Array.replicate (fn.ntmps-vs.size) undef,defers:=[] }:Act).put o0.dst v).eval (.tmp d)=v:=by
   rw[h02]
   show(({ tmps:=vs++Array.replicate (fn.ntmps-vs.size) undef,defers:=[] }:Act).put (some d) v).tmps.getD d undef=v
   rw[Act.tE _ _ _ (by simp;omega),if_pos rfl]
  rw[bz,h02,h12]
  refine wpS_of_wp (wp_mono y_ fun e a' w' h=>?_)
  cases e with
  | normal=>
   obtain⟨w1,X1,env',σ',ρ',t',⟨hw1,TJ⟩,_,hk,dY,hr',_⟩:=h
   rw[hw1,TJ] at hr'
   obtain⟨x,hx,rfl⟩:=A0b.1 hk
   obtain⟨d1,he,hq⟩:=dY
   exact P5 d1 hq w' a' (B1 (fun _ h=>h) hx hr' he)
  | ret=>
   obtain⟨d1,hq,h1⟩:=h
   exact P5 d1 hq w' a' h1
  | exit id=>obtain⟨_,_,e,_,_,_,he,_⟩:=h;simp[iZ] at he
  | goto l=>exact h.elim
  | panic c=>
   obtain⟨_,_,σ,env,ρ,v,d,bs',_,rfl,hr,hrd,cL,uf,_,_,hq⟩:=h
   cases hq
  | outgrown=>exact h.elim
 rw[wpOpsS]
 simp only[show(#[o0,o1]:Array Oper)[0]? = some o0 from rfl,hw0,if_true,OI]
 have fH:=fH c₀ fs Rv
 split
 ·rename_i v' cs' Te
  rw[Te] at fH
  obtain⟨rfl,rfl⟩:=fH
  exact I9 _ rfl
 ·rename_i Te
  rw[Te] at fH
  obtain⟨rfl,jf⟩:=fH
  exact I9 (c₀ :: fs) (by rw[jf,←Rv])

end
end
end

section
noncomputable section

/-! ## a frame leaves with marks of loops ahead of what it has deferred -/

def iU (P:Program)(fn:Func)(tmps:Array Value)(R:Ending→World→Prop):List Deferred→FrameMode→World→Prop
 | [],u,w=>Leaves P fn tmps R [] u w
 | d :: ds,u,w=>Leaves P fn tmps R (d :: ds) u w∨(u≠.run∧∃r w',d.target=.collected r∧(Instr.takeDeferred r).run P w=.ok [] w'∧iU P fn tmps R ds u w')

theorem iU.of {P:Program}{fn:Func}{tmps:Array Value}{R:Ending→World→Prop}{ds:List Deferred}{u:FrameMode}{w:World}(h:Leaves P fn tmps R ds u w):iU P fn tmps R ds u w:=by
 cases ds with
 | nil=>exact h
 | cons d ds=>exact .inl h

theorem qT {P:Program}{fn:Func}{tmps:Array Value}{R:Ending→World→Prop}:∀(ds:List Deferred) (u:FrameMode) (w:World) (fr:Frame) (cs:List Frame),fr.mode=u→fr.defers=ds→fr.tmps=tmps→P.funcs[fr.fn]? = some fn→fr.kind=.normal →
  iU P fn tmps R ds u w→∃e w' fr',R e w'∧Comes P (lone fr cs w) (lone fr' cs w') e∧fr'.fn=fr.fn∧fr'.leaving P w' e
 | [],u,w,fr,cs,h1,h2,h3,h4,h5,h=>leaves_steps [] u w fr cs h1 h2 h3 h4 h5 h
 | d :: ds,u,w,fr,cs,h1,h2,h3,h4,h5,.inl h=>leaves_steps (d :: ds) u w fr cs h1 h2 h3 h4 h5 h
 | d :: ds,u,w,fr,cs,h1,h2,h3,h4,h5,.inr ⟨hu,r,w',adE,th,XO⟩=>by
  have hs:=step_collected (cs:=cs) (h1 ▸ hu) h2 adE th
  obtain⟨e,w2,fr2,g1,g2,g3,g4⟩:=qT ds u w' { fr with defers:=[]++ds } cs h1 rfl h3 h4 h5 XO
  exact⟨e,w2,fr2,g1,Comes.of_steps (.one hs) g2,g3,g4⟩

def BD (P:Program)(fn:Func)(R:Ending→World→Prop):Exit→Act→World→Prop
 | .normal,a,w | .ret,a,w=>iU P fn a.tmps R a.defers .returning w
 | .panic chain,a,w=>iU P fn a.tmps R a.defers (.panicking chain) w
 | .outgrown,_,w=>R .outgrown w
 | _,_,_=>False

theorem CZ {P:Program} {f:FuncId} {fn:Func} {c:Code} {args:Array Value} {w:World} {R:Ending→World→Prop} (hf:P.funcs[f]? = some fn) (hb:fn.body=some c)
  (h:c.wp P (BD P fn R) { tmps:=args++Array.replicate (fn.ntmps-args.size) undef,defers:=[] } w):Calls P f args w R:=by
 intro cs
 let b:Frame:={ (default:Frame) with fn:=f,kind:=.normal }
 have Ty:Frame.enter P f args .normal=b.at { tmps:=args++Array.replicate (fn.ntmps-args.size) undef,defers:=[] } [.code c]:=by
  simp[Frame.enter,Frame.at,hf,hb,b]
 obtain⟨e,a',w',hq,Nx⟩:=h b [] cs
 rw[←Ty] at Nx
 have out:∀todo (m:FrameMode),iU P fn a'.tmps R a'.defers m w'→∃e w2 fr',R e w2∧Comes P (lone { b.at a' todo with mode:=m } cs w') (lone fr' cs w2) e∧fr'.fn=f∧fr'.leaving P w2 e:=fun todo m hl=>
  qT a'.defers m w' { b.at a' todo with mode:=m } cs rfl rfl rfl hf rfl hl
 cases e with
 | normal=>
  obtain⟨e',w2,fr',hR,hs,hfn,hl⟩:=out [] .returning hq
  exact⟨e',w2,fr',hR,Comes.of_steps (Steps.trans Nx (.one step_end)) hs,hfn,hl⟩
 | ret=>
  obtain⟨todo,hs0⟩:=Nx
  obtain⟨e',w2,fr',hR,hs,hfn,hl⟩:=out todo .returning hq
  exact⟨e',w2,fr',hR,Comes.of_steps hs0 hs,hfn,hl⟩
 | panic chain=>
  obtain⟨todo,hs0⟩:=Nx
  obtain⟨e',w2,fr',hR,hs,hfn,hl⟩:=out todo (.panicking chain) hq
  exact⟨e',w2,fr',hR,Comes.of_steps hs0 hs,hfn,hl⟩
 | exit id=>exact hq.elim
 | goto l=>exact hq.elim
 | outgrown=>exact⟨.outgrown,w',b,hq,Nx.resolve_left (by simp[b]),rfl,trivial⟩

theorem qU {P:Program}{fn:Func}{tmps:Array Value}{R:Ending→World→Prop}{u:FrameMode}(hu:u≠.run){ds:List Deferred}:∀(cs:List Nat) (w:World),cs.Nodup→(∀D,D∈cs→w.heap[D]? = some (.deferred (some []))) →
  (∀w',Ig w w' cs→Leaves P fn tmps R ds u w')→iU P fn tmps R ((cs.map fun D=>({ target:=.collected D,args:=#[] }:Deferred))++ds) u w
 | [],w,_,_,h=>.of (h w ⟨fun _ _=>rfl,rfl,rfl,.refl _,rfl,fun _ _=>rfl⟩)
 | D :: cs,w,hn,hD,h=>by
  rw[List.nodup_cons] at hn
  have hd:=hD D (by simp)
  refine .inr ⟨hu,D,_,rfl,run_takeDeferred hd,qU hu cs _ hn.2 (fun D' TN=>?_) fun w' hm=>h w' ?_⟩
  ·rw[World.putObj_heap_other (fun e=>by subst e;exact hn.1 TN)]
   exact hD D' (by simp[TN])
  ·refine⟨fun b hb=>?_,hm.size.trans (by simp),hm.os,⟨hm.tape.tape,hm.tape.dr⟩,hm.output,fun b o=>(hm.cell b o).trans (vW hd _ b o)⟩
   simp only[B0t,not_or] at hb
   rw[hm.other b hb.2,World.putObj_heap_other hb.1]

def E7:Code→Option (FuncId×List Operand×Nat)
 | .region _ ops false=>match ops.toList with
  | [o0,o1]=>(match o0.op,o0.guard,o0.dst,o1.op,o1.guard,o1.dst with
   | .makeFunc (.func f) first bF,none,some t,.defer { callee:=.value (.tmp t'),args:=as,argTypes:=_ },none,none=>if t=t'∧first.size=0∧as.size=0 then some (f,bF.toList,t) else none
   | _,_,_,_,_,_=>none)
  | _=>none
 | _=>none

def xC:List Nat→Nat→Nat→Option Nat
 | [],_,_=>none
 | x :: r,t,i=>if x=t then some i else xC r t (i+1)

theorem vr:∀{l:List Nat} {t i j:Nat},xC l t i=some j→i≤j∧l[j-i]? = some t
 | [],_,_,_,h=>by simp[xC] at h
 | x :: r,t,i,j,h=>by
  simp only[xC] at h
  split at h
  ·rename_i e;cases h;exact⟨A0m _,by simp[e]⟩
  ·obtain⟨h1,h2⟩:=vr h
   refine⟨by omega,?_⟩
   rw[show j-i=(j-(i+1))+1 from by omega]
   simpa using h2

def wI (P:Program)(keep:List Nat):ResultVar→Option E
 | .cell t ty=>match xC keep t 0,iy P ty,o6 P ty with
  | some i,some agg,some n=>some (.ld agg n (.sym keep.length) (.sym i))
  | _,_,_=>none
 | _=>none

def pN (P:Program)(keep:List Nat):List ResultVar→Option E
 | []=>some .ai
 | r :: rs=>match wI P keep r,pN P keep rs with
  | some x,some y=>some (.ah x y)
  | _,_=>none

def B3 (P:Program)(keep:List Nat)(rs:List ResultVar):Option E:=
 match rs with
 | [r]=>wI P keep r
 | rs=>pN P keep rs

def Lv:List E→E
 | []=>.ai
 | x :: r=>.ah x (Lv r)

theorem uq {env:List D}:∀{l:List E} {d:D},(Lv l).eval env=some d→∃kd,aq env l=some kd∧d=.aM kd
 | [],d,h=>by simp[Lv,E.eval] at h;exact⟨[],rfl,h.symm⟩
 | x :: r,d,h=>by
  simp only[Lv,E.eval,A0c] at h
  obtain⟨d1,h1,d2,h2,h3⟩:=h
  obtain⟨kd,h4,rfl⟩:=uq h2
  simp only[D.ah] at h3
  cases h3
  exact⟨d1 :: kd,by simp[aq,h1,h4],rfl⟩

def VW (keep:List Nat)(σ:af):Option E:=
 match qX σ,σ.hs with
 | some ks,some (.store _ h)=>if gH σ=keep then some (.ah (Lv ks) (.ah h .ai)) else none
 | _,_=>none

def tN (P:Program)(fn:Func)(keep:List Nat):Code→Nat→af→Option T
 | .seq x y,u,σ=>match E7 x with
  | some (f,bF,t)=>(match toEAll (bF.map σ.uG),σ.hs,B3 P keep fn.results.toList with
   | some cs,some (.store cf h),some res=>if bu P f=true∧t<σ.tmps.length then
     (compile P (VW keep) y 0 u (({ σ with hs:=some (.store { cf with keep:=keep } h) }:af).put (some t) .bS) [] fun _ _ σ=>(VW keep σ).map T.ret).map (.E5 f keep cs res) else none
   | _,_,_=>none)
  | none=>if fJ x=false then none else compile P (kG P fn.results.toList) x 0 u σ [] fun _ u σ=>tN P fn keep y u σ
 | _,_,_=>none

def gz (P:Program)(cf:bV)(fn:Func)(keep:List Nat):Option T:=
 match fn.body with
 | none=>none
 | some c=>if fn.ntmps<cq fn∨aO<fn.ntmps then none else tN P fn keep c (cq fn+1) (cg cf fn.ntmps (cq fn) (bl P fn))

section
variable {P:Program}

theorem C2 {f:FuncId}{vals:Array Value}{w:World}(dP:bu P f=true):(invoke (.fn (.func f) vals) #[]).run P w=.ok (.enter f vals) w:=by
 unfold bu at dP
 split at dP
 ·rename_i fn hf
  simp only[A0g,Bool.not_eq_true',Option.isSome_iff_ne_none] at dP
  have I8:fn.body.isNone=false:=by
   cases hb:fn.body with
   | none=>exact absurd hb dP.2
   | some _=>rfl
  simp only[invoke,A0k,A0n,A0e,callFunc,run_program,hf,dP.1,I8,B0f,if_false]
  simp
 ·cases dP

theorem xQ {w:World}{S:Sets}{an:Nat→Prop}{bs:List D}{a:Act}{keep:List Nat}{kd:List D}(hst:ck w S an bs)(hk:lX w S a keep kd){r:ResultVar}{x:E}{d:D}(hx:wI P keep r=some x)(he:x.eval (kd++[.st bs])=some d):∃v,(iE a.tmps r).run P w=.ok v w∧aZ w S v d:=by
 unfold wI at hx
 split at hx
 ·rename_i t ty
  split at hx
  ·rename_i i agg n hi hg hn
   cases hx
   obtain⟨_,hi⟩:=vr hi
   rw[Nat.sub_zero] at hi
   have uX:i<kd.length:=by rw[hk.1];exact(A0a.1 hi).1
   have h1:(kd++[D.st bs])[keep.length]? = some (.st bs):=by
    rw[A0l (by rw[hk.1];exact A0m _),hk.1]
    simp
   have h2:(kd++[D.st bs])[i]? = some kd[i]:=by
    rw[A0j uX]
    exact A0f uX
   simp only[E.eval,h1,h2,A0d] at he
   have FF:=hk.2 i t _ hi (A0f uX)
   obtain⟨b,off,u,hv,hrun,J7,_⟩:=Cn hg hn FF (.inr hst) he
   refine⟨u,?_,J7⟩
   simp only[iE,hv,asAddr,A0k,A0n,A0e,hrun]
  ·cases hx
 ·cases hx

theorem vz {w:World}{S:Sets}{an:Nat→Prop}{bs:List D}{a:Act}{keep:List Nat}{kd:List D}(hst:ck w S an bs)(hk:lX w S a keep kd):∀{rs:List ResultVar} {x:E} {d:D},pN P keep rs=some x→x.eval (kd++[.st bs])=some d→∃vs ds,(rs.mapM (iE a.tmps)).run P w=.ok vs w∧d=.aM ds∧vs.length=ds.length∧vs.length=rs.length∧∀(i:Nat) (v:Value) (d:D),vs[i]? = some v→ds[i]? = some d→aZ w S v d
 | [],x,d,hx,he=>by
  simp[pN] at hx
  subst hx
  simp[E.eval] at he
  exact⟨[],[],rfl,he.symm,rfl,rfl,by simp⟩
 | r :: rs,x,d,hx,he=>by
  simp only[pN] at hx
  split at hx
  ·rename_i y z hy hz
   cases hx
   simp only[E.eval,A0c] at he
   obtain⟨d1,OR,d2,Kj,he⟩:=he
   obtain⟨v,h1,h3⟩:=xQ hst hk hy OR
   obtain⟨vs,ds,h4,rfl,h6,h6',h7⟩:=vz hst hk hz Kj
   simp only[D.ah] at he
   cases he
   refine⟨v :: vs,d1 :: ds,by simp only[List.mapM_cons,A0k,h1,A0e,h4,A0n],rfl,by simp[h6],by simp[h6'],fun i v' d' hv hd=>?_⟩
   cases i with
   | zero=>simp at hv hd;subst hv hd;exact h3
   | succ i=>exact h7 i v' d' (by simpa using hv) (by simpa using hd)
  ·cases hx

theorem JF {w:World}{S:Sets}{an:Nat→Prop}{bs:List D}{a:Act}{keep:List Nat}{kd:List D}(hst:ck w S an bs)(hk:lX w S a keep kd){fn:Func}{x:E}{d:D}(hx:B3 P keep fn.results.toList=some x)(he:x.eval (kd++[.st bs])=some d):∃v,(results fn a.tmps).run P w=.ok v w∧aZ w S v d:=by
 unfold B3 at hx
 split at hx
 ·rename_i r hr
  obtain⟨v,h1,h3⟩:=xQ hst hk hx he
  refine⟨v,?_,h3⟩
  have:=mi (P:=P) (w:=w) fn a.tmps (vs:=[v]) (by rw[hr];simp only[List.mapM_cons,List.mapM_nil,A0k,h1,A0e,A0n])
  simpa using this
 ·rename_i hne
  obtain⟨vs,ds,h1,rfl,h3,h3',h4⟩:=vz hst hk hx he
  have:=mi (P:=P) (w:=w) fn a.tmps h1
  rw[dif_neg ?_] at this
  ·exact⟨_,this,.aM (by simpa using h3) fun i v d hv hd=>h4 i v d (by simpa using hv) hd⟩
  ·intro hl
   rw[hl] at h3'
   match jE:fn.results.toList,h3' with
   | [r],_=>exact hne r jE

def QJ (w:World)(S:Sets)(an:Nat→Prop)(Qd Qp:D→D→Prop)(e:Ending)(w':World):Prop:=
 ∃(o:Out) (v:Value) (S':Sets) (bf:Nat→Prop) (bs':List D),(match o with | .ret d=>Qd d (.st bs') | .dI d=>Qp d (.st bs'))∧o.ends w' S' v e∧Left w S an an w' S' bf bs'

theorem KE {w:World} {S S1:Sets} {an:Nat→Prop} {Qd Qp:D→D→Prop} {fn:Func} {a':Act} {w':World} {σ':af} {env':List D} {ρ':cr} {f:FuncId} {vals:Array Value} {cU kd ew:List D} {m:Option D} {cG d':D} {res:E} {keep:List Nat} {u:FrameMode}
  {zK:List Deferred} (hr:bE w ⟨an,S1,an,zK⟩ w' a' σ' env' ρ') (hst:ck w' ρ'.S ρ'.an ew) (bW:∃cf x,σ'.obj aO=some (.store cf x)) (jF:S≤S1) (Hi:∀b o,S1 b o→S b o∨w.heap.size≤b∨an b)
  (dP:bu P f=true) (hvl:vals.size=cU.length) (hrd:∀(i:Nat) (v:Value) (x:D),vals[i]? = some v→cU[i]? = some x→aZ w' ρ'.S v x) (hk:lX w' ρ'.S a' keep kd) (hu:match m with | none=>u=.returning | some d=>∃v,aZ w' ρ'.S v d∧u=.panicking [{ v,recovered:=false }]) (hspec:sq P f (.st ew) cU m cG) (hres:B3 P keep fn.results.toList=some res) (bz:res.eval (kd++[cG])=some d') (hq:Qd d' cG)  :
  Leaves P fn a'.tmps (QJ w S an Qd Qp) [{ target:=.fn (.func f) vals,args:=#[] }] u w':=by
 obtain⟨cf,x,bW⟩:=bW
 have hfl:∀b,ρ'.an b→b<w'.heap.size:=eC hr bW
 have G1:u≠.run:=by
  cases m with
  | none=>have hu:u=.returning:=hu;rw[hu];simp
  | some d=>obtain⟨v,_,hu⟩:=hu;rw[hu];simp
 refine leaves_cons G1 (C2 dP) ((hspec w' ρ'.S ρ'.an ew vals u rfl hst (hr.ju bW) hfl hr.cells hvl hrd hu).mono ?_)
 rintro e u' w'' ⟨v,S'',TW,Og,rfl,iX,rfl,hl⟩
 simp only
 rw[iX]
 have hK:bp ρ'.S w' w'':=fun b o hs=>World.cell?_of_block (a:=⟨b,o,none⟩) (hl.old b (hr.cells b o hs) fun hf=>hst.rH b o hf hs)
 have hk':lX w'' S'' a' keep kd:=⟨hk.1,fun i s d h1 h2=>(hk.2 i s d h1 h2).keep hK hl.le⟩
 obtain⟨rv,hrun,kE⟩:=JF hl.st hk' hres bz
 refine⟨rv,hrun,.ret d',rv,S'',TW,Og,hq,⟨rfl,kE⟩,hl.st,Sets.le_trans jF (Sets.le_trans hr.sub hl.le),hl.os.trans hr.os,hl.tape.trans hr.tape,hl.output.trans hr.output,B0e hr.grown hl.size,fun b hb hnf=>?_,fun b hb=>?_,fun b o hs=>?_,hl.lt⟩
 ·have hown:¬ρ'.an b:=fun hf=>by
   rcases(hr.own aO _ b bW hf).1 with g | g | g
   ·exact hnf g.2
   ·exact absurd hb (Nat.not_lt.2 g)
   ·exact hnf g
  exact(hl.old b (A0s hb hr.grown) hown).trans (hr.old b hb hnf)
 ·obtain⟨g1,g2⟩:=hl.ft b hb
  refine⟨?_,g2⟩
  rcases g1 with g1 | g1
  ·rcases(hr.own aO _ b bW g1).1 with g | g | g
   ·exact .inl g.2
   ·exact .inr g
   ·exact .inl g
  ·exact .inr (B0e hr.grown g1)
 ·have pq:=hr.grown
  rcases hl.new b o hs with g | g | g
  ·rcases hr.new b o g with g | g | g
   ·rcases Hi b o g with g | g | g
    ·exact .inl g
    ·exact .inr (.inr g)
    ·exact .inr (.inl g)
   ·exact .inr (.inr g)
   ·exact .inr (.inl g)
  ·rcases(hr.own aO _ b bW g).1 with g | g | g
   ·exact .inr (.inl g.2)
   ·exact .inr (.inr g)
   ·exact .inr (.inl g)
  ·exact .inr (.inr (B0e pq g))

theorem bE.VP {w0 w:World}{X:gB}{a:Act}{σ:af}{env:List D}{ρ:cr}(h:bE w0 X w a σ env ρ){cf tP:bV}{x:E}(hs:σ.hs=some (.store cf x))(hro:tP.ro=cf.ro):bE w0 X w a { σ with hs:=some (.store tP x) } env ρ:=by
 have bW:σ.obj aO=some (.store cf x):=by rw[af.cK,if_pos rfl];exact hs
 have ea:∀o y,af.obj { σ with hs:=some (.store tP x) } o=some y→∃y',σ.obj o=some y'∧(∀b,bw ρ o y b↔bw ρ o y' b)∧y.ro=y'.ro∧(fI w ρ env o y'→fI w ρ env o y):=by
  intro o y hy
  by_cases ho:o=aO
  ·subst ho
   simp only[af.cK,if_true,A0u] at hy
   subst hy
   exact⟨_,bW,fun _=>Iff.rfl,hro,fun h=>h⟩
  ·refine⟨y,?_,fun _=>Iff.rfl,rfl,fun h=>h⟩
   simp only[af.cK,if_neg ho] at hy ⊢
   exact hy
 refine⟨h.size,h.tmps,fun o y hy=>?_,fun o o' y y' b h1 h2 lY q9=>?_,fun o y b hy hb=>?_,h.cells,h.os,h.tape,h.output,h.grown,h.old,h.sub,h.new,h.su,h.hold⟩
 ·obtain⟨y',g1,_,_,g2⟩:=ea o y hy
  exact g2 (h.cn o y' g1)
 ·obtain⟨z,g1,g2,_⟩:=ea o y h1
  obtain⟨z',g3,g4,_⟩:=ea o' y' h2
  exact h.inj o o' z z' b g1 g3 ((g2 b).1 lY) ((g4 b).1 q9)
 ·obtain⟨z,g1,g2,g3,_⟩:=ea o y hy
  rw[g3]
  exact h.own o z b g1 ((g2 b).1 hb)

theorem qf {w:World}{S:Sets}{an:Nat→Prop}{fn:Func}{keep:List Nat}{Qd Qp:D→D→Prop}:∀(c:Code) {σ:af} {t:T} {env:List D} {a:Act} {w1:World} {ρ:cr},tN P fn keep c env.length σ=some t→den P t env (Ak Qd Qp)→bE w ⟨an,S,an,[]⟩ w1 a σ env ρ→lz fn.ntmps σ→c.wp P (BD P fn (QJ w S an Qd Qp)) a w1
 | .seq x y,σ,t,env,a,w1,ρ,hc,eb,hr,hl=>by
  simp only[tN] at hc
  split at hc
  ·rename_i f bF t0 Di
   split at hc
   ·rename_i cs cf h res hcs nK hres
    split at hc
    ·rename_i tA
     obtain⟨dP,Rj⟩:=tA
     obtain⟨tB,hB,rfl⟩:=A0b.1 hc
     obtain⟨cU,za,ji,hdB⟩:=eb
     obtain⟨id,o0,o1,first,fD,as,ts,rfl,TP,h01,h02,h10,h11,h12,rfl,Ki,ha0⟩:∃id o0 o1 first fD as ts,x=.region id #[o0,o1] false∧o0.op=.makeFunc (.func f) first fD∧o0.guard=none∧o0.dst=some t0∧o1.op=.defer { callee:=.value (.tmp t0),args:=as,argTypes:=ts }∧o1.guard=none∧o1.dst=none∧bF=fD.toList∧first.size=0∧as.size=0:=by
      unfold E7 at Di
      split at Di
      ·rename_i id ops
       split at Di
       ·rename_i o0 o1 M4
        split at Di
        ·rename_i f' first fD t1 t2 as ts g1 g2 g3 g4 g5 g6
         split at Di
         ·rename_i uZ
          obtain⟨rfl,Ki,ha0⟩:=uZ
          cases Di
          have hoa:ops=#[o0,o1]:=by rw[←B0g (xs:=ops),M4]
          exact⟨id,o0,o1,first,fD,as,ts,by rw[hoa],g1,g2,g3,g4,g5,g6,rfl,Ki,ha0⟩
         ·cases Di
        ·cases Di
       ·cases Di
      ·cases Di
     obtain rfl:first=#[]:=Array.eq_empty_of_size_eq_zero Ki
     obtain rfl:as=#[]:=Array.eq_empty_of_size_eq_zero ha0
     obtain⟨ds',kW,eM,hrd⟩:=toEAll_rd (w:=w1) (ρ:=ρ) (env:=env) (vs:=(fD.map a.eval).toList) hcs (by simp) (fun i v s fQ hs'=>by
      simp only[Array.toList_map,A0v,A0b] at fQ hs'
      obtain⟨x,hx',rfl⟩:=fQ
      obtain⟨y,hy',rfl⟩:=hs'
      rw[hx'] at hy'
      cases hy'
      exact uF hr x)
     rw[za] at kW
     cases kW
     have hvl:(fD.map a.eval).size=cU.length:=by simpa using eM
     refine wp_seq (wp_region_list ?_)
     have hw0:∀tm,Region.wanted o0 tm=true:=fun tm=>by simp[Region.wanted,h01]
     have hw1:∀tm,Region.wanted o1 tm=true:=fun tm=>by simp[Region.wanted,h11]
     have XM:(execOp a.eval o0).run P w1=.ok (.value (.func (.func f) #[] (fD.map a.eval))) w1:=by
      unfold execOp
      rw[TP]
      simp[Instr.makeFunc]
     have XH:t0<a.tmps.size:=by rw[hr.size];exact Rj
     have bz:(a.put (some t0) (.func (.func f) #[] (fD.map a.eval))).eval (.tmp t0)=.func (.func f) #[] (fD.map a.eval):=by
      show(a.put (some t0) (.func (.func f) #[] (fD.map a.eval))).tmps.getD t0 undef=_
      rw[Act.tE _ _ _ XH,if_pos rfl]
     have XL:(execOp (a.put (some t0) (.func (.func f) #[] (fD.map a.eval))).eval o1).run P w1=.ok (.defer { target:=.fn (.func f) (fD.map a.eval),args:=#[] }) w1:=by
      unfold execOp
      rw[h10]
      simp only[resolve,bz,Deferred.ofValue,A0k,A0n,A0e]
      simp
     show wpList P #[o0,o1] _ [o0,o1] a w1
     unfold wpList
     rw[if_pos (hw0 _)]
     refine .inl ?_
     unfold Oper.wp
     rw[XM]
     simp only[Oper.upon_value,h02]
     unfold wpList
     rw[if_pos (hw1 _)]
     refine .inl ?_
     unfold Oper.wp
     rw[XL]
     simp only[Oper.upon_defer,h12]
     unfold wpList
     have adT:a.defers=[]:=hr.su
     have Td:({ cf with keep:=keep }:bV).ro=cf.ro:=rfl
     have Dg:=(hr.VP (tP:={ cf with keep:=keep }) nK Td).put (dst:=some t0) (v:=.func (.func f) #[] (fD.map a.eval)) (sv:=.bS) (fun d e=>by cases e;exact Rj) .bS
     have zk:bE w ⟨an,ρ.S,an,[{ target:=.fn (.func f) (fD.map a.eval),args:=#[] }]⟩ w1 (Act.put { (a.put (some t0) (.func (.func f) #[] (fD.map a.eval))) with defers:={ target:=.fn (.func f) (fD.map a.eval),args:=#[] } :: (a.put (some t0) (.func (.func f) #[] (fD.map a.eval))).defers } none undef) (({ σ with hs:=some (.store { cf with keep:=keep } h) }:af).put (some t0) .bS) env ρ:=by
      refine⟨Dg.size,Dg.tmps,Dg.cn,Dg.inj,Dg.own,Dg.cells,Dg.os,Dg.tape,Dg.output,Dg.grown,Dg.old,Sets.le_refl _,fun b o hs=>.inl hs,?_,fun l rec hl'=>Dg.hold l rec (by rw[←Dg.sub.hold];exact hl')⟩
      show _ :: a.defers=_
      rw[adT]
     have hlB:lz fn.ntmps (({ σ with hs:=some (.store { cf with keep:=keep } h) }:af).put (some t0) .bS):=⟨by simpa[af.ep] using hl.1,by simpa[af.ep] using hl.2⟩
     have y_:=j_ (P:=P) (N:=fn.ntmps) y (B:=fun wB XB=>Ext w ⟨an,ρ.S,an,[{ target:=.fn (.func f) (fD.map a.eval),args:=#[] }]⟩ wB XB) (rd:=none) (nd:=0)
      (fL:=fun w' a' d'=>∃(wB:World) (XB:gB) (σ':af) (env':List D) (ρ':cr) (kd ew:List D),Ext w ⟨an,ρ.S,an,[{ target:=.fn (.func f) (fD.map a.eval),args:=#[] }]⟩ wB XB∧bE wB XB w' a' σ' env' ρ'∧ck w' ρ'.S ρ'.an ew∧(∃cf x,σ'.obj aO=some (.store cf x))∧lX w' ρ'.S a' keep kd∧d'=.aM [.aM kd,.st ew])
      (rv:=VW keep) (fun wB XB CN σ' x hx env' ρ' a' w' d' hr' he=>by
       unfold VW at hx
       split at hx
       ·rename_i ks cf1 h1 hks Tu
        split at hx
        ·rename_i Nb
         cases hx
         obtain⟨hh1,J9,ew,lY,J6⟩:=lD hr' Tu
         simp only[E.eval,A0c] at he
         obtain⟨d1,OR,d2,Kj,he⟩:=he
         obtain⟨kd,Ke,rfl⟩:=uq OR
         obtain⟨d3,he3,d4,he4,Kj⟩:=Kj
         obtain⟨gi,q9,_⟩:=hr'.cn _ _ J9
         rw[he3] at q9
         cases q9
         cases he4
         simp only[D.ah] at Kj
         cases Kj
         simp only[D.ah] at he
         cases he
         have lR:ck w' ρ'.S ρ'.an gi:=by
          obtain⟨bs3,hb3,MS,_⟩:=hr'.cn _ _ J9
          rw[he3] at hb3
          cases hb3
          exact MS
         exact⟨wB,XB,σ',env',ρ',kd,gi,CN,hr',lR,⟨_,_,J9⟩,Nb ▸ nc hr' hks Ke (List.prefix_refl _),rfl⟩
        ·cases hx
       ·cases hx) (fun l e=>by cases e) (.inr (.inr fun _ _ _ _ h k=>h.trans k)) 0 _ [] _ tB env hB _ _ w1 w _ _ (Ext.refl _ _) hdB zk hlB (fun id e he=>by simp[iZ] at he)
     have y_:=wpIn_wide.1 y_
     have Hi:∀b o,ρ.S b o→S b o∨w.heap.size≤b∨an b:=fun b o hs=>hr.new b o hs
     have MZ:∀{w':World} {ρ':cr},ρ.S≤ρ'.S→∀(i:Nat) (v:Value) (x:D),(fD.map a.eval)[i]? = some v→cU[i]? = some x→aZ w' ρ'.S v x:=by
      intro w' ρ' hle i v x hv hx
      have hlx:=A0z.1 ji x (B0i hx)
      have:=hrd i v x (by simpa using hv) hx
      cases x <;> simp[D.Eu] at hlx
      cases this with
      | loc hi=>rw[←hle.loc _ hi];exact .loc (A0s hi hle.n)
     have fin:∀{wB:World} {XB:gB} {w':World} {a':Act} {σ':af} {env':List D} {ρ':cr} {kd ew:List D} {m:Option D} {cG d':D} {u:FrameMode},Ext w ⟨an,ρ.S,an,[{ target:=.fn (.func f) (fD.map a.eval),args:=#[] }]⟩ wB XB→bE wB XB w' a' σ' env' ρ'→ck w' ρ'.S ρ'.an ew→(∃cf x,σ'.obj aO=some (.store cf x))→lX w' ρ'.S a' keep kd →
       (match m with | none=>u=.returning | some d=>∃v,aZ w' ρ'.S v d∧u=.panicking [{ v,recovered:=false }])→sq P f (.st ew) cU m cG→res.eval (kd++[cG])=some d'→Qd d' cG→iU P fn a'.tmps (QJ w S an Qd Qp) a'.defers u w':=by
      intro wB XB w' a' σ' env' ρ' kd ew m cG d' u CN hr' cL uV hk' hu h1 h2 h3
      obtain⟨cs',g1,g2,g3⟩:=CN.zK
      have h0:=CN.rep hr' zk.hold
      have G1:u≠.run:=by
       cases m with
       | none=>have hu:u=.returning:=hu;rw[hu];simp
       | some d=>obtain⟨v,_,hu⟩:=hu;rw[hu];simp
      rw[hr'.su,g1]
      refine qU G1 cs' w' g2 (fun D hD=>?_) fun w2 hm=>?_
      ·obtain⟨k1,k2,k3,k4⟩:=g3 D hD
       exact(hr'.old D (A0h.1 k1).1 k2).trans k1
      ·have CF:=bE.marked hr' h0 (fun D hD=>by
        obtain⟨k1,k2,k3,k4⟩:=g3 D hD
        exact⟨(A0h.1 k1).1,k2,k3,k4⟩) hm
       obtain⟨tP,x',bW⟩:=uV
       have jj:∀b,ρ'.an b→w2.heap[b]? = w'.heap[b]?:=fun b hb=>hm.other b fun hD=>by
        obtain⟨k1,k2,k3,k4⟩:=g3 b hD
        have:=(A0h.1 k1).1
        rcases(hr'.own aO _ b bW hb).1 with g | g | g
        ·exact k3 g.2
        ·omega
        ·exact k2 g
       have hk:bp ρ'.S w' w2:=fun b o _=>hm.cell b o
       have lR:ck w2 ρ'.S ρ'.an ew:=cL.to ⟨fun _ _ h=>h,rfl,fun _=>rfl,fun _=>rfl,fun _=>rfl⟩ (fun _ _ h=>h) jj fun v d i x _ _ h=>h.keep hk (Sets.le_refl _)
       refine KE (m:=m) CF lR ⟨tP,x',bW⟩ (Sets.le_trans hr.sub (Sets.le_refl _)) Hi dP hvl (MZ h0.sub) ⟨hk'.1,fun i s d e1 e2=>(hk'.2 i s d e1 e2).keep hk (Sets.le_refl _)⟩ ?_ h1 hres h2 h3
       cases m with
       | none=>exact hu
       | some d=>obtain⟨v,k1,k2⟩:=hu;exact⟨v,k1.keep hk (Sets.le_refl _),k2⟩
     have VX:∀{w':World} {a':Act} {d':D},Dd P f keep cU res (Ak Qd Qp) (.ret d')→(∃(wB:World) (XB:gB) (σ':af) (env':List D) (ρ':cr) (kd ew:List D),Ext w ⟨an,ρ.S,an,[{ target:=.fn (.func f) (fD.map a.eval),args:=#[] }]⟩ wB XB∧bE wB XB w' a' σ' env' ρ'∧ck w' ρ'.S ρ'.an ew∧(∃cf x,σ'.obj aO=some (.store cf x))∧lX w' ρ'.S a' keep kd∧d'=.aM [.aM kd,.st ew]) →
       iU P fn a'.tmps (QJ w S an Qd Qp) a'.defers .returning w':=by
      rintro w' a' d' hq ⟨wB,XB,σ',env',ρ',kd,ew,CN,hr',cL,uV,hk',rfl⟩
      obtain⟨cG,d'',h1,h2,h3⟩:=hq
      exact fin (m:=none) CN hr' cL uV hk' rfl h1 h2 h3
     refine wp_mono y_ fun e a' w' hp=>?_
     cases e with
     | normal=>
      obtain⟨wB,XB,env',σ',ρ',t',CN,_,hk,dY,hr',_⟩:=hp
      obtain⟨xr,De,rfl⟩:=A0b.1 hk
      obtain⟨d1,he,hq⟩:=dY
      refine VX hq ?_
      unfold VW at De
      split at De
      ·rename_i ks cf1 h1 hks Tu
       split at De
       ·rename_i Nb
        cases De
        obtain⟨hh1,J9,_⟩:=lD hr' Tu
        simp only[E.eval,A0c] at he
        obtain⟨d1,OR,d2,Kj,he⟩:=he
        obtain⟨kd,Ke,rfl⟩:=uq OR
        obtain⟨d3,he3,d4,he4,Kj⟩:=Kj
        obtain⟨gi,q9,lR,_⟩:=hr'.cn _ _ J9
        rw[he3] at q9
        cases q9
        cases he4
        simp only[D.ah] at Kj
        cases Kj
        simp only[D.ah] at he
        cases he
        exact⟨wB,XB,σ',env',ρ',kd,gi,CN,hr',lR,⟨_,_,J9⟩,Nb ▸ nc hr' hks Ke (List.prefix_refl _),rfl⟩
       ·cases De
      ·cases De
     | ret=>
      obtain⟨d1,hq,h1⟩:=hp
      exact VX hq h1
     | exit id=>obtain⟨_,_,e,_,_,_,he,_⟩:=hp;simp[iZ] at he
     | goto l=>exact hp.elim
     | panic c=>
      obtain⟨wB,XB,σ',env',ρ',v,d,bs',CN,rfl,hr',CE,cL,uV,kd,hk',hq⟩:=hp
      obtain⟨Nb,cG,d'',h1,h2,h3⟩:=hq
      rw[Nb] at hk'
      exact fin (m:=some d) CN hr' cL uV hk' ⟨v,CE,rfl⟩ h1 h2 h3
     | outgrown=>exact hp.elim
    ·cases hc
   ·cases hc
  ·-- ahead of it
   split at hc
   ·cases hc
   rename_i J_
   have J_:fJ x=true:=by simpa using J_
   refine wp_seq (wp_mono (wpIn_wide.1 (j_ (P:=P) (N:=fn.ntmps) x (B:=fun w1 X1=>w1=w∧X1=⟨an,S,an,[]⟩) (rd:=none) (nd:=0) (fL:=fun w' a' d'=>a'.defers=[]∧∃(v:Value) (d0:D) (bs':List D) (S':Sets) (bf:Nat→Prop),(results fn a'.tmps).run P w'=.ok v w'∧d'=.aM [d0,.st bs']∧aZ w' S' v d0∧Left w S an an w' S' bf bs')
    (rv:=kG P fn.results.toList) (fun wB XB CN σ x hx env ρ a' w' d' hr he=>by rw[CN.1,CN.2] at hr;exact B1 (fun _ h=>h) hx hr he) (fun l e=>by cases e) (.inl J_) 0 _ [] _ t env hc _ a w1 w _ _ ⟨rfl,rfl⟩ eb hr hl (fun id e he=>by simp[iZ] at he))) fun e a' w' hp=>?_)
   cases e with
   | normal=>
    obtain⟨wB,XB,env',σ',ρ',t',CN,hpre,hk,dY,hr',hl'⟩:=hp
    rw[CN.1,CN.2] at hr'
    exact qf y hk dY hr' hl'
   | ret=>
    obtain⟨d',hq,g1,v,d0,bs',S',bf,h1,rfl,h3,h4⟩:=hp
    show iU P fn a'.tmps _ a'.defers .returning w'
    rw[g1]
    exact⟨v,h1,.ret d0,v,S',bf,bs',hq,⟨rfl,h3⟩,h4⟩
   | exit id=>obtain⟨_,_,e,_,_,_,he,_⟩:=hp;simp[iZ] at he
   | goto l=>exact hp.elim
   | panic c=>
    obtain⟨wB,XB,σ',env',ρ',v,d,bs',CN,rfl,hr',CE,cL,uV,kd,_,hq⟩:=hp
    rw[CN.1,CN.2] at hr'
    have hnd:a'.defers=[]:=hr'.su
    show iU P fn a'.tmps _ a'.defers (.panicking _) w'
    rw[hnd]
    exact⟨.dI d,v,ρ'.S,ρ'.an,bs',hq,⟨rfl,CE⟩,kz hr' cL uV fun _ h=>h⟩
   | outgrown=>exact hp.elim

theorem zo {cf:bV}{f:FuncId}{fn:Func}{keep:List Nat}{t:T}{ds:List D}{bs bs':List D}{o:Out}(hf:P.funcs[f]? = some fn)(hc:gz P cf fn keep=some t)(hfit:cW (bl P fn) ds=true)(eb:den P t (ds++[.st bs]) (oU o (.st bs'))) :
  bC P f (.st bs) ds o (.st bs'):=by
 intro w S an nF vs hb hst dF hfl hS hvl hrd
 cases hb
 obtain⟨oY,_⟩:=eR hfit
 have qA:(bl P fn).length=cq fn:=by simp[bl,cq]
 unfold gz at hc
 split at hc
 ·cases hc
 rename_i c hbody
 split at hc
 ·cases hc
 rename_i hnt
 rw[not_or] at hnt
 have hstart:=A4 (may:=an) (cf:=cf) hfit hst dF (fun _ h=>h) hfl hS hvl hrd fun _ h=>.inr h
 have nk:lz fn.ntmps (cg cf fn.ntmps (cq fn) (bl P fn)):=⟨by simp[cg,cZ,qA];omega,by simp[cg]⟩
 refine(CZ hf hbody (qf (w:=w) (S:=S) (an:=an) c (env:=ds++[.st bs]) (by rw[A0t,←oY,qA];exact hc) (cB (fun s hs=>hs.as) eb) hstart nk)).mono ?_
 rintro e w' ⟨o',v,S',bf,Og,hq,c_,hl⟩
 have:o'=o∧Og=bs':=by cases o' <;> (obtain⟨rfl,h2⟩:=hq;cases h2;exact⟨rfl,rfl⟩)
 obtain⟨rfl,rfl⟩:=this
 exact⟨v,S',bf,_,c_,rfl,hl.st,fun b o hs=>World.cell?_of_block (a:=⟨b,o,none⟩) (hl.old b (hS b o hs) fun hf=>hst.rH b o hf hs),hl.le,hl.os,hl.tape,hl.output,hl.size,hl.old,hl.ft,hl.new,hl.lt⟩

end
end
end

section
noncomputable section

inductive Sh where
 | int (k:IntKind)
 | bool
 | str
 | sl (e:Sh)
 | st (fs:List Sh)
 deriving Inhabited

mutual
def Sh.size:Sh→Nat
 | .st fs=>Sh.sizes fs
 | _=>1
def Sh.sizes:List Sh→Nat
 | []=>0
 | s :: r=>s.size+Sh.sizes r
end

def Sh.uR:Sh→Bool
 | .st _=>true
 | _=>false

def pF (P:Program)(sh:TypeId→Option Sh):List Field→Nat→Option (List Sh)
 | [],_=>some []
 | f :: r,off=>if f.offset=off then(sh f.type).bind fun s=>if P.cellsOf f.type=s.size then(pF P sh r (off+s.size)).map (s :: ·) else none else none

def sE (P:Program):Nat→TypeId→Option Sh
 | 0,_=>none
 | n+1,t=>match P.underlying t with
  | some (.int k)=>some (.int k)
  | some .bool=>some .bool
  | some .string=>some .str
  | some (.slice e)=>(sE P n e).bind fun s=>if P.cellsOf e=s.size∧0<s.size then some (.sl s) else none
  | some (.struct fs)=>(pF P (sE P n) fs.toList 0).bind fun l=>if P.cellsOf t=Sh.sizes l then some (.st l) else none
  | _=>none

mutual
def eW:Sh→List D→Prop
 | .int k,ds=>∃n,ds=[.v (.int k n)]∧k.min≤n∧n≤k.max
 | .bool,ds=>∃b,ds=[.v (.bool b)]
 | .str,ds=>∃s,ds=[.v (.string s)]∧s.size≤maxLen
 | .sl e,ds=>∃es,ds=[.a_ es]∧es.length≤maxLen∧∀x,x∈es→(e.uR=true→∃cs,x=.agg cs∧eW e cs)∧(e.uR=false→eW e [x])
 | .st fs,ds=>gk fs ds
def gk:List Sh→List D→Prop
 | [],ds=>ds=[]
 | s :: r,ds=>∃a b,ds=a++b∧eW s a∧gk r b
end

def AR (w:World):Sets:={ mem:=fun b _=>b<w.heap.size,loc:=fun _=>0,n:=0,cap:=fun _=>0 }

mutual
theorem eW.length:∀{s:Sh} {ds:List D},eW s ds→ds.length=s.size
 | .int _,_,⟨_,h,_⟩=>by rw[h];rfl
 | .bool,_,⟨_,h⟩=>by rw[h];rfl
 | .str,_,⟨_,h,_⟩=>by rw[h];rfl
 | .sl _,_,⟨_,h,_⟩=>by rw[h];rfl
 | .st _,_,h=>by simp only[eW] at h;rw[gk.length h];rfl
theorem gk.length:∀{l:List Sh} {ds:List D},gk l ds→ds.length=Sh.sizes l
 | [],_,h=>by simp only[gk] at h;rw[h];rfl
 | s :: r,_,h=>by
  simp only[gk] at h
  obtain⟨a,b,rfl,h1,h2⟩:=h
  rw[A0t,eW.length h1,gk.length h2]
  rfl
end

theorem H6 {P:Program}:∀{n:Nat} {t:TypeId} {s:Sh},sE P n t=some s→s.uR=false→s.size=1:=by
 intro n t s h hs
 cases s <;> first | rfl | simp[Sh.uR] at hs

section
variable {H:Type} {enc:TypeId×Value→H} {P:Program} {w:World}

theorem yu {w:World}{a:Addr}{v:Value}(h:w.cell? a=some v):a.block<w.heap.size∧a.spot=none:=by
 unfold World.cell? at h
 split at h
 ·rename_i c _ _ hc
  split at h
  ·cases h
  ·rename_i hs
   exact⟨(A0h.1 hc).1,by simpa using hs⟩
 ·cases h

theorem Bz {w:World}{base n:Nat}{a:Addr}{cs:List Value}(h:w.cells? base a n=some cs):cs.length=n∧∀j,j<n→w.cell? (a.add j)=cs[j]?:=by
 unfold World.cells? at h
 split at h
 ·have key:∀{l:List Nat} {cs:List Value},l.mapM (fun i=>w.cell? (a.add i))=some cs→cs.length=l.length∧∀(j i:Nat),l[j]? = some i→w.cell? (a.add i)=cs[j]?:=by
   intro l
   induction l with
   | nil=>intro cs h;simp at h;subst h;exact⟨rfl,by simp⟩
   | cons i l ih=>
    intro cs h
    simp only[List.mapM_cons,Option.bind_eq_bind,A0c,Option.pure_def,A0u] at h
    obtain⟨v,h1,vs,h2,rfl⟩:=h
    obtain⟨h3,h4⟩:=ih h2
    refine⟨by simp[h3],fun j i' hj=>?_⟩
    cases j with
    | zero=>simp at hj;subst hj;simpa using h1
    | succ j=>simpa using h4 j i' (by simpa using hj)
  obtain⟨h1,h2⟩:=key h
  exact⟨by simpa using h1,fun j hj=>h2 j j (by simp[hj])⟩
 ·cases h

theorem O0:∀(fuel:Nat) {n:Nat} {t:TypeId} {cs:List Value} {x:DataW H×List MemPlace} {sh:Sh},DataW.trod enc P w 0 (fun _=>true) true fuel t cs=some x→sE P n t=some sh →
  ∃ds:List D,ds.length=cs.length∧eW sh ds∧∀(i:Nat) (v:Value) (y:D),cs[i]? = some v→ds[i]? = some y→aZ w (AR w) v y∧y.one=true:=by
 intro fuel
 induction fuel with
 | zero=>intro n t cs x sh h;simp[DataW.trod] at h
 | succ fuel ih=>
  intro n t cs x sh h hs
  have one:∀{v:Value} {y:D},aZ w (AR w) v y→y.one=true→∀(i:Nat) (v':Value) (y':D),[v][i]? = some v'→[y][i]? = some y'→aZ w (AR w) v' y'∧y'.one=true:=by
   intro v y h1 h2 i v' y' hv hy
   cases i with
   | zero=>simp at hv hy;subst hv hy;exact⟨h1,h2⟩
   | succ i=>simp at hv
  cases n with
  | zero=>simp[sE] at hs
  | succ n=>
  simp only[sE] at hs
  split at hs
  ·rename_i k ht
   cases hs
   obtain⟨m,rfl,_,hw⟩:=DataW.trod_int ht h
   simp only[Lit.wf,A0g,decide_eq_true_eq] at hw
   exact⟨[.v (.int k m)],rfl,⟨m,rfl,hw⟩,one (.v rfl) rfl⟩
  ·rename_i ht
   cases hs
   obtain⟨b,rfl,_⟩:=DataW.trod_bool ht h
   exact⟨[.v (.bool b)],rfl,⟨b,rfl⟩,one (.v rfl) rfl⟩
  ·rename_i ht
   cases hs
   obtain⟨s,rfl,_,hw⟩:=DataW.trod_string ht h
   exact⟨[.v (.string s)],rfl,⟨s,rfl,hw⟩,one (.v rfl) rfl⟩
  ·rename_i e ht
   obtain⟨s,rQ,hs⟩:=A0c.1 hs
   split at hs
   ·rename_i hc
    obtain⟨hc,hpos⟩:=hc
    cases hs
    rcases DataW.trod_slice ht h with⟨rfl,_⟩ | ⟨a,len,cap,elems,rest,m,hm,rfl,_,_,hl,hcap,hlen,hel,hsp,_⟩
    ·exact⟨[.a_ []],rfl,⟨[],rfl,Nat.zero_le _,by simp⟩,one .nil rfl⟩
    ·cases hm
     have Nk:∀i,∃ds:List D,i<len→∃cs:List Value,w.cells? 0 (a.add (i*P.cellsOf e)) (P.cellsOf e)=some cs∧ds.length=cs.length∧eW s ds∧∀(j:Nat) (v:Value) (y:D),cs[j]? = some v→ds[j]? = some y→aZ w (AR w) v y∧y.one=true:=by
      intro i
      by_cases hi:i<len
      ·have h1:=hel i hi
       rw[A0f (show i<elems.length by omega)] at h1
       obtain⟨cs,h2,h3⟩:=A0c.1 h1
       obtain⟨ds,h4,h5,h6⟩:=ih h3 rQ
       exact⟨ds,fun _=>⟨cs,h2,h4,h5,h6⟩⟩
      ·exact⟨[],fun h=>absurd h hi⟩
     let mk:List D→D:=fun ds=>if s.uR=true then .agg ds else ds.headD (.v .nilIface)
     obtain⟨f,hf⟩:=Classical.axiomOfChoice Nk
     have hmk:∀i,i<len→(mk (f i)).cells=f i∧((s.uR=true→∃cs,mk (f i)=.agg cs∧eW s cs)∧(s.uR=false→eW s [mk (f i)])):=by
      intro i hi
      obtain⟨cs,_,h4,h5,h6⟩:=hf i hi
      by_cases hst:s.uR=true
      ·have:mk (f i)=.agg (f i):=by simp only[mk];rw[if_pos hst]
       rw[this]
       exact⟨rfl,(fun _=>⟨_,rfl,h5⟩),fun hh=>(by rw[hst] at hh;cases hh)⟩
      ·have hst:s.uR=false:=by simpa using hst
       have h1:(f i).length=1:=by rw[h5.length,H6 rQ hst]
       match Yd:f i,h1 with
       | [d],_=>
        have:mk [d]=d:=by simp only[mk];rw[if_neg (by simp[hst])];rfl
        rw[this]
        have dP:cs.length=1:=by rw[←h4,Yd];rfl
        rw[Yd] at h5 h6
        have CK:d.one=true:=(h6 0 cs[0] d (by simp[dP]) rfl).2
        exact⟨(by cases d <;> first | rfl | simp[D.one] at CK),(fun hh=>(by rw[hst] at hh;cases hh)),fun _=>h5⟩
     have iJ:∀(i:Nat) (y:D),((List.range len).map fun i=>mk (f i))[i]? = some y→i<len∧y=mk (f i):=by
      intro i y hy
      simp only[A0v,A0b] at hy
      obtain⟨q,hq,rfl⟩:=hy
      obtain⟨h1,rfl⟩:=A0a.1 hq
      simp only[List.length_range] at h1
      simp only[List.getElem_range]
      exact⟨h1,trivial⟩
     refine⟨[.a_ ((List.range len).map fun i=>mk (f i))],rfl,⟨_,rfl,by simp;omega,fun y hy=>?_⟩,one ?_ rfl⟩
     ·obtain⟨i,hi⟩:=List.mem_iff_getElem?.1 hy
      obtain⟨uX,rfl⟩:=iJ i y hi
      exact(hmk i uX).2
     ·by_cases X4:len=0
      ·subst X4
       exact .emp hcap
      ·-- the address is plain
       have XJ:a.spot=none:=by
        obtain⟨cs,h2,h4,h5,_⟩:=hf 0 (by omega)
        obtain⟨h6,h7⟩:=Bz h2
        have:=h7 0 (by omega)
        rw[A0f (show 0<cs.length by omega)] at this
        have:=(yu this).2
        simpa[Addr.add] using this
       obtain⟨b,off,spot⟩:=a
       subst XJ
       have hcell:∀(i:Nat) (e':D) (j:Nat) (d:D),((List.range len).map fun i=>mk (f i))[i]? = some e'→e'.cells[j]? = some d→∃v,w.cell? ⟨b,off+i*s.size+j,none⟩=some v∧aZ w (AR w) v d∧d.one=true:=by
        intro i e' j d he hd
        obtain⟨uX,rfl⟩:=iJ i e' he
        rw[(hmk i uX).1] at hd
        obtain⟨cs,h2,h4,h5,h6⟩:=hf i uX
        obtain⟨h7,h8⟩:=Bz h2
        have hj:j<(f i).length:=(A0a.1 hd).1
        have h9:=h8 j (by omega)
        rw[fz,fz,hc,A0f (show j<cs.length by omega)] at h9
        exact⟨_,h9,h6 j _ d (A0f (by omega)) hd⟩
       refine .a_ (size:=s.size) (val:=fun i j=>(w.cell? ⟨b,off+i*s.size+j,none⟩).getD undef) (by simp) hl hcap (fun i e' he=>?_) (fun i e' j d he hd=>?_) (fun i e' j d he hd=>?_) (fun i e' j d he hd=>?_) fun i e' j d he hd=>?_
       ·obtain⟨uX,rfl⟩:=iJ i e' he
        obtain⟨cs,h2,h4,h5,h6⟩:=hf i uX
        rw[(hmk i uX).1,h5.length]
       ·obtain⟨v,_,_,h3⟩:=hcell i e' j d he hd;exact h3
       ·obtain⟨v,h1,_,_⟩:=hcell i e' j d he hd;exact(yu h1).1
       ·obtain⟨v,h1,_,_⟩:=hcell i e' j d he hd;rw[h1];rfl
       ·obtain⟨v,h1,h2,_⟩:=hcell i e' j d he hd;rw[h1];exact h2
   ·cases hs
  ·rename_i fs ht
   obtain⟨l,hl,hs⟩:=A0c.1 hs
   split at hs
   ·rename_i hc
    cases hs
    obtain⟨xs,m,hm,_,dP,hxl,hf⟩:=DataW.trod_struct ht h
    cases hm
    have key:∀(fl:List Field) (off:Nat) (l:List Sh),pF P (sE P n) fl off=some l→off+Sh.sizes l≤cs.length→(∀f,f∈fl→∃x,DataW.trod enc P w 0 (fun _=>true) true fuel f.type ((cs.drop f.offset).take (P.cellsOf f.type))=some x) →
      ∃ds:List D,gk l ds∧∀(i:Nat) (v:Value) (y:D),cs[off+i]? = some v→ds[i]? = some y→aZ w (AR w) v y∧y.one=true:=by
     intro fl
     induction fl with
     | nil=>intro off l h1 _ _;simp[pF] at h1;subst h1;exact⟨[],by simp[gk],by simp⟩
     | cons f fl ihf=>
      intro off l h1 h2 h3
      simp only[pF] at h1
      split at h1
      ·rename_i hoff
       obtain⟨s,hs1,h1⟩:=A0c.1 h1
       split at h1
       ·rename_i hcs
        obtain⟨l',hl',rfl⟩:=A0b.1 h1
        simp only[Sh.sizes] at h2
        obtain⟨RM,g1,g2⟩:=ihf (off+s.size) l' hl' (by omega) fun f' hf'=>h3 f' (by simp[hf'])
        obtain⟨x,hx⟩:=h3 f (by simp)
        obtain⟨OV,k1,k2,k3⟩:=ih hx hs1
        have agN:=k2.length
        refine⟨OV++RM,by simp only[gk];exact⟨OV,RM,rfl,k2,g1⟩,fun i v y hv hy=>?_⟩
        by_cases hi:i<OV.length
        ·rw[A0j hi] at hy
         refine k3 i v y ?_ hy
         rw[B0c,if_pos (by omega),B0o,hoff]
         exact hv
        ·rw[A0l (by omega)] at hy
         refine g2 (i-OV.length) v y ?_ hy
         rw[←hv]
         congr 1
         omega
       ·cases h1
      ·cases h1
    obtain⟨ds,h1,h2⟩:=key fs.toList 0 l hl (by rw[dP,hc];omega) fun f hf'=>by
     obtain⟨i,hi⟩:=List.mem_iff_getElem?.1 hf'
     have:=hf i f (by simpa using hi)
     have uX:i<xs.length:=by
      have:=(A0a.1 hi).1
      simp at this
      omega
     rw[A0f uX] at this
     exact⟨_,this⟩
    refine⟨ds,by rw[h1.length,dP,hc],by simp only[eW];exact h1,fun i v y hv hy=>h2 i v y (by simpa using hv) hy⟩
   ·cases hs
  ·cases hs

end
end
end

section
noncomputable section
open Go.RowKit Go.ChangeShapes Go.WideShapes

def ua (s:Sh)(x:D):Prop:=(s.uR=true→∃cs,x=.agg cs∧eW s cs)∧(s.uR=false→eW s [x])

def qo:List Sh→List D→Prop
 | [],ds=>ds=[]
 | s :: r,ds=>∃x ys,ds=x :: ys∧ua s x∧qo r ys

section
variable {H:Type} {enc:TypeId×Value→H} {P:Program} {W:World}

theorem Us {base n:Nat}{t:TypeId}{v:Value}{d:DataW H}{ps:List MemPlace}{sh:Sh}(hval:Value.okWide P W .any base t v)(h:DataW.Trod enc P W 0 (fun _=>true) true t v d ps)(hs:sE P n t=some sh):∃x:D,aZ W (AR W) v x∧ua sh x:=by
 obtain⟨fuel,hf⟩:=h
 obtain⟨ds,h1,h2,h3⟩:=O0 fuel hf hs
 have one:v.cells=#[v]→sh.uR=false→∃x:D,aZ W (AR W) v x∧ua sh x:=by
  intro hc hst
  rw[hc] at h1 h3
  match ds,h1 with
  | [x],_=>exact⟨x,(h3 0 v x rfl rfl).1,(fun hh=>(by rw[hst] at hh;cases hh)),fun _=>h2⟩
 cases n with
 | zero=>simp[sE] at hs
 | succ n=>
  simp only[sE] at hs
  split at hs
  ·rename_i k ht
   cases hs
   obtain⟨m,rfl⟩:=okWide_int ht hval
   exact one rfl rfl
  ·rename_i ht
   cases hs
   obtain⟨m,rfl⟩:=okWide_bool ht hval
   exact one rfl rfl
  ·rename_i ht
   cases hs
   obtain⟨m,rfl⟩:=okWide_string ht hval
   exact one rfl rfl
  ·rename_i e ht
   obtain⟨s,_,hs⟩:=A0c.1 hs
   split at hs
   ·cases hs
    obtain⟨a,len,cap,rfl⟩:=okWide_slice ht hval
    exact one rfl rfl
   ·cases hs
  ·rename_i fs ht
   obtain⟨l,_,hs⟩:=A0c.1 hs
   split at hs
   ·cases hs
    obtain⟨cs,rfl,_⟩:=okWide_struct ht hval
    have hc:(Value.agg cs).cells=cs:=rfl
    rw[hc] at h1 h3
    refine⟨.agg ds,.agg (by rw[h1];simp) (fun i y hy=>?_) fun i u y hu hy=>(h3 i u y (by simpa using hu) hy).1,fun _=>⟨ds,rfl,h2⟩,fun hh=>by simp[Sh.uR] at hh⟩
    have hi:i<cs.size:=by
     have:=(A0a.1 hy).1
     rw[h1] at this
     simpa using this
    exact(h3 i cs[i] y (by simp[hi]) hy).2
   ·cases hs
  ·cases hs

theorem w_ {base n:Nat}:∀{ts:List TypeId} {vs:List Value} {ds:List (DataW H)} {ps:List MemPlace} {FA:List Sh},(∀(j:Nat) t v,ts[j]? = some t→vs[j]? = some v→Value.okWide P W .any base t v)→DataW.TrodAll enc P W 0 (fun _=>true) true ts vs ds ps→ts.mapM (sE P n)=some FA →
  vs.length=ts.length∧ds.length=ts.length∧∃xs:List D,xs.length=vs.length∧qo FA xs∧∀(i:Nat) (v:Value) (x:D),vs[i]? = some v→xs[i]? = some x→aZ W (AR W) v x
 | [],vs,ds,ps,FA,_,h,hs=>by
  obtain⟨rfl,rfl,rfl⟩:=trodAll_nil h
  simp at hs
  subst hs
  exact⟨rfl,rfl,[],rfl,rfl,by simp⟩
 | t :: ts,vs,ds,ps,FA,hv,h,hs=>by
  obtain⟨v,vs',d,ds',p,q,rfl,rfl,rfl,h0,h1⟩:=trodAll_cons h
  simp only[List.mapM_cons,Option.bind_eq_bind,A0c,Option.pure_def,A0u] at hs
  obtain⟨s,hs1,r,jH,rfl⟩:=hs
  obtain⟨x,k1,k2⟩:=Us (hv 0 t v rfl rfl) h0 hs1
  obtain⟨g1,g1',xs,g2,g3,g4⟩:=w_ (fun j t v ht fQ=>hv (j+1) t v (by simpa using ht) (by simpa using fQ)) h1 jH
  refine⟨by simp[g1],by simp[g1'],x :: xs,by simp[g2],⟨x,xs,rfl,k2,g3⟩,fun i v' x' fQ hx'=>?_⟩
  cases i with
  | zero=>simp at fQ hx';subst fQ hx';exact k1
  | succ i=>exact g4 i v' x' (by simpa using fQ) (by simpa using hx')

theorem j5 {W':World}(hl:laidOutB P=true)(hb:Below W.heap.size W W'):∀{ts:List TypeId} {vs:List Value} {ds:List (DataW H)} {ps:List MemPlace},(∀t,t∈ts→P.readableRec t=true∧t<P.types.size)→(∀p,p∈ps→p.block<W.heap.size)→DataW.TrodAll enc P W 0 (fun _=>true) true ts vs ds ps →
  DataW.TrodAll enc P W' 0 (fun b=>decide (b<W.heap.size)) true ts vs ds ps
 | [],vs,ds,ps,_,_,h=>by
  obtain⟨rfl,rfl,rfl⟩:=trodAll_nil h
  exact trodAll_mk0
 | t :: ts,vs,ds,ps,ht,hp,h=>by
  obtain⟨v,vs',d,ds',p,q,rfl,rfl,rfl,h0,h1⟩:=trodAll_cons h
  exact trodAll_cons_mk (Below.trod hl (ht t (by simp)).1 (ht t (by simp)).2 h0 hb fun x hx=>hp x (by simp[hx])) (j5 hl hb (fun t' ht'=>ht t' (by simp[ht'])) (fun x hx=>hp x (by simp[hx])) h1)

end
end
end

section
noncomputable section

def jK (f:D→Option D):List D→Option (List D)
 | []=>some []
 | x :: r=>(f x).bind fun y=>(jK f r).map (y :: ·)

def gW (bs:List D):Nat→D→Option D
 | 0,_=>none
 | n+1,d=>match d with
  | .v x=>some (.v x)
  | .agg cs=>(jK (gW bs n) cs).map .agg
  | .a_ cs=>(jK (gW bs n) cs).map .a_
  | .ptr cs=>(jK (gW bs n) cs).map .ptr
  | .aM cs=>(jK (gW bs n) cs).map .aM
  | .fq t x=>(gW bs n x).map (.fq t)
  | .fn f a b=>(jK (gW bs n) a).bind fun a=>(jK (gW bs n) b).map (.fn f a)
  | .cO=>some (.a_ [])
  | .loc i off=>(match bs[i]? with
   | some (.bh _ _ cs)=>(jK (gW bs n) (cs.drop off)).map .ptr
   | _=>none)
  | .sl i off len=>(match bs[i]? with
   | some (.bh _ sz cs)=>if off+len*sz≤cs.length then(jK (gW bs n) ((cs.drop off).take (len*sz))).map fun l=>.a_ (if sz=1 then l else(chunks sz len l).map .agg) else none
   | _=>none)
  | _=>none

theorem ig {f:D→Option D}:∀{l l':List D},jK f l=some l'→l'.length=l.length∧∀(i:Nat) (y:D),l'[i]? = some y→∃x,l[i]? = some x∧f x=some y
 | [],l',h=>by cases h;exact⟨rfl,fun i y hi=>by simp at hi⟩
 | x :: r,l',h=>by
  simp only[jK,A0c,A0b] at h
  obtain⟨y,h1,r',h2,rfl⟩:=h
  obtain⟨h3,h4⟩:=ig h2
  refine⟨by simp[h3],fun i z hi=>?_⟩
  cases i with
  | zero=>simp at hi;subst hi;exact⟨x,rfl,h1⟩
  | succ i=>exact h4 i z (by simpa using hi)

section
variable {bs:List D}

theorem pQ {n:Nat}{d d':D}(h:gW bs n d=some d')(hd:d.one=true):d'.one=true:=by
 cases n with
 | zero=>cases h
 | succ n=>
  cases d <;> simp only[gW] at h <;> try (simp[D.one] at hd;done)
  case v x=>cases h;rfl
  case a_ cs=>obtain⟨l,_,rfl⟩:=A0b.1 h;rfl
  case ptr cs=>obtain⟨l,_,rfl⟩:=A0b.1 h;rfl
  case fq t x=>obtain⟨l,_,rfl⟩:=A0b.1 h;rfl
  case fn f a b=>
   obtain⟨a',_,h⟩:=A0c.1 h
   obtain⟨l,_,rfl⟩:=A0b.1 h
   rfl
  case cO=>cases h;rfl
  case loc i off=>
   split at h
   ·obtain⟨l,_,rfl⟩:=A0b.1 h;rfl
   ·cases h
  case sl i off len=>
   split at h
   ·split at h
    ·obtain⟨l,_,rfl⟩:=A0b.1 h;rfl
    ·cases h
   ·cases h
  all_goals cases h

theorem oS {d:D}(h:d.one=true):d.cells=[d]:=by cases d <;> first | rfl | simp[D.one] at h

theorem yh {n:Nat}{e e':D}(h:gW bs n e=some e'):e'.cells.length=e.cells.length∧∀(j:Nat) (d':D),e'.cells[j]? = some d'→∃m d,m≤n∧e.cells[j]? = some d∧gW bs m d=some d':=by
 by_cases ho:e.one=true
 ·rw[oS ho,oS (pQ h ho)]
  refine⟨rfl,fun j d' hj=>?_⟩
  cases j with
  | zero=>simp at hj;subst hj;exact⟨n,e,A0m _,rfl,h⟩
  | succ j=>simp at hj
 ·cases n with
  | zero=>cases h
  | succ n=>
   cases e <;> simp only[gW] at h <;> try (simp[D.one] at ho;done)
   case agg cs=>
    obtain⟨l,hl,rfl⟩:=A0b.1 h
    obtain⟨h1,h2⟩:=ig hl
    refine⟨h1,fun j d' hj=>?_⟩
    obtain⟨x,g1,g2⟩:=h2 j d' hj
    exact⟨n,x,Nat.le_succ _,g1,g2⟩
   case aM cs=>
    obtain⟨l,hl,rfl⟩:=A0b.1 h
    refine⟨rfl,fun j d' hj=>?_⟩
    cases j with
    | zero=>simp[D.cells] at hj;subst hj;exact⟨n+1,_,A0m _,rfl,by simp only[gW];exact h⟩
    | succ j=>simp[D.cells] at hj
   all_goals cases h

theorem yj {f:D→Option D}(hf:∀x y,f x=some y→y.fO=true):∀{l l':List D},jK f l=some l'→dH l'=true
 | [],l',h=>by cases h;rfl
 | x :: r,l',h=>by
  simp only[jK,A0c,A0b] at h
  obtain⟨y,h1,r',h2,rfl⟩:=h
  simp[dH,hf x y h1,yj hf h2]

theorem x_:∀{l:List D} (k:Nat),dH l=true→dH (l.take k)=true
 | [],k,_=>by simp[dH]
 | x :: r,0,_=>rfl
 | x :: r,k+1,h=>by
  simp only[dH,A0g] at h
  simp[dH,h.1,x_ k h.2]

theorem ya:∀{l:List D} (k:Nat),dH l=true→dH (l.drop k)=true
 | [],k,_=>by simp[dH]
 | x :: r,0,h=>h
 | x :: r,k+1,h=>by
  simp only[dH,A0g] at h
  exact ya k h.2

theorem sR {sz:Nat}:∀{n:Nat} {l:List D},dH l=true→dH ((chunks sz n l).map .agg)=true
 | 0,_,_=>rfl
 | n+1,l,h=>by simp[chunks,dH,D.fO,x_ sz h,sR (ya sz h)]

theorem qw:∀{n:Nat} {d d':D},gW bs n d=some d'→d'.fO=true
 | 0,_,_,h=>by cases h
 | n+1,d,d',h=>by
  have hL:∀{l l':List D},jK (gW bs n) l=some l'→dH l'=true:=fun h=>yj (fun x y h=>qw h) h
  cases d <;> simp only[gW] at h
  case v x=>cases h;rfl
  case agg cs=>obtain⟨l,hl,rfl⟩:=A0b.1 h;simpa[D.fO] using hL hl
  case a_ cs=>obtain⟨l,hl,rfl⟩:=A0b.1 h;simpa[D.fO] using hL hl
  case ptr cs=>obtain⟨l,hl,rfl⟩:=A0b.1 h;simpa[D.fO] using hL hl
  case aM cs=>obtain⟨l,hl,rfl⟩:=A0b.1 h;simpa[D.fO] using hL hl
  case fq t x=>obtain⟨l,hl,rfl⟩:=A0b.1 h;simpa[D.fO] using qw hl
  case fn f a b=>
   obtain⟨a',ha,h⟩:=A0c.1 h
   obtain⟨l,hl,rfl⟩:=A0b.1 h
   simp[D.fO,hL ha,hL hl]
  case cO=>cases h;rfl
  case loc i off=>
   split at h
   ·obtain⟨l,hl,rfl⟩:=A0b.1 h;simpa[D.fO] using hL hl
   ·cases h
  case sl i off len=>
   split at h
   ·split at h
    ·obtain⟨l,hl,rfl⟩:=A0b.1 h
     simp only[D.fO]
     split
     ·exact hL hl
     ·exact sR (hL hl)
    ·cases h
   ·cases h
  all_goals cases h

theorem yg {w:World}{S:Sets}{an F:Nat→Prop}(hst:ck w S an bs)(hF:∀(i:Nat) (e:TypeId) (sz:Nat) (cs:List D),bs[i]? = some (.bh e sz cs)→F (S.loc i)):∀(n m:Nat),m≤n→∀{d d':D} {v:Value},aZ w S v d→gW bs m d=some d'→aZ w (S.or fun b _=>F b) v d'
 | 0,m,hm,d,d',v,_,h=>by
  have:m=0:=by omega
  subst this
  cases h
 | n+1,0,_,d,d',v,_,h=>by cases h
 | n+1,m+1,hm,d,d',v,hr,h=>by
  have ih:=@yg w S an F hst hF n
  have hmn:m≤n:=by omega
  have Q7:∀{i off k:Nat} {e:TypeId} {sz:Nat} {cs l:List D},bs[i]? = some (.bh e sz cs)→off+k≤cs.length→jK (gW bs m) ((cs.drop off).take k)=some l→l.length=k∧∃val:Nat→Value,∀(j:Nat) (y:D),l[j]? = some y→y.one=true∧w.cell? ⟨S.loc i,off+j,none⟩=some (val j)∧aZ w (S.or fun b _=>F b) (val j) y:=by
   intro i off k e sz cs l hb hk hl
   obtain⟨hf,vs,⟨e2,hh,_⟩,hvs,dP,hone,hrd,jk⟩:=hst.cells i e sz cs hb
   obtain⟨h1,h2⟩:=ig hl
   refine⟨by rw[h1];simp;omega,fun j=>vs.getD (off+j) undef,fun j y hj=>?_⟩
   obtain⟨x,g1,g2⟩:=h2 j y hj
   have hjk:j<k:=by
    have:=(A0a.1 g1).1
    simp at this
    omega
   rw[List.getElem?_take_of_lt hjk,B0o] at g1
   have hlt:off+j<vs.size:=by omega
   have hv:vs[off+j]? = some (vs.getD (off+j) undef):=by simp[A0p,hlt]
   exact⟨pQ g2 (hone _ _ g1),by rw[eE hh];exact hv,ih m hmn (hrd _ _ _ hv g1) g2⟩
  cases d <;> simp only[gW] at h
  case v x=>cases h;cases hr with | v hp=>exact .v hp
  case agg cs=>
   obtain⟨l,hl,rfl⟩:=A0b.1 h
   obtain⟨h1,h2⟩:=ig hl
   cases hr with
   | agg hs ho hh=>
    refine .agg (by rw[hs,h1]) (fun i y hi=>?_) fun i u y hu hi=>?_
    ·obtain⟨x,g1,g2⟩:=h2 i y hi
     exact pQ g2 (ho i x g1)
    ·obtain⟨x,g1,g2⟩:=h2 i y hi
     exact ih m hmn (hh i u x hu g1) g2
  case a_ cs=>
   obtain⟨l,hl,rfl⟩:=A0b.1 h
   obtain⟨h1,h2⟩:=ig hl
   cases hr with
   | nil=>cases hl;exact .nil
   | emp hm'=>cases hl;exact .emp hm'
   | @a_ b off len cap size es val hs hc hx hz ho hS hw hh=>
    have tC:∀(i:Nat) (e':D) (j:Nat) (d':D),l[i]? = some e'→e'.cells[j]? = some d'→∃e k d,cs[i]? = some e∧e.cells[j]? = some d∧k≤n∧gW bs k d=some d':=by
     intro i e' j d' hi hj
     obtain⟨e,g1,g2⟩:=h2 i e' hi
     obtain⟨_,g3⟩:=yh g2
     obtain⟨k,d,g4,g5,g6⟩:=g3 j d' hj
     exact⟨e,k,d,g1,g5,by omega,g6⟩
    refine .a_ (size:=size) (val:=val) (by rw[hs,h1]) hc hx (fun i e' hi=>?_) (fun i e' j d' hi hj=>?_) (fun i e' j d' hi hj=>?_) (fun i e' j d' hi hj=>?_) fun i e' j d' hi hj=>?_
    ·obtain⟨e,g1,g2⟩:=h2 i e' hi
     rw[(yh g2).1]
     exact hz i e g1
    ·obtain⟨e,k,d,g1,g2,g3,g4⟩:=tC i e' j d' hi hj
     exact pQ g4 (ho i e j d g1 g2)
    ·obtain⟨e,k,d,g1,g2,g3,g4⟩:=tC i e' j d' hi hj
     exact .inl (hS i e j d g1 g2)
    ·obtain⟨e,k,d,g1,g2,g3,g4⟩:=tC i e' j d' hi hj
     exact hw i e j d g1 g2
    ·obtain⟨e,k,d,g1,g2,g3,g4⟩:=tC i e' j d' hi hj
     exact ih k g3 (hh i e j d g1 g2) g4
  case ptr cs=>
   obtain⟨l,hl,rfl⟩:=A0b.1 h
   obtain⟨h1,h2⟩:=ig hl
   cases hr with
   | @ptr b off cs val ho hS hw hh=>
    refine .ptr (val:=val) (fun j y hj=>?_) (fun j y hj=>?_) (fun j y hj=>?_) fun j y hj=>?_
    ·obtain⟨x,g1,g2⟩:=h2 j y hj
     exact pQ g2 (ho j x g1)
    ·obtain⟨x,g1,g2⟩:=h2 j y hj
     exact .inl (hS j x g1)
    ·obtain⟨x,g1,g2⟩:=h2 j y hj
     exact hw j x g1
    ·obtain⟨x,g1,g2⟩:=h2 j y hj
     exact ih m hmn (hh j x g1) g2
  case aM cs=>
   obtain⟨l,hl,rfl⟩:=A0b.1 h
   obtain⟨h1,h2⟩:=ig hl
   cases hr with
   | aM hs hh=>
    refine .aM (by rw[hs,h1]) fun i u y hu hi=>?_
    obtain⟨x,g1,g2⟩:=h2 i y hi
    exact ih m hmn (hh i u x hu g1) g2
  case fq t x=>
   obtain⟨y,hy,rfl⟩:=A0b.1 h
   cases hr with
   | fq hh=>exact .fq (ih m hmn hh hy)
  case fn f a b=>
   obtain⟨a',ha,h⟩:=A0c.1 h
   obtain⟨b',hb,rfl⟩:=A0b.1 h
   obtain⟨a1,a2⟩:=ig ha
   obtain⟨b1,b2⟩:=ig hb
   cases hr with
   | fn hs hs' hh Kg=>
    refine .fn (by rw[hs,a1]) (by rw[hs',b1]) (fun i u y hu hi=>?_) fun i u y hu hi=>?_
    ·obtain⟨x,g1,g2⟩:=a2 i y hi
     exact ih m hmn (hh i u x hu g1) g2
    ·obtain⟨x,g1,g2⟩:=b2 i y hi
     exact ih m hmn (Kg i u x hu g1) g2
  case cO=>cases h;cases hr with | cO=>exact .nil
  case loc i off=>
   split at h
   ·rename_i e sz cs hb
    obtain⟨l,hl,rfl⟩:=A0b.1 h
    cases hr with
    | loc hi=>
     by_cases ho:off≤cs.length
     ·have hl':jK (gW bs m) ((cs.drop off).take (cs.length-off))=some l:=by rw[List.take_of_length_le (by simp)];exact hl
      obtain⟨_,val,hv⟩:=Q7 hb (by omega) hl'
      have hf:=hF i e sz cs hb
      exact .ptr (val:=val) (fun j y hj=>(hv j y hj).1) (fun j y hj=>.inr hf) (fun j y hj=>(hv j y hj).2.1) fun j y hj=>(hv j y hj).2.2
     ·rw[List.drop_of_length_le (by omega)] at hl
      cases hl
      exact .ptr (val:=fun _=>undef) (fun j y hj=>by simp at hj) (fun j y hj=>by simp at hj) (fun j y hj=>by simp at hj) fun j y hj=>by simp at hj
   ·cases h
  case sl i off len=>
   split at h
   ·rename_i e sz cs hb
    split at h
    ·rename_i hle
     obtain⟨l,hl,rfl⟩:=A0b.1 h
     obtain⟨M8,val,hv⟩:=Q7 hb hle hl
     have hf:=hF i e sz cs hb
     have hel:∀(k:Nat) (x:D),(if sz=1 then l else(chunks sz len l).map .agg)[k]? = some x→x.cells.length=sz∧∀(j:Nat) (y:D),x.cells[j]? = some y→l[k*sz+j]? = some y:=by
      intro k x hx
      split at hx
      ·rename_i h1
       subst h1
       have ho:=(hv k x hx).1
       rw[oS ho]
       refine⟨rfl,fun j y hy=>?_⟩
       cases j with
       | zero=>simp at hy;subst hy;rw[Nat.mul_one];exact hx
       | succ j=>simp at hy
      ·have hk:k<len:=by
        have:=(A0a.1 hx).1
        simpa[jb] using this
       rw[A0v,r7 hk] at hx
       cases hx
       have hks:k*sz+sz≤len*sz:=by
        have:=Nat.mul_le_mul_right sz (Nat.succ_le_of_lt hk)
        rw[Nat.succ_mul] at this
        exact this
       refine⟨by simp[D.cells];omega,fun j y hy=>?_⟩
       simp only[D.cells] at hy
       have hjs:j<sz:=by
        have:=(A0a.1 hy).1
        simp at this
        omega
       rw[List.getElem?_take_of_lt hjs,B0o] at hy
       exact hy
     have hlen:(if sz=1 then l else(chunks sz len l).map D.agg).length=len:=by
      split
      ·rename_i h1;rw[M8,h1,Nat.mul_one]
      ·simp[jb]
     cases hr with
     | sl hi hlc uY h0=>
      refine .a_ (size:=sz) (val:=fun k j=>val (k*sz+j)) hlen.symm hlc uY (fun k x hx=>(hel k x hx).1) (fun k x j y hx hy=>(hv _ y ((hel k x hx).2 j y hy)).1) (fun k x j y hx hy=>.inr hf) (fun k x j y hx hy=>?_) fun k x j y hx hy=>(hv _ y ((hel k x hx).2 j y hy)).2.2
      have:=(hv _ y ((hel k x hx).2 j y hy)).2.1
      rw[Nat.add_assoc]
      exact this
    ·cases h
   ·cases h
  all_goals cases h

theorem Pw {w:World}{S:Sets}{an:Nat→Prop}(hst:ck w S an bs)(n m:Nat)(hm:m≤n){d d':D}{v:Value}(hr:aZ w S v d)(h:gW bs m d=some d'):aZ w (S.or fun b _=>an b) v d':=
 yg hst (fun i e sz cs hi=>(hst.cells i e sz cs hi).1) n m hm hr h

end

theorem bC.gW {P:Program}{f:FuncId}{ds bs':List D}{d d':D}{n:Nat}(h:bC P f (.st []) ds (.ret d) (.st bs'))(hds:dH ds=true)(hm:Go.Am.gW bs' n d=some d')(bs:List D):aU P f (.st bs) ds d':=by
 intro w S an nF vs hb hst dF hfl hS hvl hrd
 let S0:Sets:={ mem:=S.mem,loc:=fun _=>0,n:=0,cap:=fun _=>0 }
 have yV:ck w S0 (fun _=>False) []:=⟨rfl,fun i e sz cs hi=>by simp at hi,fun b off hf=>hf.elim,fun i bH hi=>by simp at hi,fun i j x y hi=>by simp at hi,fun i z hi=>by simp at hi⟩
 refine(h w S0 (fun _=>False) [] vs rfl yV (fun l rec hl=>by cases hl) (fun _ hf=>hf.elim) hS hvl fun i v x hv hx=>(hrd i v x hv hx).free (fun _ _ h=>h) (fc hds hx)).mono ?_
 rintro e w' ⟨v,S',bf,ew,c_,fX,cL,hK,hle,hos,ng,hout,hsz,hold,hft,hnew,hlt⟩
 cases fX
 refine⟨v,{ S with mem:=(S'.or fun b _=>bf b).mem },⟨c_.1,(Pw cL n n (A0m _) c_.2 hm).free (fun _ _ h=>h) (qw hm)⟩,⟨⟨hos,ng.tape,hout,hsz,fun b hb=>hold b hb fun hf=>hf⟩,ng.dr⟩,⟨fun b o h=>.inl (hle.mem b o h),A0m _,fun _ _=>rfl,fun _ _=>rfl,rfl,fun _ _=>rfl⟩,rfl,fun b o hs=>?_,fun b o hs=>?_⟩
 ·rcases hs with hs | hs
  ·rcases hnew b o hs with g | g | g
   ·exact .inl g
   ·exact g.elim
   ·exact .inr g
  ·exact .inr ((hft b hs).1.elim (fun h=>h.elim) id)
 ·rcases hs with hs | hs
  ·exact hlt b o hs
  ·exact(hft b hs).2

def oI:List D→Bool
 | []=>true
 | [.nL _ _ _]=>true
 | _=>false

theorem C6 {w:World}{S:Sets}{an:Nat→Prop}{g:Nat}{t:TypeId}{vs:List Value}{bs:List D}(hst:ck w S an (.nL g t vs :: bs))(hfl:∀b,an b→b<w.heap.size) :
  S.loc 0=g∧an g∧g<w.heap.size∧w.heap[g]? = some (.cells vs.toArray t (0,0))∧(∀off,¬S g off)∧ck w { mem:=S.mem,loc:=fun _=>g,n:=1,cap:=fun _=>0 } (fun b=>b=g) [.nL g t vs]:=by
 obtain⟨hf,⟨ji,hh,qA⟩,jk⟩:=hst.pV 0 _ rfl rfl
 rw[ji] at hf hh jk
 refine⟨ji,hf,hfl g hf,hh,jk,rfl,fun i e sz cs hi=>?_,fun b off hb hs=>?_,fun i bH hi=>?_,fun i j x y hi hj _ _ _=>?_,fun i z hi hz=>?_⟩
 ·cases i <;> simp at hi
 ·subst hb;exact jk off hs
 ·cases i <;> simp at hi
 ·have:=(A0a.1 hi).1
  have:=(A0a.1 hj).1
  simp at *
  omega
 ·cases i with
  | zero=>simp at hi;subst hi;exact⟨rfl,⟨rfl,hh,qA⟩,jk⟩
  | succ i=>simp at hi

theorem bC.W4 {P:Program}{f:FuncId}{ds bs':List D}{d d':D}{n:Nat}{g:Nat}{t:TypeId}{vs:List Value}(h:bC P f (.st [.nL g t vs]) ds (.ret d) (.st (.nL g t vs :: bs')))(hds:dH ds=true)(hm:Go.Am.gW (.nL g t vs :: bs') n d=some d')(bs:List D):aU P f (.st (.nL g t vs :: bs)) ds d':=by
 intro w S an nF ws hb hst dF hfl hS hvl hrd
 cases hb
 obtain⟨ji,hfg,I6,hhg,jk,yV⟩:=C6 hst hfl
 refine(h w _ _ _ ws rfl yV (fun l rec hl=>by cases hl) (fun b hb=>hb ▸ I6) hS hvl fun i v x hv hx=>(hrd i v x hv hx).free (fun _ _ h=>h) (fc hds hx)).mono ?_
 rintro e w' ⟨v,S',bf,ew,c_,fX,cL,hK,hle,hos,ng,hout,hsz,hold,hft,hnew,hlt⟩
 cases fX
 obtain⟨Ki,⟨oW,Kg,_⟩,_⟩:=cL.pV 0 _ rfl rfl
 rw[oW] at Kg Ki
 have hF:∀(i:Nat) (e:TypeId) (sz:Nat) (cs:List D),(D.nL g t vs :: bs')[i]? = some (.bh e sz cs)→bf (S'.loc i)∧S'.loc i≠g:=by
  intro i e sz cs hi
  refine⟨(cL.cells i e sz cs hi).1,fun he=>?_⟩
  have:=cL.inj i 0 _ _ hi rfl rfl rfl (he.trans oW.symm)
  subst this
  simp at hi
 have hold':∀b,b<w.heap.size→w'.heap[b]? = w.heap[b]?:=by
  intro b hb
  by_cases Qa:b=g
  ·rw[Qa,Kg,hhg]
  ·exact hold b hb Qa
 refine⟨v,{ S with mem:=(S'.or fun b _=>bf b∧b≠g).mem },⟨c_.1,(yg cL hF n n (A0m _) c_.2 hm).free (fun _ _ h=>h) (qw hm)⟩,⟨⟨hos,ng.tape,hout,hsz,fun b hb=>hold' b hb⟩,ng.dr⟩,⟨fun b o h=>.inl (hle.mem b o h),A0m _,fun _ _=>rfl,fun _ _=>rfl,rfl,fun _ _=>rfl⟩,rfl,fun b o hs=>?_,fun b o hs=>?_⟩
 ·rcases hs with hs | hs
  ·rcases hnew b o hs with k | k | k
   ·exact .inl k
   ·exfalso
    subst k
    exact cL.rH _ o Ki hs
   ·exact .inr k
  ·rcases(hft b hs.1).1 with k | k
   ·exact absurd k hs.2
   ·exact .inr k
 ·rcases hs with hs | hs
  ·exact hlt b o hs
  ·exact(hft b hs.1).2

theorem bC.JT {P:Program}{f:FuncId}{ds bs':List D}{o:Out}{g:Nat}{t:TypeId}{vs:List Value}(h:bC P f (.st [.nL g t vs]) ds o (.st (.nL g t vs :: bs')))(hds:dH ds=true)(ho:o.fO=true)(bs:List D):eD P f (.st (.nL g t vs :: bs)) ds o:=by
 intro w S an nF ws hb hst dF hfl hS hvl hrd
 cases hb
 obtain⟨ji,hfg,I6,hhg,jk,yV⟩:=C6 hst hfl
 refine(h w _ _ _ ws rfl yV (fun l rec hl=>by cases hl) (fun b hb=>hb ▸ I6) hS hvl fun i v x hv hx=>(hrd i v x hv hx).free (fun _ _ h=>h) (fc hds hx)).mono ?_
 rintro e w' ⟨v,S',bf,ew,c_,fX,cL,hK,hle,hos,ng,hout,hsz,hold,hft,hnew,hlt⟩
 cases fX
 obtain⟨Ki,⟨oW,Kg,_⟩,_⟩:=cL.pV 0 _ rfl rfl
 rw[oW] at Kg Ki
 have hold':∀b,b<w.heap.size→w'.heap[b]? = w.heap[b]?:=by
  intro b hb
  by_cases Qa:b=g
  ·rw[Qa,Kg,hhg]
  ·exact hold b hb Qa
 refine⟨v,{ S with mem:=S'.mem },?_,⟨⟨hos,ng.tape,hout,hsz,hold'⟩,ng.dr⟩,⟨hle.mem,A0m _,fun _ _=>rfl,fun _ _=>rfl,rfl,fun _ _=>rfl⟩,rfl,fun b o hs=>?_,hlt⟩
 ·cases o with
  | ret d=>exact⟨c_.1,c_.2.free (fun _ _ h=>h) ho⟩
  | dI d=>exact⟨c_.1,c_.2.free (fun _ _ h=>h) ho⟩
 ·rcases hnew b o hs with k | k | k
  ·exact .inl k
  ·exfalso
   subst k
   exact cL.rH _ o Ki hs
  ·exact .inr k

theorem eD.Sy {P:Program}{f:FuncId}{ds:List D}{o:Out}{g:Nat}{t:TypeId}{vs:List Value}(h:eD P f (.st [.nL g t vs]) ds o)(hds:dH ds=true)(ho:o.fO=true)(bs:List D):eD P f (.st (.nL g t vs :: bs)) ds o:=by
 intro w S an nF ws hb hst dF hfl hS hvl hrd
 cases hb
 obtain⟨ji,hfg,I6,hhg,jk,yV⟩:=C6 hst hfl
 refine(h w _ _ _ ws rfl yV (fun l rec hl=>by cases hl) (fun b hb=>hb ▸ I6) hS hvl fun i v x hv hx=>(hrd i v x hv hx).free (fun _ _ h=>h) (fc hds hx)).mono ?_
 rintro e w' ⟨v,S',c_,hb,hle,FE,hnew,hlt⟩
 refine⟨v,{ S with mem:=S'.mem },?_,hb,⟨hle.mem,A0m _,fun _ _=>rfl,fun _ _=>rfl,rfl,fun _ _=>rfl⟩,rfl,hnew,hlt⟩
 cases o with
 | ret d=>exact⟨c_.1,c_.2.free (fun _ _ h=>h) ho⟩
 | dI d=>exact⟨c_.1,c_.2.free (fun _ _ h=>h) ho⟩

def z6 (b0 bs:List D):Bool:=D.eJ (bs.take b0.length) b0

theorem qG {b0 bs:List D}(h:z6 b0 bs=true):∃r,bs=b0++r:=⟨bs.drop b0.length,by
 have:=D.cF h
 conv=>lhs;rw[←List.take_append_drop b0.length bs,this]⟩

theorem r9 {b0:List D}(h:oI b0=true):b0=[]∨∃g t vs,b0=[.nL g t vs]:=by
 unfold oI at h
 split at h
 ·exact .inl rfl
 ·exact .inr ⟨_,_,_,rfl⟩
 ·cases h

theorem bC.Rc {P:Program}{f:FuncId}{b0 ds r:List D}{d d':D}{n:Nat}(h0:oI b0=true)(h:bC P f (.st b0) ds (.ret d) (.st (b0++r)))(hds:dH ds=true)(hm:Go.Am.gW (b0++r) n d=some d')(bs:List D):aU P f (.st (b0++bs)) ds d':=by
 rcases r9 h0 with rfl | ⟨g,t,vs,rfl⟩
 ·exact bC.gW h hds hm bs
 ·exact bC.W4 h hds hm bs

theorem bC.JU {P:Program}{f:FuncId}{b0 ds r:List D}{o:Out}(h0:oI b0=true)(h:bC P f (.st b0) ds o (.st (b0++r)))(hds:dH ds=true)(ho:o.fO=true)(bs:List D):eD P f (.st (b0++bs)) ds o:=by
 rcases r9 h0 with rfl | ⟨g,t,vs,rfl⟩
 ·exact h.yy hds ho bs
 ·exact h.JT hds ho bs

theorem eD.ofA {P:Program}{f:FuncId}{b0 ds:List D}{o:Out}(h0:oI b0=true)(h:eD P f (.st b0) ds o)(hds:dH ds=true)(ho:o.fO=true)(bs:List D):eD P f (.st (b0++bs)) ds o:=by
 rcases r9 h0 with rfl | ⟨g,t,vs,rfl⟩
 ·exact h.x8 hds bs
 ·exact h.Sy hds ho bs

end
end

section
noncomputable section

/-! ## expressions that do not name one of the data -/

def E.mY (k:Nat):E→Bool
 | .sym j=>j != k
 | .const _ | .nil | .ai=>true
 | .un _ a | .conv _ a | .bD a | .fP a | .aV a | .cell _ a | .cells _ _ a | .br _ a | .one a | .dL a | .au _ a | .rep _ a _ | .deref a | .fq _ a | .aD _ a | .nn a | .aC a=>a.mY k
 | .bin _ _ a b | .idx a b | .qK _ a b | .cons a b | .app _ _ a b | .bP a b | .dO _ a b | .ah a b | .mm _ a b | .av _ a b | .ld _ _ a b | .fK _ _ a b | .dR _ _ a b | .cY a b | .qL _ a b | .qM a b | .guard a _ b=>a.mY k&&b.mY k
 | .sub _ a b c | .set a b _ c | .ite a b c | .eY _ a b c | .fC _ _ _ a b c | .apps a b c=>a.mY k&&b.mY k&&c.mY k
 | .m4 _ a b c d=>a.mY k&&b.mY k&&c.mY k&&d.mY k

theorem E.Hu {k : Nat} {env env' : List D} (he : ∀ j, j ≠ k → env'[j]? = env[j]?) : ∀ (x : E), x.mY k = true → x.eval env' = x.eval env := by
  intro x
  induction x <;> intro h <;> simp only [E.mY, A0g, bne_iff_ne, ne_eq] at h <;> simp only [E.eval]
  case sym j => exact he j h
  case ite c a b hc ha hb => rw [hc h.1.1, ha h.1.2, hb h.2]
  case guard c w a hc ha => rw [hc h.1, ha h.2]
  all_goals first
    | rfl
    | (rename_i ha; rw [ha h])
    | (rename_i ha hb; rw [ha h.1, hb h.2])
    | (rename_i ha hb hc; rw [ha h.1.1, hb h.1.2, hc h.2])
    | (rename_i ha hb hc hd; rw [ha h.1.1.1, hb h.1.1.2, hc h.1.2, hd h.2])

/-! ## the evaluator -/

def IW:Option D→Option Bool
 | some (.mO b)=>some b
 | _=>none

def Cy:Option D→Bool
 | some (.aM [])=>true
 | _=>false

theorem Et {x:Option D}{b:Bool}(h:IW x=some b):x=some (.mO b):=by
 unfold IW at h
 split at h
 ·cases h;rfl
 ·cases h

theorem uT {x:Option D}(h:Cy x=true):x=some (.aM []):=by
 unfold Cy at h
 split at h
 ·rfl
 ·cases h

structure we where
 R:FuncId→D→List D→Option Out
 W:FuncId→D→List D→Option (Out×D)
 F:FuncId→D→List D→Option D→Option D
 I:FuncId→D→List D→List D→(D→List D→Option (Bool×D))→Option (D×D)

abbrev Hand:=D→List D→Option (Bool×D)

def LG (l:Nat)(q:Option Nat)(i:Nat):eV→Option (Bool×D)
 | .jump l' [.st bs]=>if Cy bs[i]? = true then(if l'=l then some (true,.st (bs.set i (.mO false))) else if l'=l+1∧q.isSome=true then some (false,.st (bs.set i (.mO true))) else none) else none
 | .ret (.st bs)=>if Cy bs[i]? = true∧q=none then some (false,.st (bs.set i (.mO true))) else none
 | _=>none

def zC (yk:Option (Nat×Hand))(env:List D)(x:E):Option D:=
 match yk with
 | none=>x.eval env
 | some (k,_)=>if x.mY k=true then x.eval env else none

def iK (yk:Option (Nat×Hand))(env:List D):List E→Option (List D)
 | []=>some []
 | x :: r=>(zC yk env x).bind fun d=>(iK yk env r).map (d :: ·)

def rm (yk:Option (Nat×Hand))(env:List D):List (E×Bool)→Option Bool
 | []=>some true
 | p :: r=>(zC yk env p.1).bind fun d=>(rm yk env r).map fun b=>D.same d (.v (.bool p.2))&&b

def BW:eV→eV→Bool
 | .jump l a,.jump m b=>decide (l=m)&&D.eJ a b
 | .ret a,.ret b=>D.same a b
 | .dI a b s c,.dI a' b' s' c'=>D.same a a'&&D.same b b'&&decide (s=s')&&D.eJ c c'
 | _,_=>false

def qa (l:Nat)(body:List D→Option eV):Nat→List D→Option eV
 | 0,_=>none
 | n+1,ds=>(body ds).bind fun s=>match s with
  | .jump l' ds'=>if l'=l then qa l body n ds' else some s
  | _=>some s

def SP (yk:Option (Nat×Hand))(x:E):Option Hand:=
 match yk,x with
 | some (k,hd),.sym j=>if j=k then some hd else none
 | _,_=>none

def kD (P:Program)(o:we)(n:Nat)(yk:Option (Nat×Hand)):T→List D→Option eV
  | .bind (.ev x) t,env=>(zC yk env x).bind fun d=>kD P o n yk t (env++[d])
  | .bind (.call act f h args rs) t,env=>(rm yk env act).bind fun b=>
      if b=true then(zC yk env h).bind fun st=>(iK yk env args).bind fun ds=>(o.R f st ds).bind fun r=>match r with
        | .ret d=>if d.fits rs=true then kD P o n yk t (env++[d]) else none
        | .dI _=>none
      else kD P o n yk t (env++[D.undef])
  | .bind (.bA act f h args rs) t,env=>(rm yk env act).bind fun b=>(zC yk env h).bind fun st=>
      if b=true then(iK yk env args).bind fun ds=>(o.W f st ds).bind fun r=>match r with
       |(.ret d,h')=>if d.fits rs=true then kD P o n yk t (env++[.aM [d,h']]) else none
        | _=>none
      else kD P o n yk t (env++[.aM [D.undef,st]])
  | .bind (.ey act x h args rs) t,env=>(rm yk env act).bind fun b=>
      if b=true then(zC yk env x).bind fun xd=>(zC yk env h).bind fun st=>(iK yk env args).bind fun ds=>match xd with
        | .fn f us cs=>if bu P f=true then(o.R f st (us++ds++cs)).bind fun r=>match r with
          | .ret d=>if d.fits rs=true then kD P o n yk t (env++[d]) else none
          | .dI _=>none
          else none
        | _=>none
      else kD P o n yk t (env++[D.undef])
  | .bind (.dA act x h args rs) t,env=>(rm yk env act).bind fun b=>(zC yk env h).bind fun st=>
      if b=true then(iK yk env args).bind fun ds=>match SP yk x with
        | some hd=>(hd st ds).bind fun r=>if(D.bool r.1).fits rs=true then kD P o n yk t (env++[.aM [.bool r.1,r.2]]) else none
        | none=>(zC yk env x).bind fun xd=>match xd with
          | .fn f us cs=>if bu P f=true then(o.W f st (us++ds++cs)).bind fun r=>match r with
           |(.ret d,h')=>if d.fits rs=true then kD P o n yk t (env++[.aM [d,h']]) else none
            | _=>none
            else none
          | _=>none
      else kD P o n yk t (env++[.aM [D.undef,st]])
  | .ite c a b,env=>(zC yk env c).bind fun d=>match d with
    | .v (.bool true)=>kD P o n yk a env
    | .v (.bool false)=>kD P o n yk b env
    | _=>none
  | .loop l inits body,env=>(iK yk env inits).bind fun ds=>qa l (fun ds=>if ds.length=inits.length then kD P o n yk body (env++ds) else none) n ds
  | .join l m body rest,env=>(kD P o n yk body env).bind fun s=>match s with
    | .jump l' ds=>if l'=l then(if ds.length=m then kD P o n yk rest (env++ds) else none) else some s
    | _=>some s
  | .jump l vals,env=>(iK yk env vals).map (.jump l)
  | .ret x,env=>(zC yk env x).map .ret
  | .dI x h sl ks,env=>(zC yk env x).bind fun d=>(zC yk env h).bind fun st=>(iK yk env ks).map fun kd=>.dI d st sl kd
  | .jR x neg t,env=>(zC yk env x).bind fun d=>match d.isNil with
    | some [b]=>kD P o n yk t (env++[.v (.bool (b != neg))])
    | some [b,c]=>(kD P o n yk t (env++[.v (.bool (b != neg))])).bind fun s=>(kD P o n yk t (env++[.v (.bool (c != neg))])).bind fun s'=>if BW s s'=true then some s else none
    | _=>none
  | .pick _ _,_=>none
  | .E5 f keep bF res t,env=>(iK yk env bF).bind fun cU=>if cU.all D.Eu=true then(kD P o n yk t env).bind fun s=>match s with
      | .ret (.aM [.aM kd,st])=>(o.F f st cU none).bind fun cG=>(res.eval (kd++[cG])).map fun d'=>.ret (.aM [d',cG])
      | .dI d st sl kd=>if sl=keep then(o.F f st cU (some d)).bind fun cG=>(res.eval (kd++[cG])).map fun d'=>.ret (.aM [d',cG]) else none
      | _=>none
    else none
  | .gV f h args rs sl ks t,env=>(zC yk env h).bind fun st=>(iK yk env args).bind fun ds=>(o.R f st ds).bind fun r=>match r with
    | .ret d=>if d.fits rs=true then kD P o n yk t (env++[d]) else none
    | .dI d=>(iK yk env ks).map fun kd=>.dI d st sl kd
  | .fR f h args rs sl ks t,env=>(zC yk env h).bind fun st=>(iK yk env args).bind fun ds=>(o.W f st ds).bind fun r=>match r with
   |(.ret d,h')=>if d.fits rs=true then kD P o n yk t (env++[.aM [d,h']]) else none
   |(.dI d,h')=>(iK yk env ks).map fun kd=>.dI d h' sl kd
  | .e9 x h args rs sl ks t,env=>(zC yk env x).bind fun xd=>(zC yk env h).bind fun st=>(iK yk env args).bind fun ds=>match xd with
    | .fn f us cs=>if bu P f=true then(o.W f st (us++ds++cs)).bind fun r=>match r with
     |(.ret d,h')=>if d.fits rs=true then kD P o n yk t (env++[.aM [d,h']]) else none
     |(.dI d,h')=>(iK yk env ks).map fun kd=>.dI d h' sl kd
      else none
    | _=>none
  | .lZ x h _ bF m l body rest,env=>match yk with
    | some _=>none
    | none=>(x.eval env).bind fun xd=>(h.eval env).bind fun st=>(aq env bF).bind fun cU=>match xd with
      | .fn f us cs=>if bu P f=true∧aT cU=true then
          (o.I f st us cs fun me ds=>if me.dG=true∧aT ds=true∧ds.length=m then(match kD P o n none body (env++[me]++ds) with
            | some (.jump l' [gA])=>if l'=l then some (true,gA) else none
            | _=>none) else none).bind fun r=>if r.2.dG=true then kD P o n none rest (env++[r.2]) else none
        else none
      | _=>none
  | .kK x h _ bF m l q body rest o7,env=>match yk with
    | some _=>none
    | none=>(x.eval env).bind fun xd=>(h.eval env).bind fun st=>(aq env bF).bind fun _=>match xd,st with
      | .fn f us cs,.st bs=>if bu P f=true then
          (o.I f (.st (bs++[.mO false])) us cs fun me ds=>match me with
            | .st ew=>if IW ew[bs.length]? = some false∧ds.length=m then(kD P o n none body (env++[.st (ew.set bs.length (.aM []))]++ds)).bind (LG l q bs.length) else none
            | _=>none).bind fun r=>match r.2 with
            | .st gi=>(IW gi[bs.length]?).bind fun b=>bif b then kD P o n none o7 (env++[.st (gi.set bs.length (.aM []))]) else kD P o n none rest (env++[.st (gi.set bs.length (.aM []))])
            | _=>none
        else none
      | _,_=>none

theorem F4 {l i:Nat}{q:Option Nat}{s:eV}{b:Bool}{st:D}(h:LG l q i s=some (b,st)):∃bs,s=xL l q b (.st bs)∧st=.st (bs.set i (.mO !b))∧bs[i]? = some (.aM []):=by
 unfold LG at h
 split at h
 ·rename_i l' bs
  split at h
  ·rename_i hd
   split at h
   ·rename_i hl
    cases h
    exact⟨bs,by rw[hl];rfl,rfl,uT hd⟩
   ·split at h
    ·rename_i hq
     cases h
     obtain⟨hl,hq⟩:=hq
     cases q with
     | none=>cases hq
     | some id=>exact⟨bs,by rw[hl];rfl,rfl,uT hd⟩
    ·cases h
  ·cases h
 ·rename_i bs
  split at h
  ·rename_i hd
   cases h
   exact⟨bs,by rw[hd.2];rfl,rfl,uT hd.1⟩
  ·cases h
 ·cases h

structure jC (P:Program)(o:we):Prop where
 R:∀f st ds r,o.R f st ds=some r→eD P f st ds r
 W:∀f st ds r h',o.W f st ds=some (r,h')→bC P f st ds r h'
 F:∀f st cs m cG,o.F f st cs m=some cG→sq P f st cs m cG
 I:∀f st us cs hd d cG,o.I f st us cs hd=some (d,cG)→∀y:D,y.one=true→(∀st ds b cG,hd st ds=some (b,cG)→t_ P y st ds (.bool b) cG)→bt P f st (us++[y]++cs) d cG

def AP (P:Program)(yk:Option (Nat×Hand))(env env':List D):Prop:=
 match yk with
 | none=>env'=env
 | some (k,hd)=>k<env.length∧env'.length=env.length∧(∀j,j≠k→env'[j]? = env[j]?)∧∃y:D,env'[k]? = some y∧y.one=true∧∀st ds b cG,hd st ds=some (b,cG)→t_ P y st ds (.bool b) cG

section
variable {P:Program} {o:we} {n:Nat} {yk:Option (Nat×Hand)}

theorem AP.more {env env':List D}(h:AP P yk env env')(ds:List D):AP P yk (env++ds) (env'++ds):=by
 unfold AP at h ⊢
 split
 ·rw[h]
 ·rename_i k hd
  obtain⟨h1,h2,h3,y,h4,h5,h6⟩:=h
  refine⟨by simp;omega,by simp[h2],fun j hj=>?_,y,by rw[A0j (by omega)];exact h4,h5,h6⟩
  rcases Nat.lt_or_ge j env.length with hl | hl
  ·rw[A0j (by omega),A0j hl]
   exact h3 j hj
  ·rw[A0l (by omega),A0l hl,h2]

theorem cV {env env':List D}(h:AP P yk env env'){x:E}{d:D}(hx:zC yk env x=some d):x.eval env'=some d:=by
 unfold zC at hx
 unfold AP at h
 split at hx
 ·rw[h];exact hx
 ·rename_i k hd
  split at hx
  ·rename_i hn
   rw[E.Hu h.2.2.1 x hn]
   exact hx
  ·cases hx

theorem dj {env env':List D}(h:AP P yk env env'):∀{l:List E} {ds:List D},iK yk env l=some ds→aq env' l=some ds
 | [],ds,hd=>by simpa[iK,aq] using hd
 | x :: r,ds,hd=>by
  simp only[iK,A0c,A0b] at hd
  obtain⟨d,h1,ds',h2,rfl⟩:=hd
  simp only[aq,cV h h1,dj h h2,A0d,A0y]

theorem g9 {env env':List D}(h:AP P yk env env'):∀{act:List (E×Bool)} {b:Bool},rm yk env act=some b→(∀p,p∈act→∃d,p.1.eval env'=some d)∧(b=true↔aQ env' act)
 | [],b,hb=>by
  simp only[rm,A0u] at hb
  subst hb
  exact⟨by simp,by simp[lq]⟩
 | p :: r,b,hb=>by
  simp only[rm,A0c,A0b] at hb
  obtain⟨d,h1,b',h2,rfl⟩:=hb
  obtain⟨h3,h4⟩:=g9 h h2
  have hx:=cV h h1
  refine⟨fun q hq=>?_,?_⟩
  ·cases hq with
   | head=>exact⟨d,hx⟩
   | tail _ hq=>exact h3 q hq
  ·rw[A0g,h4]
   constructor
   ·rintro⟨g1,g2⟩ q hq
    cases hq with
    | head=>rw[hx,D.b_ g1]
    | tail _ hq=>exact g2 q hq
   ·intro g
    refine⟨?_,fun q hq=>g q (by simp[hq])⟩
    have:=g p (by simp)
    rw[hx] at this
    cases this
    simp[D.same,Value.same]

theorem F7 {s s':eV}(h:BW s s'=true):s=s':=by
 unfold BW at h
 split at h
 ·simp only[A0g,decide_eq_true_eq] at h;rw[h.1,D.cF h.2]
 ·rw[D.b_ h]
 ·simp only[A0g,decide_eq_true_eq] at h;rw[D.b_ h.1.1.1,D.b_ h.1.1.2,h.1.2,D.cF h.2]
 ·cases h

theorem p_ {l:Nat}{ev:List D→Option eV}{body:List D→(eV→Prop)→Prop}{s:eV}(hb:∀ds s',ev ds=some s'→∀Q:eV→Prop,Q s'→body ds Q):∀(n:Nat) (ds:List D),qa l ev n ds=some s→rounds l body (fun s'=>s'=s) n ds
 | 0,ds,h=>by simp[qa] at h
 | n+1,ds,h=>by
  simp only[qa,A0c] at h
  obtain⟨s1,h1,h2⟩:=h
  refine hb ds s1 h1 _ ?_
  cases s1 with
  | jump l' ds'=>
   simp only[cC] at h2 ⊢
   split at h2
   ·rename_i e;rw[if_pos e];exact p_ hb n ds' h2
   ·rename_i e;rw[if_neg e];cases h2;rfl
  | ret d=>cases h2;rfl
  | dI d st sl kd=>cases h2;rfl

theorem GW {env env':List D}(h:AP P yk env env'){x:E}{hd:Hand}(hx:SP yk x=some hd):∃y:D,x.eval env'=some y∧y.one=true∧∀st ds b cG,hd st ds=some (b,cG)→t_ P y st ds (.bool b) cG:=by
 unfold SP at hx
 split at hx
 ·rename_i k dY j
  split at hx
  ·rename_i e
   cases hx
   subst e
   obtain⟨_,_,_,y,h4,h5,h6⟩:=h
   exact⟨y,h4,h5,h6⟩
  ·cases hx
 ·cases hx

theorem vb (ho:jC P o):∀{t:T} {yk:Option (Nat×Hand)} {env env':List D} {s:eV},AP P yk env env'→kD P o n yk t env=some s→den P t env' fun s'=>s'=s:=by
  intro t
  induction t with
  | bind b t ih=>
    intro yk env env' s hy h
    cases b with
    | ev x=>
      simp only[kD,A0c] at h
      obtain⟨d,h1,h2⟩:=h
      exact⟨d,cV hy h1,ih (hy.more [d]) h2⟩
    | call act f hE args rs=>
      simp only[kD,A0c] at h
      obtain⟨b,h1,h2⟩:=h
      obtain⟨g1,g2⟩:=g9 hy h1
      split at h2
      · obtain⟨st,k1,ds,k2,r,k3,k4⟩:=(by simpa only[A0c] using h2:∃st,zC yk env hE=some st∧∃ds,iK yk env args=some ds∧∃r,o.R f st ds=some r∧_)
        split at k4
        · rename_i d
          split at k4
          · rename_i hf
            exact⟨g1,d,fun _=>⟨st,ds,cV hy k1,dj hy k2,ho.R _ _ _ _ k3,hf⟩,ih (hy.more [d]) k4⟩
          · cases k4
        · cases k4
      · rename_i hb
        exact⟨g1,D.undef,fun ha=>absurd (g2.2 ha) hb,ih (hy.more _) h2⟩
    | bA act f hE args rs=>
      simp only[kD,A0c] at h
      obtain⟨b,h1,st,k1,h2⟩:=h
      obtain⟨g1,g2⟩:=g9 hy h1
      split at h2
      · rename_i hb
        obtain⟨ds,k2,r,k3,k4⟩:=(by simpa only[A0c] using h2:∃ds,iK yk env args=some ds∧∃r,o.W f st ds=some r∧_)
        split at k4
        · rename_i d h'
          split at k4
          · rename_i hf
            exact⟨g1,st,d,h',cV hy k1,fun _=>⟨ds,dj hy k2,ho.W _ _ _ _ _ k3,hf⟩,fun hn=>absurd (g2.1 hb) hn,ih (hy.more _) k4⟩
          · cases k4
        · cases k4
      · rename_i hb
        exact⟨g1,st,D.undef,st,cV hy k1,fun ha=>absurd (g2.2 ha) hb,fun _=>rfl,ih (hy.more _) h2⟩
    | ey act x hE args rs=>
      simp only[kD,A0c] at h
      obtain⟨b,h1,h2⟩:=h
      obtain⟨g1,g2⟩:=g9 hy h1
      split at h2
      · obtain⟨xd,k0,st,k1,ds,k2,k3⟩:=(by simpa only[A0c] using h2:∃xd,zC yk env x=some xd∧∃st,zC yk env hE=some st∧∃ds,iK yk env args=some ds∧_)
        split at k3
        · rename_i f us cs
          split at k3
          · rename_i dP
            obtain⟨r,k3,k4⟩:=A0c.1 k3
            split at k4
            · rename_i d
              split at k4
              · rename_i hf
                exact⟨g1,d,fun _=>⟨f,us,cs,st,ds,cV hy k0,dP,cV hy k1,dj hy k2,ho.R _ _ _ _ k3,hf⟩,ih (hy.more [d]) k4⟩
              · cases k4
            · cases k4
          · cases k3
        · cases k3
      · rename_i hb
        exact⟨g1,D.undef,fun ha=>absurd (g2.2 ha) hb,ih (hy.more _) h2⟩
    | dA act x hE args rs=>
      simp only[kD,A0c] at h
      obtain⟨b,h1,st,k1,h2⟩:=h
      obtain⟨g1,g2⟩:=g9 hy h1
      split at h2
      · rename_i hb
        obtain⟨ds,k2,h2⟩:=A0c.1 h2
        split at h2
        · rename_i hd Ew
          obtain⟨y,y1,y2,y3⟩:=GW hy Ew
          obtain⟨⟨b',h'⟩,k3,k4⟩:=A0c.1 h2
          split at k4
          · rename_i hf
            exact⟨g1,st,.bool b',h',cV hy k1,fun _=>⟨y,ds,y1,dj hy k2,y3 _ _ _ _ k3,hf⟩,fun hn=>absurd (g2.1 hb) hn,ih (hy.more _) k4⟩
          · cases k4
        · obtain⟨xd,k0,h2⟩:=A0c.1 h2
          split at h2
          · rename_i f us cs
            split at h2
            · rename_i dP
              obtain⟨r,k3,k4⟩:=A0c.1 h2
              split at k4
              · rename_i d h'
                split at k4
                · rename_i hf
                  exact⟨g1,st,d,h',cV hy k1,fun _=>⟨_,ds,cV hy k0,dj hy k2,⟨dP,ho.W _ _ _ _ _ k3⟩,hf⟩,fun hn=>absurd (g2.1 hb) hn,ih (hy.more _) k4⟩
                · cases k4
              · cases k4
            · cases h2
          · cases h2
      · rename_i hb
        exact⟨g1,st,D.undef,st,cV hy k1,fun ha=>absurd (g2.2 ha) hb,fun _=>rfl,ih (hy.more _) h2⟩
  | ite c a b iha ihb=>
    intro yk env env' s hy h
    simp only[kD,A0c] at h
    obtain⟨d,h1,h2⟩:=h
    have hx:=cV hy h1
    split at h2
    · exact⟨true,hx,(fun _=>iha hy h2),fun e=>(by cases e)⟩
    · exact⟨false,hx,(fun e=>(by cases e)),fun _=>ihb hy h2⟩
    · cases h2
  | loop l inits body ih=>
    intro yk env env' s hy h
    simp only[kD,A0c] at h
    obtain⟨ds,h1,h2⟩:=h
    refine⟨ds,dj hy h1,n,p_ (fun ds s' hs Q hq=>?_) n ds h2⟩
    split at hs
    · rename_i hl
      exact⟨hl,cB (fun s1 e=>by rw[e];exact hq) (ih (hy.more ds) hs)⟩
    · cases hs
  | join l m body rest ihb ihr=>
    intro yk env env' s hy h
    simp only[kD,A0c] at h
    obtain⟨s1,h1,h2⟩:=h
    show den P body env' _
    refine cB (fun s' e=>?_) (ihb hy h1)
    subst e
    cases s' with
    | jump l' ds=>
      simp only[cC] at h2 ⊢
      split at h2
      · rename_i e
        rw[if_pos e]
        split at h2
        · rename_i hl
          exact⟨hl,ihr (hy.more ds) h2⟩
        · cases h2
      · rename_i e;rw[if_neg e];cases h2;rfl
    | ret d=>cases h2;rfl
    | dI d st sl kd=>cases h2;rfl
  | jump l vals=>
    intro yk env env' s hy h
    simp only[kD,A0b] at h
    obtain⟨ds,h1,rfl⟩:=h
    exact⟨ds,dj hy h1,rfl⟩
  | ret x=>
    intro yk env env' s hy h
    simp only[kD,A0b] at h
    obtain⟨d,h1,rfl⟩:=h
    exact⟨d,cV hy h1,rfl⟩
  | dI x hE sl ks=>
    intro yk env env' s hy h
    simp only[kD,A0c,A0b] at h
    obtain⟨d,h1,st,h2,kd,h3,rfl⟩:=h
    exact⟨d,st,kd,cV hy h1,cV hy h2,dj hy h3,rfl⟩
  | pick x t ih=>
    intro yk env env' s hy h
    simp[kD] at h
  | jR x neg t ih=>
    intro yk env env' s hy h
    simp only[kD,A0c] at h
    obtain⟨d,h1,h2⟩:=h
    split at h2
    · rename_i b hb
      refine⟨d,[b],cV hy h1,hb,fun b' hb'=>?_⟩
      simp at hb'
      subst hb'
      exact ih (hy.more _) h2
    · rename_i b c hb
      obtain⟨s1,k1,h2⟩:=A0c.1 h2
      obtain⟨s2,k2,h2⟩:=A0c.1 h2
      split at h2
      · rename_i hs
        cases h2
        have:=F7 hs
        subst this
        refine⟨d,[b,c],cV hy h1,hb,fun b' hb'=>?_⟩
        simp at hb'
        rcases hb' with rfl | rfl
        · exact ih (hy.more _) k1
        · exact ih (hy.more _) k2
      · cases h2
    · cases h2
  | E5 f keep bF res t ih=>
    intro yk env env' s hy h
    simp only[kD,A0c] at h
    obtain⟨cU,h1,h2⟩:=h
    split at h2
    · rename_i ji
      obtain⟨s1,k1,h2⟩:=A0c.1 h2
      refine⟨cU,dj hy h1,ji,cB (fun s' e=>?_) (ih hy k1)⟩
      subst e
      split at h2
      · rename_i kd st
        obtain⟨cG,k2,h2⟩:=A0c.1 h2
        obtain⟨d',k3,rfl⟩:=A0b.1 h2
        exact⟨cG,d',ho.F _ _ _ _ _ k2,k3,rfl⟩
      · rename_i d st sl kd
        split at h2
        · rename_i hk
          obtain⟨cG,k2,h2⟩:=A0c.1 h2
          obtain⟨d',k3,rfl⟩:=A0b.1 h2
          exact⟨hk,cG,d',ho.F _ _ _ _ _ k2,k3,rfl⟩
        · cases h2
      · cases h2
    · cases h2
  | gV f hE args rs sl ks t ih=>
    intro yk env env' s hy h
    simp only[kD,A0c] at h
    obtain⟨st,h1,ds,h2,r,h3,h4⟩:=h
    refine⟨st,ds,r,cV hy h1,dj hy h2,ho.R _ _ _ _ h3,?_⟩
    cases r with
    | ret d=>
      simp only at h4
      split at h4
      · rename_i hf;exact⟨hf,ih (hy.more _) h4⟩
      · cases h4
    | dI d=>
      simp only at h4
      obtain⟨kd,k1,rfl⟩:=A0b.1 h4
      exact⟨kd,dj hy k1,rfl⟩
  | fR f hE args rs sl ks t ih=>
    intro yk env env' s hy h
    simp only[kD,A0c] at h
    obtain⟨st,h1,ds,h2,⟨r,h'⟩,h3,h4⟩:=h
    refine⟨st,ds,r,h',cV hy h1,dj hy h2,ho.W _ _ _ _ _ h3,?_⟩
    cases r with
    | ret d=>
      simp only at h4
      split at h4
      · rename_i hf;exact⟨hf,ih (hy.more _) h4⟩
      · cases h4
    | dI d=>
      simp only at h4
      obtain⟨kd,k1,rfl⟩:=A0b.1 h4
      exact⟨kd,dj hy k1,rfl⟩
  | e9 x hE args rs sl ks t ih=>
    intro yk env env' s hy h
    simp only[kD,A0c] at h
    obtain⟨xd,h0,st,h1,ds,h2,h3⟩:=h
    split at h3
    · rename_i f us cs
      split at h3
      · rename_i dP
        obtain⟨⟨r,h'⟩,h3,h4⟩:=A0c.1 h3
        refine⟨f,us,cs,st,ds,r,h',cV hy h0,dP,cV hy h1,dj hy h2,ho.W _ _ _ _ _ h3,?_⟩
        cases r with
        | ret d=>
          simp only at h4
          split at h4
          · rename_i hf;exact⟨hf,ih (hy.more _) h4⟩
          · cases h4
        | dI d=>
          simp only at h4
          obtain⟨kd,k1,rfl⟩:=A0b.1 h4
          exact⟨kd,dj hy k1,rfl⟩
      · cases h3
    · cases h3
  | lZ x hE sl bF m l body rest ihb ihr=>
    intro yk env env' s hy h
    cases yk with
    | some _=>simp[kD] at h
    | none=>
    have hy':env'=env:=hy
    subst hy'
    simp only[kD,A0c] at h
    obtain⟨xd,h1,st,h2,cU,h3,h4⟩:=h
    split at h4
    · rename_i f us cs
      split at h4
      · rename_i hc
        obtain⟨⟨d,cG⟩,k1,k2⟩:=A0c.1 h4
        split at k2
        · rename_i hn
          refine⟨f,us,cs,st,cU,d,cG,h1,hc.1,h2,h3,hc.2,hn,fun mm rec hspec=>ho.I _ _ _ _ _ _ _ k1 _ rfl fun me ds b gA hh=>?_,ihr (yk:=none) rfl k2⟩
          split at hh
          · rename_i uZ
            split at hh
            · rename_i l' st3 bz
              split at hh
              · rename_i hl
                cases hh
                subst hl
                exact⟨rfl,hspec me ds gA uZ.1 uZ.2.1 uZ.2.2 (ihb (yk:=none) rfl bz)⟩
              · cases hh
            · cases hh
          · cases hh
        · cases k2
      · cases h4
    · cases h4
  | kK x hE sl bF m l q body rest o7 ihb ihr ihq=>
    intro yk env env' s hy h
    cases yk with
    | some _=>simp[kD] at h
    | none=>
    have hy':env'=env:=hy
    subst hy'
    simp only[kD,A0c] at h
    obtain⟨xd,h1,st,h2,cU,h3,h4⟩:=h
    split at h4
    · rename_i f us cs bs
      split at h4
      · rename_i hc
        obtain⟨⟨d,cG⟩,k1,k2⟩:=A0c.1 h4
        split at k2
        · rename_i gi hst
          obtain⟨b,k3,k4⟩:=A0c.1 k2
          have k3:=Et k3
          have hlt:=(A0a.1 k3).1
          refine⟨f,us,cs,bs,cU,d,gi.set bs.length (.aM []),b,h1,hc,h2,h3,by rw[A0x,if_pos rfl,if_pos hlt],fun rec hspec=>?_,fun e=>?_,fun e=>?_⟩
          · have e:(gi.set bs.length (.aM [])).set bs.length (.mO b)=gi:=by
              rw[List.set_set]
              apply List.ext_getElem?
              intro j
              rw[A0x]
              split
              · rename_i e;subst e;first | rw[if_pos hlt,k3] | exact k3.symm
              · rfl
            rw[e]
            simp only at hst
            subst hst
            refine ho.I _ _ _ _ _ _ _ k1 _ rfl fun me ds b' gA hh=>?_
            try simp only at hh
            split at hh
            · split at hh
              · rename_i uZ
                obtain⟨s',g1,g2⟩:=A0c.1 hh
                obtain⟨bs3,e1,e2,e3⟩:=F4 g2
                subst e2
                exact⟨b',rfl,hspec _ ds b' bs3 (Et uZ.1) uZ.2 e3 (by rw[←e1];exact ihb (yk:=none) rfl g1)⟩
              · cases hh
            · cases hh
          · subst e;exact ihr (yk:=none) rfl k4
          · subst e;exact ihq (yk:=none) rfl k4
        · cases k2
      · cases h4
    · cases h4

end

/-! ## a table of functions -/

inductive Kn where
 | plain | defers (keep:List Nat) | gC
 deriving Inhabited

structure Entry where
 f:FuncId
 kn:Kn
 cf:bV
 own:Bool
 aL:List Bool
 t:T
 nd:Bool:=false

def ak (P:Program)(e:Entry):Prop:=
 ∃fn,P.funcs[e.f]? = some fn∧bl P fn=e.aL∧match e.kn with
  | .plain=>ir P e.cf fn=some e.t
  | .defers keep=>gz P e.cf fn keep=some e.t
  | .gC=>lW P e.cf fn=some e.t

theorem ak.ay {P:Program}{f:FuncId}{cf:bV}{own:Bool}{aL:List Bool}{t:T}{fn:Func}(hf:P.funcs[f]? = some fn)(h1:bl P fn=aL)(h2:ir P cf fn=some t):ak P { f:=f,kn:=.plain,cf:=cf,own:=own,aL:=aL,t:=t }:=⟨fn,hf,h1,h2⟩

theorem ak.L6 {P:Program}{f:FuncId}{cf:bV}{own:Bool}{aL:List Bool}{t:T}{fn:Func}{keep:List Nat}(hf:P.funcs[f]? = some fn)(h1:bl P fn=aL)(h2:gz P cf fn keep=some t):ak P { f:=f,kn:=.defers keep,cf:=cf,own:=own,aL:=aL,t:=t }:=⟨fn,hf,h1,h2⟩

theorem ak.Gj {P:Program}{f:FuncId}{cf:bV}{own:Bool}{aL:List Bool}{t:T}{fn:Func}(hf:P.funcs[f]? = some fn)(h1:bl P fn=aL)(h2:lW P cf fn=some t):ak P { f:=f,kn:=.gC,cf:=cf,own:=own,aL:=aL,t:=t }:=⟨fn,hf,h1,h2⟩

abbrev ug:=List Entry

def A0:ug→FuncId→Option Entry
 | [],_=>none
 | e :: r,f=>if e.f=f then some e else A0 r f

theorem rD:∀{tb:ug} {f:FuncId} {e:Entry},A0 tb f=some e→e∈tb∧e.f=f
 | [],_,_,h=>by simp[A0] at h
 | e' :: r,f,e,h=>by
  simp only[A0] at h
  split at h
  ·rename_i hf;cases h;exact⟨by simp,hf⟩
  ·obtain⟨h1,h2⟩:=rD h;exact⟨by simp[h1],h2⟩

def Js:ug→FuncId→Option Entry
 | [],_=>none
 | e :: r,f=>if e.f=f then(if e.own||e.cf.ro then some e else Js r f) else Js r f

theorem uu:∀{tb:ug} {f:FuncId} {e:Entry},Js tb f=some e→e∈tb∧e.f=f
 | [],_,_,h=>by simp[Js] at h
 | e' :: r,f,e,h=>by
  simp only[Js] at h
  split at h
  ·rename_i hf
   split at h
   ·cases h;exact⟨by simp,hf⟩
   ·obtain⟨h1,h2⟩:=uu h;exact⟨by simp[h1],h2⟩
  ·obtain⟨h1,h2⟩:=uu h;exact⟨by simp[h1],h2⟩

def Jr:ug→FuncId→Option Entry
 | [],_=>none
 | e :: r,f=>if e.f=f then(if e.own then Jr r f else some e) else Jr r f

theorem ur:∀{tb:ug} {f:FuncId} {e:Entry},Jr tb f=some e→e∈tb∧e.f=f
 | [],_,_,h=>by simp[Jr] at h
 | e' :: r,f,e,h=>by
  simp only[Jr] at h
  split at h
  ·rename_i hf
   split at h
   ·obtain⟨h1,h2⟩:=ur h;exact⟨by simp[h1],h2⟩
   ·cases h;exact⟨by simp,hf⟩
  ·obtain⟨h1,h2⟩:=ur h;exact⟨by simp[h1],h2⟩

def Kn.calls:Kn→Bool
 | .gC=>false
 | _=>true

def NW (P:Program)(o:we)(n:Nat)(e:Entry)(bs ds:List D):Option (Out×List D):=
 if e.kn.calls=true∧cW e.aL ds=true then match kD P o n none e.t (ds++[.st bs]) with
  | some (.ret (.aM [d,.st bs']))=>some (.ret d,bs')
  | some (.dI d (.st bs') _ _)=>some (.dI d,bs')
  | _=>none
 else none

def Kn.tf:Kn→Bool
 | .plain=>true
 | _=>false

/-! ## functions whose runs differ,as a map's entries come in any order -/

def KW {α β:Type}(f:α→Option (List β)):List α→Option (List β)
 | []=>some []
 | x :: r=>(f x).bind fun a=>(KW f r).map (a++·)

theorem tV {α β:Type}{f:α→Option (List β)}:∀{l:List α} {ys:List β},KW f l=some ys→∀x,x∈l→∃zs,f x=some zs∧∀z,z∈zs→z∈ys
 | [],ys,_,x,hx=>by simp at hx
 | a :: r,ys,h,x,hx=>by
  simp only[KW,A0c,A0b] at h
  obtain⟨zs,h1,ws,h2,rfl⟩:=h
  rcases B0t.1 hx with rfl | hx
  ·exact⟨zs,h1,fun z hz=>List.mem_append_left _ hz⟩
  ·obtain⟨vs,g1,g2⟩:=tV h2 x hx
   exact⟨vs,g1,fun z hz=>List.mem_append_right _ (g2 z hz)⟩

def wG (l:Nat)(body:List D→Option (List eV)):Nat→List D→Option (List eV)
 | 0,_=>none
 | n+1,ds=>(body ds).bind (KW fun s=>match s with
  | .jump l' ds'=>if l'=l then wG l body n ds' else some [s]
  | _=>some [s])

def wq (P:Program)(o:we)(n:Nat):T→List D→Option (List eV)
 | .bind (.ev x) t,env=>(x.eval env).bind fun d=>wq P o n t (env++[d])
 | .bind (.call [] f h args rs) t,env=>(h.eval env).bind fun st=>(aq env args).bind fun ds=>(o.R f st ds).bind fun r=>match r with
   | .ret d=>if d.fits rs=true then wq P o n t (env++[d]) else none
   | .dI _=>none
 | .bind (.bA [] f h args rs) t,env=>(h.eval env).bind fun st=>(aq env args).bind fun ds=>(o.W f st ds).bind fun r=>match r with
  |(.ret d,h')=>if d.fits rs=true then wq P o n t (env++[.aM [d,h']]) else none
   | _=>none
 | .ite c a b,env=>(c.eval env).bind fun d=>match d with
  | .v (.bool true)=>wq P o n a env
  | .v (.bool false)=>wq P o n b env
  | _=>none
 | .loop l inits body,env=>(aq env inits).bind fun ds=>wG l (fun ds=>if ds.length=inits.length then wq P o n body (env++ds) else none) n ds
 | .join l m body rest,env=>(wq P o n body env).bind (KW fun s=>match s with
  | .jump l' ds=>if l'=l then(if ds.length=m then wq P o n rest (env++ds) else none) else some [s]
  | _=>some [s])
 | .jump l vals,env=>(aq env vals).map fun ds=>[.jump l ds]
 | .ret x,env=>(x.eval env).map fun d=>[.ret d]
 | .pick x t,env=>(x.eval env).bind fun d=>match d with
  | .a_ ys=>KW (fun y=>match y with
   | .aM [d,st]=>wq P o n t (env++[.aM [d,st]])
   | _=>some []) ys
  | _=>none
 | _,_=>none

theorem qQ {l:Nat}{body:List D→Option (List eV)}{bd:List D→(eV→Prop)→Prop}{Q:eV→Prop}(hb:∀ds ss,body ds=some ss→∀Q:eV→Prop,(∀s,s∈ss→Q s)→bd ds Q) :
  ∀(n:Nat) (ds:List D) (ss:List eV),wG l body n ds=some ss→(∀s,s∈ss→Q s)→rounds l bd Q n ds
 | 0,ds,ss,h,_=>by cases h
 | n+1,ds,ss,h,hq=>by
  simp only[wG,A0c] at h
  obtain⟨s1,h1,h2⟩:=h
  refine hb ds s1 h1 _ fun s hs=>?_
  obtain⟨zs,g1,g2⟩:=tV h2 s hs
  cases s with
  | jump l' ds'=>
   simp only[cC] at g1 ⊢
   split at g1
   ·rename_i e;rw[if_pos e];exact qQ hb n ds' zs g1 fun s hs=>hq s (g2 s hs)
   ·rename_i e;rw[if_neg e];cases g1;exact hq _ (g2 _ (by simp))
  | ret d=>cases g1;exact hq _ (g2 _ (by simp))
  | dI d st sl kd=>cases g1;exact hq _ (g2 _ (by simp))

theorem Kw {P:Program}{o:we}{n:Nat}(ho:jC P o):∀{t:T} {env:List D} {ss:List eV} {Q:eV→Prop},wq P o n t env=some ss→(∀s,s∈ss→Q s)→den P t env Q:=by
 intro t
 induction t with
 | bind b t ih=>
  intro env ss Q h hq
  cases b with
  | ev x=>
   simp only[wq,A0c] at h
   obtain⟨d,h1,h2⟩:=h
   exact⟨d,h1,ih h2 hq⟩
  | call act f hE args rs=>
   cases act with
   | cons _ _=>simp[wq] at h
   | nil=>
   simp only[wq,A0c] at h
   obtain⟨st,h1,ds,h2,r,h3,h4⟩:=h
   cases r with
   | dI _=>cases h4
   | ret d=>
    simp only at h4
    split at h4
    ·rename_i hf
     exact⟨by simp,d,fun _=>⟨st,ds,h1,h2,ho.R _ _ _ _ h3,hf⟩,ih h4 hq⟩
    ·cases h4
  | bA act f hE args rs=>
   cases act with
   | cons _ _=>simp[wq] at h
   | nil=>
   simp only[wq,A0c] at h
   obtain⟨st,h1,ds,h2,⟨r,h'⟩,h3,h4⟩:=h
   cases r with
   | dI _=>cases h4
   | ret d=>
    simp only at h4
    split at h4
    ·rename_i hf
     exact⟨by simp,st,d,h',h1,fun _=>⟨ds,h2,ho.W _ _ _ _ _ h3,hf⟩,fun hn=>absurd (fun p hp=>by cases hp) hn,ih h4 hq⟩
    ·cases h4
  | ey act x hE args rs=>simp[wq] at h
  | dA act x hE args rs=>simp[wq] at h
 | ite c a b iha ihb=>
  intro env ss Q h hq
  simp only[wq,A0c] at h
  obtain⟨d,h1,h2⟩:=h
  split at h2
  ·exact⟨true,h1,(fun _=>iha h2 hq),fun e=>(by cases e)⟩
  ·exact⟨false,h1,(fun e=>(by cases e)),fun _=>ihb h2 hq⟩
  ·cases h2
 | loop l inits body ih=>
  intro env ss Q h hq
  simp only[wq,A0c] at h
  obtain⟨ds,h1,h2⟩:=h
  refine⟨ds,h1,n,qQ (fun ds s1 hs Q hQ=>?_) n ds ss h2 hq⟩
  split at hs
  ·rename_i hl
   exact⟨hl,ih hs hQ⟩
  ·cases hs
 | join l m body rest ihb ihr=>
  intro env ss Q h hq
  simp only[wq,A0c] at h
  obtain⟨s1,h1,h2⟩:=h
  show den P body env _
  refine ihb h1 fun s hs=>?_
  obtain⟨zs,g1,g2⟩:=tV h2 s hs
  cases s with
  | jump l' ds=>
   simp only[cC] at g1 ⊢
   split at g1
   ·rename_i e
    rw[if_pos e]
    split at g1
    ·rename_i hl
     exact⟨hl,ihr g1 fun s hs=>hq s (g2 s hs)⟩
    ·cases g1
   ·rename_i e;rw[if_neg e];cases g1;exact hq _ (g2 _ (by simp))
  | ret d=>cases g1;exact hq _ (g2 _ (by simp))
  | dI d st sl kd=>cases g1;exact hq _ (g2 _ (by simp))
 | jump l vals=>
  intro env ss Q h hq
  simp only[wq,A0b] at h
  obtain⟨ds,h1,rfl⟩:=h
  exact⟨ds,h1,hq _ (by simp)⟩
 | ret x=>
  intro env ss Q h hq
  simp only[wq,A0b] at h
  obtain⟨d,h1,rfl⟩:=h
  exact⟨d,h1,hq _ (by simp)⟩
 | pick x t ih=>
  intro env ss Q h hq
  simp only[wq,A0c] at h
  obtain⟨d,h1,h2⟩:=h
  split at h2
  ·rename_i ys
   refine⟨ys,h1,fun d st hy=>?_⟩
   obtain⟨zs,g1,g2⟩:=tV h2 _ hy
   exact ih g1 fun s hs=>hq s (g2 s hs)
  ·cases h2
 | _=>intro env ss Q h hq;simp[wq] at h

def lP:Nat→List D→List D
 | _,[]=>[]
 | 0,x :: r=>(match x with | .itb _ _ _ | .BV _ _ | .mO _=>.aM [] | x=>x) :: lP 0 r
 | k+1,x :: r=>x :: lP k r

theorem yN:∀(k:Nat) (bs:List D),(lP k bs).length=bs.length∧∀(i:Nat) (x:D),(lP k bs)[i]? = some x→x.live=true→bs[i]? = some x
 | _,[]=>by simp[lP]
 | 0,y :: r=>by
  obtain⟨h1,h2⟩:=yN 0 r
  refine⟨by simp[lP,h1],fun i x hx hl=>?_⟩
  cases i with
  | zero=>
   simp only[lP,B0d,A0u] at hx
   subst hx
   split at hl <;> first | (cases hl;done) | rfl
  | succ i=>simp only[lP,List.getElem?_cons_succ] at hx ⊢;exact h2 i x hx hl
 | k+1,y :: r=>by
  obtain⟨h1,h2⟩:=yN k r
  refine⟨by simp[lP,h1],fun i x hx hl=>?_⟩
  cases i with
  | zero=>simpa[lP] using hx
  | succ i=>simp only[lP,List.getElem?_cons_succ] at hx ⊢;exact h2 i x hx hl

def B_ (k:Nat):List eV→Option (D×List D)
 | []=>none
 | [.ret (.aM [d,.st bs])]=>some (d,lP k bs)
 | .ret (.aM [d,.st bs]) :: r=>(B_ k r).bind fun x=>if D.same x.1 d=true∧D.eJ x.2 (lP k bs)=true then some x else none
 | _=>none

theorem x6 {k:Nat}:∀{ss:List eV} {d:D} {bs:List D},B_ k ss=some (d,bs)→∀s,s∈ss→∃ew,s=.ret (.aM [d,.st ew])∧bs=lP k ew
 | [],_,_,h,s,hs=>by simp at hs
 | s0 :: r,d,bs,h,s,hs=>by
  unfold B_ at h
  split at h
  ·cases h
  ·rename_i d0 nF e
   cases e
   cases h
   simp at hs
   exact⟨nF,hs,rfl⟩
  ·rename_i d0 nF r' _ e
   cases e
   obtain⟨⟨d1,ew⟩,h1,h2⟩:=A0c.1 h
   split at h2
   ·rename_i hc
    cases h2
    obtain⟨g1,g2⟩:=hc
    have g1:=D.b_ g1
    have g2:=D.cF g2
    simp only at g1 g2
    subst g1
    rcases B0t.1 hs with rfl | hs
    ·exact⟨nF,rfl,g2⟩
    ·exact x6 h1 s hs
   ·cases h2
  ·cases h

def NV (P:Program)(o:we)(n:Nat)(e:Entry)(bs ds:List D):Option (Out×List D):=
 if e.kn.tf=true∧cW e.aL ds=true then(wq P o n e.t (ds++[.st bs])).bind fun ss=>(B_ bs.length ss).map fun x=>(.ret x.1,x.2) else none

theorem ck.U5 {w:World}{S:Sets}{an:Nat→Prop}{bs bs':List D}(h:ck w S an bs)(h1:bs'.length=bs.length)(h2:∀(i:Nat) (x:D),bs'[i]? = some x→x.live=true→bs[i]? = some x):ck w S an bs' where
 n:=h.n.trans h1.symm
 cells i e sz cs hi:=h.cells i e sz cs (h2 i _ hi rfl)
 rH:=h.rH
 maps i bH hi:=h.maps i bH (h2 i _ hi rfl)
 inj i j x y hi hj hx hy:=h.inj i j x y (h2 i x hi hx) (h2 j y hj hy) hx hy
 pV i z hi hz:=h.pV i z (h2 i _ hi (D.ff hz)) hz

theorem E0 {P:Program}{o:we}{n:Nat}(ho:jC P o){e:Entry}(he:ak P e){bs ds bs':List D}{r:Out}(h:NV P o n e bs ds=some (r,bs')):bC P e.f (.st bs) ds r (.st bs'):=by
 unfold NV at h
 split at h
 ·rename_i hc
  obtain⟨hk,hfit⟩:=hc
  obtain⟨ss,h1,h2⟩:=A0c.1 h
  obtain⟨⟨d,gi⟩,h3,h4⟩:=A0b.1 h2
  cases h4
  obtain⟨fn,hf,pZ,hcomp⟩:=he
  rw[←pZ] at hfit
  have hkp:e.kn=.plain:=by
   cases hkn:e.kn with
   | plain=>rfl
   | defers _=>rw[hkn] at hk;cases hk
   | gC=>rw[hkn] at hk;cases hk
  rw[hkp] at hcomp
  have eb:=Kw (Q:=Ak (fun d' st=>d'=d∧∃ew,st=.st ew∧gi=lP bs.length ew) (fun _ _=>False)) ho h1 fun s hs=>by
   obtain⟨ew,rfl,hb⟩:=x6 h3 s hs
   exact⟨rfl,ew,rfl,hb⟩
  intro w S an nF vs hb hst dF hfl hS hvl hrd
  cases hb
  refine(lf (may:=an) hf hcomp hfit eb hst dF hfl hS hvl hrd (fun _ h=>.inr h) fun _ h=>h).mono ?_
  rintro x w' ⟨o',v,S',bf,bs3,hq,c_,hl⟩
  cases o' with
  | dI x=>exact hq.elim
  | ret x=>
   obtain⟨rfl,ew,e1,rfl⟩:=hq
   cases e1
   obtain⟨k1,k2⟩:=yN bs.length bs3
   exact⟨v,S',bf,_,c_,rfl,hl.st.U5 k1 k2,fun b o hs=>World.cell?_of_block (a:=⟨b,o,none⟩) (hl.old b (hS b o hs) fun hf=>hst.rH b o hf hs),hl.le,hl.os,hl.tape,hl.output,hl.size,hl.old,hl.ft,hl.new,hl.lt⟩
 ·cases h

def BZ (bs:List D):Option (Out×List D)→Option Out
 | some (r,bs')=>if D.eJ bs' bs=true then some r else none
 | none=>none

def Ge (b0:List D):Option (Out×List D)→Option Out
 | some (.ret d,bs)=>if z6 b0 bs=true then(gW bs 50 d).map .ret else none
 | some (.dI d,bs)=>if z6 b0 bs=true∧d.fO=true then some (.dI d) else none
 | none=>none

theorem BY {bs:List D}{x:Option (Out×List D)}{r:Out}(h:BZ bs x=some r):x=some (r,bs):=by
 unfold BZ at h
 split at h
 ·split at h
  ·rename_i hs;cases h;rw[D.cF hs]
  ·cases h
 ·cases h

theorem DO {P:Program}{f:FuncId}{b0 ds:List D}{x:Option (Out×List D)}{r:Out}(h0:oI b0=true)(h:Ge b0 x=some r)(hx:∀r' bs',x=some (r',bs')→bC P f (.st b0) ds r' (.st bs'))(hds:dH ds=true)(bs:List D):eD P f (.st (b0++bs)) ds r:=by
 unfold Ge at h
 split at h
 ·rename_i d bs'
  split at h
  ·rename_i hb
   obtain⟨q,rfl⟩:=qG hb
   obtain⟨d',h1,rfl⟩:=A0b.1 h
   exact bC.Rc h0 (hx _ _ rfl) hds h1 bs
  ·cases h
 ·split at h
  ·rename_i hb
   obtain⟨q,rfl⟩:=qG hb.1
   cases h;exact(hx _ _ rfl).JU h0 hds hb.2 bs
  ·cases h
 ·cases h

def oC (P:Program)(tb:ug)(n:Nat)(b0:List D)(o:we):we where
 R:=fun f st ds=>match st,Js tb f with
  | .st bs,some e=>if e.own=true then(if dH ds=true∧oI b0=true∧z6 b0 bs=true then Ge b0 (NW P o n e b0 ds) else none)
   else if e.cf.ro=true∧e.kn.tf=true then BZ bs (NW P o n e bs ds) else none
  | _,_=>none
 W:=fun f st ds=>match st,Jr tb f with
  | .st bs,some e=>(bif e.nd then NV P o n e bs ds else NW P o n e bs ds).map fun x=>(x.1,.st x.2)
  | _,_=>none
 F:=fun f st cs m=>match st,A0 tb f with
  | .st bs,some e=>(match e.kn with
   | .gC=>if cW e.aL cs=true∧(rE m).one=true then(match kD P o n none e.t (cs++[.st bs,rE m]) with
    | some (.ret (.aM [_,.st bs']))=>some (.st bs')
    | _=>none) else none
   | _=>none)
  | _,_=>none
 I:=fun f st us cs hd=>match st,A0 tb f with
  | .st bs,some e=>(match e.kn with
   | .plain=>if cW e.aL (us++[D.undef]++cs)=true∨cW e.aL (us++[.cO]++cs)=true then(match kD P o n (some (us.length,hd)) e.t (us++[.cO]++cs++[.st bs]) with
    | some (.ret (.aM [d,.st bs']))=>some (d,.st bs')
    | _=>none) else none
   | _=>none)
  | _,_=>none

section
variable {P:Program} {o:we} {n:Nat} {tb:ug} {b0:List D}

theorem rY (ho:jC P o){e:Entry}(he:ak P e){bs ds bs':List D}{r:Out}(h:NW P o n e bs ds=some (r,bs')):bC P e.f (.st bs) ds r (.st bs')∧(e.cf.ro=true→e.kn.tf=true→bs'=bs→eD P e.f (.st bs) ds r):=by
 unfold NW at h
 split at h
 ·rename_i hc
  obtain⟨hk,hfit⟩:=hc
  obtain⟨fn,hf,pZ,hcomp⟩:=he
  rw[←pZ] at hfit
  have key:∀s,kD P o n none e.t (ds++[.st bs])=some s→(∀s',s'=s→oU r (.st bs') s')→bC P e.f (.st bs) ds r (.st bs')∧(e.cf.ro=true→e.kn.tf=true→bs'=bs→eD P e.f (.st bs) ds r):=by
   intro s hs hend
   have eb:=cB hend (vb ho (yk:=none) rfl hs)
   cases hkn:e.kn with
   | plain=>
    rw[hkn] at hcomp
    exact⟨wZ hf hcomp hfit eb,fun hro _ hb=>by subst hb;exact Ho hro hf hcomp hfit eb⟩
   | defers keep=>
    rw[hkn] at hcomp
    exact⟨zo hf hcomp hfit eb,fun _ h=>(by simp[Kn.tf] at h)⟩
   | gC=>
    rw[hkn] at hk
    simp[Kn.calls] at hk
  split at h
  ·rename_i d ew hs
   cases h
   exact key _ hs fun s' e=>e
  ·rename_i d ew sl kd hs
   cases h
   exact key _ hs fun s' e=>⟨sl,kd,e⟩
  ·cases h
 ·cases h

theorem yc (htb:∀e,e∈tb→ak P e)(ho:jC P o):jC P (oC P tb n b0 o):=by
 refine⟨fun f st ds r h=>?_,fun f st ds r h' h=>?_,fun f st cs m cG h=>?_,fun f st us cs hd d cG h y hy hsp=>?_⟩
 ·simp only[oC] at h
  split at h
  ·rename_i bs e he
   obtain⟨h1,rfl⟩:=uu he
   split at h
   ·split at h
    ·rename_i hn
     obtain⟨q,rfl⟩:=qG hn.2.2
     exact DO hn.2.1 h (fun r' bs' bz=>(rY ho (htb e h1) bz).1) hn.1 q
    ·cases h
   ·split at h
    ·rename_i hro
     exact(rY ho (htb e h1) (BY h)).2 hro.1 hro.2 rfl
    ·cases h
  ·cases h
 ·simp only[oC] at h
  split at h
  ·rename_i bs e he
   obtain⟨h1,rfl⟩:=ur he
   obtain⟨⟨r',bs'⟩,h2,h3⟩:=A0b.1 h
   cases h3
   cases hnd:e.nd with
   | true=>rw[hnd] at h2;exact E0 ho (htb e h1) h2
   | false=>rw[hnd] at h2;exact(rY ho (htb e h1) h2).1
  ·cases h
 ·simp only[oC] at h
  split at h
  ·rename_i bs e he
   obtain⟨h1,rfl⟩:=rD he
   obtain⟨fn,hf,pZ,hcomp⟩:=htb e h1
   split at h
   ·rename_i hkn
    rw[hkn] at hcomp
    split at h
    ·rename_i hc
     split at h
     ·rename_i d0 bs' hs
      cases h
      exact NH hf hcomp (by rw[pZ];exact hc.1) hc.2 (vb ho (yk:=none) rfl hs)
     ·cases h
    ·cases h
   ·cases h
  ·cases h
 ·simp only[oC] at h
  split at h
  ·rename_i bs e he
   obtain⟨h1,rfl⟩:=rD he
   obtain⟨fn,hf,pZ,hcomp⟩:=htb e h1
   split at h
   ·rename_i hkn
    rw[hkn] at hcomp
    split at h
    ·rename_i hc
     split at h
     ·rename_i d0 bs' hs
      cases h
      have hy1:y.one=true:=hy
      have hfit:∀(z:D),z.one=true∨z.one=false→∀(aL:List Bool) (us:List D),cW aL (us++[z]++cs)=true→cW aL (us++[y]++cs)=true:=by
       intro z _ aL
       induction aL with
       | nil=>intro us hh;cases us <;> simp[cW] at hh
       | cons b aL ih=>
        intro us hh
        cases us with
        | nil=>
         simp only[A0r,A0q,cW,A0g,Bool.or_eq_true,Bool.not_eq_true'] at hh ⊢
         exact⟨.inr hy1,hh.2⟩
        | cons u us=>
         simp only[A0q,cW,A0g] at hh ⊢
         exact⟨hh.1,ih us hh.2⟩
      refine wZ hf hcomp (by rw[pZ];exact hc.elim (hfit _ (by simp[D.one]) _ _) (hfit _ (by simp[D.one]) _ _)) (vb ho (yk:=some (us.length,hd)) (env:=us++[.cO]++cs++[.st bs]) ⟨by simp,by simp,fun j hj=>?_,y,by simp,hy,hsp⟩ hs)
      rcases Nat.lt_trichotomy j us.length with hl | hl | hl
      ·simp only[B0b]
       rw[A0j hl,A0j hl]
      ·exact absurd hl hj
      ·simp only[B0b]
       rw[A0l (Nat.le_of_lt hl),A0l (Nat.le_of_lt hl)]
       obtain⟨m,hm⟩:∃m,j-us.length=m+1:=⟨j-us.length-1,by omega⟩
       rw[hm]
       simp
     ·cases h
    ·cases h
   ·cases h
  ·cases h

end

def we.or (a b:we):we where
 R:=fun f st ds=>match a.R f st ds with | some r=>some r | none=>b.R f st ds
 W:=fun f st ds=>match a.W f st ds with | some r=>some r | none=>b.W f st ds
 F:=fun f st cs m=>match a.F f st cs m with | some r=>some r | none=>b.F f st cs m
 I:=fun f st us cs hd=>match a.I f st us cs hd with | some r=>some r | none=>b.I f st us cs hd

theorem jC.or {P:Program}{a b:we}(ha:jC P a)(hb:jC P b):jC P (a.or b):=by
 refine⟨fun f st ds r h=>?_,fun f st ds r h' h=>?_,fun f st cs m cG h=>?_,fun f st us cs hd d cG h=>?_⟩ <;> simp only[we.or] at h <;> split at h
 ·rename_i e;cases h;exact ha.R _ _ _ _ e
 ·exact hb.R _ _ _ _ h
 ·rename_i e;cases h;exact ha.W _ _ _ _ _ e
 ·exact hb.W _ _ _ _ _ h
 ·rename_i e;cases h;exact ha.F _ _ _ _ _ e
 ·exact hb.F _ _ _ _ _ h
 ·rename_i e;cases h;exact ha.I _ _ _ _ _ _ _ e
 ·exact hb.I _ _ _ _ _ _ _ h

def j6 (P:Program)(tb:ug)(n:Nat)(b0:List D)(o:we):Nat→we
 | 0=>o
 | k+1=>(oC P tb n b0 (j6 P tb n b0 o k)).or o

theorem lK {P:Program}{tb:ug}{n:Nat}{b0:List D}{o:we}(htb:∀e,e∈tb→ak P e)(ho:jC P o):∀k,jC P (j6 P tb n b0 o k)
 | 0=>ho
 | k+1=>(yc htb (lK htb ho k)).or ho

end
end

section
section
variable {P:Program} {t a b:T} {bs:List Bind} {env:List D} {Q:eV→Prop} {x g:E} {d:D}

theorem aF {l:Nat}{K:List D→Prop}{ds:List D}(k:K ds):cC l K Q (.jump l ds):=by simp only[cC,if_pos];exact k

theorem bJ {l m:Nat}{K:List D→Prop}{ds:List D}(h:m≠l)(k:Q (.jump m ds)):cC l K Q (.jump m ds):=by simp only[cC,if_neg h];exact k

theorem rounds_succ {l:Nat}{body:List D→(eV→Prop)→Prop}(hm:∀ds (R R':eV→Prop),(∀s,R s→R' s)→body ds R→body ds R'):∀(n:Nat) (ds:List D),rounds l body Q n ds→rounds l body Q (n+1) ds
 | 0,_,h=>h.elim
 | n+1,ds,h=>hm ds _ _ (fun s hs=>by
   cases s with
   | jump l' ds'=>
    simp only[cC] at hs ⊢
    split
    ·rename_i e;rw[if_pos e] at hs;exact rounds_succ hm n ds' hs
    ·rename_i e;rw[if_neg e] at hs;exact hs
   | ret d=>exact hs
   | dI d st sl kd=>exact hs) h

theorem JC {l:Nat}{body:List D→(eV→Prop)→Prop}(hm:∀ds (R R':eV→Prop),(∀s,R s→R' s)→body ds R→body ds R'){n m:Nat}(h:n≤m){ds:List D}(hr:rounds l body Q n ds):rounds l body Q m ds:=by
 induction h with
 | refl=>exact hr
 | step _ ih=>exact rounds_succ hm _ _ ih

theorem xM {l:Nat}{body:List D→(eV→Prop)→Prop}(hm:∀ds (R R':eV→Prop),(∀s,R s→R' s)→body ds R→body ds R')(I:Nat→List D→Prop)(hb:∀k ds,I k ds→∀R:List D→Prop,(∀k' ds',k'<k→I k' ds'→R ds')→body ds (cC l R Q)):∀(k:Nat) (ds:List D),I k ds→rounds l body Q (k+1) ds:=by
 intro k
 induction k using Nat.strongRecOn with
 | _ k ih=>
  intro ds hI
  cases k with
  | zero=>exact hb 0 ds hI _ fun k' _ h=>absurd h (Nat.not_lt_zero _)
  | succ k=>
   refine hb (k+1) ds hI _ fun k' ds' hk' hI'=>?_
   exact JC hm (by omega) (ih k' hk' ds' hI')

end
end

section
/-! ## chains -/

def E.tQ:E→E→Bool
 | .sym i,.sym j=>i==j
 | .au i a,.au j b=>i==j&&a.tQ b
 | .cell i a,.cell j b=>i==j&&a.tQ b
 | _,_=>false

theorem E.ke:∀{a b:E},a.tQ b=true→a=b
 | .sym i,b,h=>by cases b <;> simp[E.tQ] at h;rw[h]
 | .au i a,b,h=>by
  cases b <;> simp[E.tQ] at h
  rw[h.1,E.ke h.2]
 | .cell i a,b,h=>by
  cases b <;> simp[E.tQ] at h
  rw[h.1,E.ke h.2]
 | .const _,b,h | .nil,b,h | .ai,b,h | .un _ _,b,h | .conv _ _,b,h | .bD _,b,h | .fP _,b,h | .aV _,b,h | .cells _ _ _,b,h | .br _ _,b,h | .one _,b,h | .dL _,b,h | .rep _ _ _,b,h | .deref _,b,h | .fq _ _,b,h | .aD _ _,b,h | .nn _,b,h | .aC _,b,h
 | .bin _ _ _ _,b,h | .idx _ _,b,h | .qK _ _ _,b,h | .cons _ _,b,h | .app _ _ _ _,b,h | .bP _ _,b,h | .dO _ _ _,b,h | .ah _ _,b,h | .mm _ _ _,b,h | .av _ _ _,b,h | .ld _ _ _ _,b,h | .fK _ _ _ _,b,h | .dR _ _ _ _,b,h | .cY _ _,b,h | .qL _ _ _,b,h | .qM _ _,b,h | .guard _ _ _,b,h
 | .sub _ _ _ _,b,h | .set _ _ _ _,b,h | .ite _ _ _,b,h | .eY _ _ _ _,b,h | .fC _ _ _ _ _ _,b,h | .apps _ _ _,b,h | .m4 _ _ _ _ _,b,h=>by cases b <;> simp[E.tQ] at h

def xu (n : Nat) : List (E × Bool) → Bool
 | [] => true
 | (.sym k, _) :: r => decide (k < n) && xu n r
 | _ :: _ => false

def mD (n:Nat)(g:E)(w:Bool):Bind→Option Bind
 | .ev (.guard g' w' x)=>if g.tQ g'=true∧w=w' then some (.ev x) else none
 | .call ((g',w') :: act) f h args rs=>if g.tQ g'=true∧w=w'∧xu n act=true then some (.call act f h args rs) else none
 | .ey ((g',w') :: act) x h args rs=>if g.tQ g'=true∧w=w'∧xu n act=true then some (.ey act x h args rs) else none
 | _=>none

def RB:List Bind→Option (E×Bool)
 | .ev (.guard g w _) :: _=>some (g,w)
 | .call ((g,w) :: _) _ _ _ _ :: _=>some (g,w)
 | .ey ((g,w) :: _) _ _ _ _ :: _=>some (g,w)
 | _=>none

section
variable {P:Program} {env:List D} {g:E} {w p:Bool}

theorem xx {b b':Bind}(hs:mD env.length g w b=some b')(hg:g.eval env=some (.v (.bool w))){t:T}{Q:eV→Prop}(h:den P (.bind b' t) env Q):den P (.bind b t) env Q:=by
 unfold mD at hs
 split at hs
 ·split at hs
  ·rename_i hc
   cases hs
   rw[←E.ke hc.1,←hc.2]
   obtain⟨d,h1,h2⟩:=h
   exact⟨d,by simp only[E.eval,hg,if_true];exact h1,h2⟩
  ·cases hs
 ·split at hs
  ·rename_i hc
   cases hs
   obtain⟨h0,d,h1,h2⟩:=h
   refine⟨fun q hq=>?_,d,fun ha=>h1 fun q hq=>ha q (by simp[hq]),h2⟩
   rcases B0t.1 hq with rfl | hq
   ·exact⟨_,by rw[←E.ke hc.1];exact hg⟩
   ·exact h0 q hq
  ·cases hs
 ·split at hs
  ·rename_i hc
   cases hs
   obtain⟨h0,d,h1,h2⟩:=h
   refine⟨fun q hq=>?_,d,fun ha=>h1 fun q hq=>ha q (by simp[hq]),h2⟩
   rcases B0t.1 hq with rfl | hq
   ·exact⟨_,by rw[←E.ke hc.1];exact hg⟩
   ·exact h0 q hq
  ·cases hs
 ·cases hs

theorem Dt : ∀ {act : List (E × Bool)}, xu env.length act = true → ∀ q, q ∈ act → ∃ d, q.1.eval env = some d
 | [], _, q, hq => by cases hq
 | (x, b) :: r, h, q, hq => by
  cases x <;> simp only [xu, A0g, decide_eq_true_eq] at h
  case sym k =>
   rcases B0t.1 hq with rfl | hq
   ·exact ⟨_, A0f h.1⟩
   ·exact Dt h.2 q hq
  all_goals cases h

theorem xy {b b':Bind}(hs:mD env.length g w b=some b')(hg:g.eval env=some (.v (.bool p)))(hp:p≠w){t:T}{Q:eV→Prop}(h:den P t (env++[D.undef]) Q):den P (.bind b t) env Q:=by
 have hno:∀{act:List (E×Bool)} {g':E} {w':Bool},g.tQ g'=true∧w=w'∧xu env.length act=true→¬aQ env ((g',w') :: act):=by
  intro act g' w' hc ha
  have:=ha (g',w') (by simp)
  rw[←E.ke hc.1,←hc.2.1,hg] at this
  cases this
  exact hp rfl
 have mJ:∀{act:List (E×Bool)} {g':E} {w':Bool},g.tQ g'=true∧w=w'∧xu env.length act=true→∀q,q∈(g',w') :: act→∃d,q.1.eval env=some d:=by
  intro act g' w' hc q hq
  rcases B0t.1 hq with rfl | hq
  ·exact⟨_,by rw[←E.ke hc.1];exact hg⟩
  ·exact Dt hc.2.2 q hq
 unfold mD at hs
 split at hs
 ·split at hs
  ·rename_i hc
   rw[←E.ke hc.1,←hc.2]
   exact⟨_,by simp only[E.eval,hg,if_neg hp],h⟩
  ·cases hs
 ·split at hs
  ·rename_i hc
   exact⟨mJ hc,D.undef,fun ha=>absurd ha (hno hc),h⟩
  ·cases hs
 ·split at hs
  ·rename_i hc
   exact⟨mJ hc,D.undef,fun ha=>absurd ha (hno hc),h⟩
  ·cases hs
 ·cases hs

theorem z5 {b:Bind}{t:T}{Q:eV→Prop}(h:den P (.bind b t) env Q):∃d,den P t (env++[d]) Q∧∀(t':T) (Q':eV→Prop),den P t' (env++[d]) Q'→den P (.bind b t') env Q':=by
 cases b with
 | ev x=>obtain⟨d,h1,h2⟩:=h;exact⟨d,h2,fun t' Q' h'=>⟨d,h1,h'⟩⟩
 | call act f hx args rs=>obtain⟨h0,d,h1,h2⟩:=h;exact⟨d,h2,fun t' Q' h'=>⟨h0,d,h1,h'⟩⟩
 | bA act f hx args rs=>obtain⟨h0,st,d,h',h1,h2,h3,h4⟩:=h;exact⟨_,h4,fun t' Q' k=>⟨h0,st,d,h',h1,h2,h3,k⟩⟩
 | ey act x hx args rs=>obtain⟨h0,d,h1,h2⟩:=h;exact⟨d,h2,fun t' Q' h'=>⟨h0,d,h1,h'⟩⟩
 | dA act x hx args rs=>obtain⟨h0,st,d,h',h1,h2,h3,h4⟩:=h;exact⟨_,h4,fun t' Q' k=>⟨h0,st,d,h',h1,h2,h3,k⟩⟩

end

/-! ## loops over a range -/

section
variable {P:Program} {t a b:T} {bs:List Bind} {env aW:List D} {Q:eV→Prop} {x y z g:E} {d:D}

theorem wrap64 {n:Int}(h:-9223372036854775808≤n∧n<9223372036854775808):IntKind.i64.wrap n=n:=by
 simp[IntKind.wrap,IntKind.bits,IntKind.signed];omega

end
end

section
inductive U where
 | ev (x:E) (u:U)
 | dU (x:E) (u:U)
 | call (f:FuncId) (h:E) (args:List E) (rs:List Bool) (u:U)
 | bA (f:FuncId) (h:E) (args:List E) (rs:List Bool) (u:U)
 | ey (x h:E) (args:List E) (rs:List Bool) (u:U)
 | gen (b:Bind) (u:U)
 | chain (or:Bool) (g:E) (v u:U)
 | ite (c:E) (a b:U)
 | loop (l:Nat) (inits:List E) (body:U)
 | join (l n:Nat) (body rest:U)
 | Pg (c:E) (as bs:List E) (rest:U)
 | jump (l:Nat) (vals HX:List E)
 | ret (x:E)
 | dI (x h:E) (sl:List Nat) (ks:List E)
 | jR (x:E) (neg:Bool) (u:U)
 | pick (x:E) (u:U)
 | E5 (f:FuncId) (keep:List Nat) (bF:List E) (res:E) (u:U)
 | gV (f:FuncId) (h:E) (args:List E) (rs:List Bool) (sl:List Nat) (ks:List E) (u:U)
 | fR (f:FuncId) (h:E) (args:List E) (rs:List Bool) (sl:List Nat) (ks:List E) (u:U)
 | e9 (x h:E) (args:List E) (rs:List Bool) (sl:List Nat) (ks:List E) (u:U)
 | lZ (x h:E) (sl:List Nat) (bF:List E) (n l:Nat) (body rest:U)
 | kK (x h:E) (sl:List Nat) (bF:List E) (n l:Nat) (q:Option Nat) (body rest o7:U)
 deriving Inhabited

def aJ (P:Program):U→List D→(eV→Prop)→Prop
 | .ev x u,env,Q=>∃d,x.eval env=some d∧aJ P u (env++[d]) Q
 | .dU x u,env,Q=>(∃d,x.eval env=some d)∧aJ P u env Q
 | .call f h args rs u,env,Q=>∃st ds d,h.eval env=some st∧aq env args=some ds∧aU P f st ds d∧d.fits rs=true∧aJ P u (env++[d]) Q
 | .bA f h args rs u,env,Q=>∃st ds d h',h.eval env=some st∧aq env args=some ds∧bt P f st ds d h'∧d.fits rs=true∧aJ P u (env++[d,h']) Q
 | .ey x h args rs u,env,Q=>∃f us cs st ds d,x.eval env=some (.fn f us cs)∧bu P f=true∧h.eval env=some st∧aq env args=some ds∧aU P f st (us++ds++cs) d∧d.fits rs=true∧aJ P u (env++[d]) Q
 | .gen b u,env,Q=>∃d,den P (.bind b (.ret (.sym env.length))) env (fun s=>s=.ret d)∧aJ P u (env++[d]) Q
 | .chain or g v u,env,Q=>∃p q,g.eval env=some (.v (.bool p))∧(p=!or→aJ P v env (fun s=>s=.ret (.v (.bool q))))∧aJ P u (env++[.v (.bool (bif or then p||q else p&&q))]) Q
 | .ite c a b,env,Q=>∃v,c.eval env=some (.v (.bool v))∧(v=true→aJ P a env Q)∧(v=false→aJ P b env Q)
 | .loop l inits body,env,Q=>∃ds,aq env inits=some ds∧∃n,rounds l (fun ds Q=>ds.length=inits.length∧aJ P body (env++ds) Q) Q n ds
 | .join l n body rest,env,Q=>aJ P body env (cC l (fun ds=>ds.length=n∧aJ P rest (env++ds) Q) Q)
 | .Pg c as bs rest,env,Q=>∃v ds,c.eval env=some (.v (.bool v))∧(v=true→aq env as=some ds)∧(v=false→aq env bs=some ds)∧aJ P rest (env++ds) Q
 | .jump l vals HX,env,Q=>(∃cs,aq env HX=some cs)∧∃ds,aq env vals=some ds∧Q (.jump l ds)
 | .ret x,env,Q=>∃d,x.eval env=some d∧Q (.ret d)
 | .dI x h sl ks,env,Q=>∃d st kd,x.eval env=some d∧h.eval env=some st∧aq env ks=some kd∧Q (.dI d st sl kd)
 | .jR x neg u,env,Q=>∃d bs,x.eval env=some d∧d.isNil=some bs∧∀b,b∈bs→aJ P u (env++[.v (.bool (b != neg))]) Q
 | .pick x u,env,Q=>∃ys,x.eval env=some (.a_ ys)∧∀d st,.aM [d,st]∈ys→aJ P u (env++[d,st]) Q
 | .E5 f keep bF res u,env,Q=>∃cU,aq env bF=some cU∧cU.all D.Eu=true∧aJ P u env (Dd P f keep cU res Q)
 | .gV f h args rs sl ks u,env,Q=>∃st ds o,h.eval env=some st∧aq env args=some ds∧eD P f st ds o∧match o with
  | .ret d=>d.fits rs=true∧aJ P u (env++[d]) Q
  | .dI d=>∃kd,aq env ks=some kd∧Q (.dI d st sl kd)
 | .fR f h args rs sl ks u,env,Q=>∃st ds o h',h.eval env=some st∧aq env args=some ds∧bC P f st ds o h'∧match o with
  | .ret d=>d.fits rs=true∧aJ P u (env++[d,h']) Q
  | .dI d=>∃kd,aq env ks=some kd∧Q (.dI d h' sl kd)
 | .e9 x h args rs sl ks u,env,Q=>∃f us cs st ds o h',x.eval env=some (.fn f us cs)∧bu P f=true∧h.eval env=some st∧aq env args=some ds∧bC P f st (us++ds++cs) o h'∧match o with
  | .ret d=>d.fits rs=true∧aJ P u (env++[d,h']) Q
  | .dI d=>∃kd,aq env ks=some kd∧Q (.dI d h' sl kd)
 | .lZ x h sl bF n l body rest,env,Q=>∃f us cs st cU d cG,x.eval env=some (.fn f us cs)∧bu P f=true∧h.eval env=some st∧aq env bF=some cU∧aT cU=true∧cG.dG=true ∧
   (∀(m:Nat) (rec:Loop),(∀me ds gA,me.dG=true→aT ds=true→ds.length=n→aJ P body (env++[me]++ds) (fun s=>s=.jump l [gA])→nI P (.yl m rec sl cU) me ds gA)→bt P f st (us++[.yl m rec sl cU]++cs) d cG)∧aJ P rest (env++[cG]) Q
 | .kK x h sl bF n l q body rest o7,env,Q=>∃f us cs bs cU d bs' stop,x.eval env=some (.fn f us cs)∧bu P f=true∧h.eval env=some (.st bs)∧aq env bF=some cU∧bs'[bs.length]? = some (.aM []) ∧
   (∀(rec:Loop×Code),(∀ew ds b gi,ew[bs.length]? = some (.mO false)→ds.length=n→gi[bs.length]? = some (.aM [])→aJ P body (env++[.st (ew.set bs.length (.aM []))]++ds) (fun s=>s=xL l q b (.st gi))→sk P (.uc bs.length rec sl cU) (.st ew) ds b (.st (gi.set bs.length (.mO !b)))) →
    bt P f (.st (bs++[.mO false])) (us++[.uc bs.length rec sl cU]++cs) d (.st (bs'.set bs.length (.mO stop))))∧(stop=false→aJ P rest (env++[.st bs']) Q)∧(stop=true→aJ P o7 (env++[.st bs']) Q)

theorem cz {P:Program}:∀{t:U} {env:List D} {Q Q':eV→Prop},(∀s,Q s→Q' s)→aJ P t env Q→aJ P t env Q'
 | .ev x t,env,Q,Q',hq,⟨d,h1,h2⟩=>⟨d,h1,cz hq h2⟩
 | .dU x t,env,Q,Q',hq,⟨h1,h2⟩=>⟨h1,cz hq h2⟩
 | .call f h args rs t,env,Q,Q',hq,⟨st,ds,d,h1,h2,h3,h4,h5⟩=>⟨st,ds,d,h1,h2,h3,h4,cz hq h5⟩
 | .bA f h args rs t,env,Q,Q',hq,⟨st,ds,d,h',h1,h2,h3,h4,h5⟩=>⟨st,ds,d,h',h1,h2,h3,h4,cz hq h5⟩
 | .ey x h args rs t,env,Q,Q',hq,⟨f,us,cs,st,ds,d,g1,g2,h1,h2,h3,h4,h5⟩=>⟨f,us,cs,st,ds,d,g1,g2,h1,h2,h3,h4,cz hq h5⟩
 | .gen b t,env,Q,Q',hq,⟨d,h1,h2⟩=>⟨d,h1,cz hq h2⟩
 | .chain or g v u,env,Q,Q',hq,⟨p,q,h1,h2,h3⟩=>⟨p,q,h1,h2,cz hq h3⟩
 | .ite c a b,env,Q,Q',hq,⟨v,h1,h2,h3⟩=>⟨v,h1,fun e=>cz hq (h2 e),fun e=>cz hq (h3 e)⟩
 | .loop l inits body,env,Q,Q',hq,⟨ds,h1,n,h2⟩=>⟨ds,h1,n,pK (fun _ _ _ hR h=>⟨h.1,cz hR h.2⟩) hq n ds h2⟩
 | .join l n body rest,env,Q,Q',hq,h=>cz (t:=body) (fun s hs=>by
   cases s with
   | jump l' ds'=>
    simp only[cC] at hs ⊢
    split
    ·rename_i e;rw[if_pos e] at hs;exact⟨hs.1,cz hq hs.2⟩
    ·rename_i e;rw[if_neg e] at hs;exact hq _ hs
   | ret d=>exact hq _ hs
   | dI d st sl kd=>exact hq _ hs) h
 | .Pg c as bs rest,env,Q,Q',hq,⟨v,ds,h1,h2,h3,h4⟩=>⟨v,ds,h1,h2,h3,cz hq h4⟩
 | .jump l vals HX,env,Q,Q',hq,⟨h0,ds,h1,h2⟩=>⟨h0,ds,h1,hq _ h2⟩
 | .ret x,env,Q,Q',hq,⟨d,h1,h2⟩=>⟨d,h1,hq _ h2⟩
 | .dI x h sl ks,env,Q,Q',hq,⟨d,st,kd,h1,h2,h3,h4⟩=>⟨d,st,kd,h1,h2,h3,hq _ h4⟩
 | .jR x neg t,env,Q,Q',hq,⟨d,bs,h1,h2,h3⟩=>⟨d,bs,h1,h2,fun b hb=>cz hq (h3 b hb)⟩
 | .pick x t,env,Q,Q',hq,⟨ys,h1,h2⟩=>⟨ys,h1,fun d st hy=>cz hq (h2 d st hy)⟩
 | .E5 f keep bF res t,env,Q,Q',hq,⟨cU,h1,h2,h3⟩=>⟨cU,h1,h2,cz (fun _=>BK hq) h3⟩
 | .gV f h args rs sl ks t,env,Q,Q',hq,⟨st,ds,.ret d,h1,h2,h3,h4,h5⟩=>⟨st,ds,.ret d,h1,h2,h3,h4,cz hq h5⟩
 | .gV f h args rs sl ks t,env,Q,Q',hq,⟨st,ds,.dI d,h1,h2,h3,kd,h4,h5⟩=>⟨st,ds,.dI d,h1,h2,h3,kd,h4,hq _ h5⟩
 | .fR f h args rs sl ks t,env,Q,Q',hq,⟨st,ds,.ret d,h',h1,h2,h3,h4,h5⟩=>⟨st,ds,.ret d,h',h1,h2,h3,h4,cz hq h5⟩
 | .fR f h args rs sl ks t,env,Q,Q',hq,⟨st,ds,.dI d,h',h1,h2,h3,kd,h4,h5⟩=>⟨st,ds,.dI d,h',h1,h2,h3,kd,h4,hq _ h5⟩
 | .e9 x h args rs sl ks t,env,Q,Q',hq,⟨f,us,cs,st,ds,.ret d,h',g1,g2,h1,h2,h3,h4,h5⟩=>⟨f,us,cs,st,ds,.ret d,h',g1,g2,h1,h2,h3,h4,cz hq h5⟩
 | .e9 x h args rs sl ks t,env,Q,Q',hq,⟨f,us,cs,st,ds,.dI d,h',g1,g2,h1,h2,h3,kd,h4,h5⟩=>⟨f,us,cs,st,ds,.dI d,h',g1,g2,h1,h2,h3,kd,h4,hq _ h5⟩
 | .lZ x h sl bF n l body rest,env,Q,Q',hq,⟨f,us,cs,st,cU,d,cG,h1,h2,h3,h4,h5,h6,h7,h8⟩=>⟨f,us,cs,st,cU,d,cG,h1,h2,h3,h4,h5,h6,h7,cz hq h8⟩
 | .kK x h sl bF n l q body rest o7,env,Q,Q',hq,⟨f,us,cs,bs,cU,d,bs',stop,h1,h2,h3,h4,h5,h6,h7,h8⟩=>⟨f,us,cs,bs,cU,d,bs',stop,h1,h2,h3,h4,h5,h6,fun e=>cz hq (h7 e),fun e=>cz hq (h8 e)⟩

/-! ## expressions over other data -/

inductive SE where
 | no
 | e (x:E)
 | pair (i j:Nat)
 deriving Inhabited

def Ly (n i:Nat):E→E
 | .ah (.sym p) (.ah (.sym q) .ai)=>if p<n∧q<n then(if i=0 then .sym p else if i=1 then .sym q else .au i (.ah (.sym p) (.ah (.sym q) .ai))) else .au i (.ah (.sym p) (.ah (.sym q) .ai))
 | x=>.au i x

def E.sb (n:Nat)(σ:List SE):E→Option E
 | .sym k=>match σ[k]? with
  | some (.e x)=>some x
  | some (.pair i j)=>some (.ah (.sym i) (.ah (.sym j) .ai))
  | _=>none
 | .const d=>some (.const d)
 | .nil=>some .nil
 | .ai=>some .ai
 | .un o a=>(a.sb n σ).map (.un o)
 | .conv k a=>(a.sb n σ).map (.conv k)
 | .bD a=>(a.sb n σ).map .bD
 | .fP a=>(a.sb n σ).map .fP
 | .aV a=>(a.sb n σ).map .aV
 | .cell i a=>(a.sb n σ).map (.cell i)
 | .cells i m a=>(a.sb n σ).map (.cells i m)
 | .br m a=>(a.sb n σ).map (.br m)
 | .one a=>(a.sb n σ).map .one
 | .dL a=>(a.sb n σ).map .dL
 | .au i a=>(a.sb n σ).map (Ly n i)
 | .rep b a d=>(a.sb n σ).map fun x=>.rep b x d
 | .deref a=>(a.sb n σ).map .deref
 | .fq t a=>(a.sb n σ).map (.fq t)
 | .aD k a=>(a.sb n σ).map (.aD k)
 | .nn a=>(a.sb n σ).map .nn
 | .aC a=>(a.sb n σ).map .aC
 | .bin o k a b=>(a.sb n σ).bind fun x=>(b.sb n σ).map (.bin o k x)
 | .idx a b=>(a.sb n σ).bind fun x=>(b.sb n σ).map (.idx x)
 | .qK m a b=>(a.sb n σ).bind fun x=>(b.sb n σ).map (.qK m x)
 | .cons a b=>(a.sb n σ).bind fun x=>(b.sb n σ).map (.cons x)
 | .app m k a b=>(a.sb n σ).bind fun x=>(b.sb n σ).map (.app m k x)
 | .bP a b=>(a.sb n σ).bind fun x=>(b.sb n σ).map (.bP x)
 | .dO f a b=>(a.sb n σ).bind fun x=>(b.sb n σ).map (.dO f x)
 | .ah a b=>(a.sb n σ).bind fun x=>(b.sb n σ).map (.ah x)
 | .mm m a b=>(a.sb n σ).bind fun x=>(b.sb n σ).map (.mm m x)
 | .av m a b=>(a.sb n σ).bind fun x=>(b.sb n σ).map (.av m x)
 | .ld g m a b=>(a.sb n σ).bind fun x=>(b.sb n σ).map (.ld g m x)
 | .fK e m a b=>(a.sb n σ).bind fun x=>(b.sb n σ).map (.fK e m x)
 | .dR e m a b=>(a.sb n σ).bind fun x=>(b.sb n σ).map (.dR e m x)
 | .cY a b=>(a.sb n σ).bind fun x=>(b.sb n σ).map (.cY x)
 | .qL g a b=>(a.sb n σ).bind fun x=>(b.sb n σ).map (.qL g x)
 | .qM a b=>(a.sb n σ).bind fun x=>(b.sb n σ).map (.qM x)
 | .guard a w b=>(a.sb n σ).bind fun x=>(b.sb n σ).map (.guard x w)
 | .sub m a b c=>(a.sb n σ).bind fun x=>(b.sb n σ).bind fun y=>(c.sb n σ).map (.sub m x y)
 | .set a b k c=>(a.sb n σ).bind fun x=>(b.sb n σ).bind fun y=>(c.sb n σ).map (.set x y k)
 | .ite a b c=>(a.sb n σ).bind fun x=>(b.sb n σ).bind fun y=>(c.sb n σ).map (.ite x y)
 | .eY m a b c=>(a.sb n σ).bind fun x=>(b.sb n σ).bind fun y=>(c.sb n σ).map (.eY m x y)
 | .fC e m k a b c=>(a.sb n σ).bind fun x=>(b.sb n σ).bind fun y=>(c.sb n σ).map (.fC e m k x y)
 | .apps a b c=>(a.sb n σ).bind fun x=>(b.sb n σ).bind fun y=>(c.sb n σ).map (.apps x y)
 | .m4 o a b c d=>(a.sb n σ).bind fun x=>(b.sb n σ).bind fun y=>(c.sb n σ).bind fun z=>(d.sb n σ).map (.m4 o x y z)

def Fx (env':List D)(x:Option D):SE→Prop
 | .no=>True
 | .e y=>y.eval env'=x
 | .pair i j=>∃d1 d2,env'[i]? = some d1∧env'[j]? = some d2∧x=some (.aM [d1,d2])

def BI (σ:List SE)(env env':List D):Prop:=∀(k:Nat) (s:SE),σ[k]? = some s→Fx env' env[k]? s

theorem FZ {env:List D}{i:Nat}(x:E):(Ly env.length i x).eval env=(E.au i x).eval env:=by
 unfold Ly
 split
 ·rename_i p q
  split
  ·rename_i h
   have e1:=A0f h.1
   have e2:=A0f h.2
   split
   ·rename_i e;subst e
    simp only[E.eval,e1,e2,A0d,D.ah,D.au]
    rfl
   ·split
    ·rename_i e;subst e
     simp only[E.eval,e1,e2,A0d,D.ah,D.au]
     rfl
    ·rfl
  ·rfl
 ·rfl

theorem E.dD {σ:List SE}{env env':List D}(hσ:BI σ env env'):∀{x x':E},x.sb env'.length σ=some x'→x'.eval env'=x.eval env:=by
 intro x
 induction x <;> intro x' h <;> simp only[E.sb,A0b,A0c] at h
 case sym k=>
  split at h
  ·rename_i y hk
   cases h
   exact hσ k _ hk
  ·rename_i i j hk
   cases h
   obtain⟨d1,d2,h1,h2,h3⟩:=hσ k _ hk
   show _=env[k]?
   rw[h3]
   simp only[E.eval,h1,h2,A0d,D.ah]
  ·cases h
 case au i a ih=>
  obtain⟨y,h1,rfl⟩:=h
  rw[FZ]
  simp only[E.eval,ih h1]
 case const d=>cases h;rfl
 case nil=>cases h;rfl
 case ai=>cases h;rfl
 case ite a b c iha ihb GZ=>
  obtain⟨y,h1,z,h2,u,h3,rfl⟩:=h
  simp only[E.eval,iha h1,ihb h2,GZ h3]
 case guard a w b iha ihb=>
  obtain⟨y,h1,z,h2,rfl⟩:=h
  simp only[E.eval,iha h1,ihb h2]
 all_goals first
|(rename_i ih;obtain⟨y,h1,rfl⟩:=h;simp only[E.eval,ih h1])
|(rename_i iha ihb;obtain⟨y,h1,z,h2,rfl⟩:=h;simp only[E.eval,iha h1,ihb h2])
|(rename_i iha ihb GZ;obtain⟨y,h1,z,h2,u,h3,rfl⟩:=h;simp only[E.eval,iha h1,ihb h2,GZ h3])
|(rename_i iha ihb GZ ihd;obtain⟨y,h1,z,h2,u,h3,v,h4,rfl⟩:=h;simp only[E.eval,iha h1,ihb h2,GZ h3,ihd h4])

def gS (n:Nat)(σ:List SE):List E→Option (List E)
 | []=>some []
 | x :: r=>(x.sb n σ).bind fun y=>(gS n σ r).map (y :: ·)

theorem ct {σ:List SE}{env env':List D}(hσ:BI σ env env'):∀{l l':List E},gS env'.length σ l=some l'→aq env' l'=aq env l
 | [],l',h=>by cases h;rfl
 | x :: r,l',h=>by
  simp only[gS,A0c,A0b] at h
  obtain⟨y,h1,z,h2,rfl⟩:=h
  simp only[aq,E.dD hσ h1,ct hσ h2]

def xG (n:Nat)(σ:List SE):List (E×Bool)→Option (List (E×Bool))
 | []=>some []
 | p :: r=>(p.1.sb n σ).bind fun y=>(xG n σ r).map ((y,p.2) :: ·)

theorem lJ {σ:List SE}{env env':List D}(hσ:BI σ env env'):∀{l l':List (E×Bool)},xG env'.length σ l=some l'→((∀p,p∈l'→∃d,p.1.eval env'=some d)→∀p,p∈l→∃d,p.1.eval env=some d)∧(aQ env' l'↔aQ env l)
 | [],l',h=>by cases h;exact⟨fun _ p hp=>(by cases hp),(by simp[aQ])⟩
 | x :: r,l',h=>by
  simp only[xG,A0c,A0b] at h
  obtain⟨y,h1,z,h2,rfl⟩:=h
  have e:=E.dD hσ h1
  obtain⟨g1,g2⟩:=lJ hσ h2
  refine⟨fun h p hp=>?_,?_⟩
  ·rcases B0t.1 hp with rfl | hp
   ·rw[←e];exact h (y,p.2) (by simp)
   ·exact g1 (fun q hq=>h q (by simp[hq])) p hp
  ·unfold aQ at g2 ⊢
   simp only[List.forall_mem_cons,e,g2]

theorem BI.append {σ σ2:List SE}{env env' aW ds:List D}(h:BI σ env env')(hl:env.length=σ.length)(h2:∀(k:Nat) (s:SE),σ2[k]? = some s→Fx aW ds[k]? s)(he:env' <+: aW):BI (σ++σ2) (env++ds) aW:=by
 intro k s hk
 rcases Nat.lt_or_ge k σ.length with hlt | hge
 ·rw[A0j hlt] at hk
  rw[A0j (by omega)]
  have:=h k s hk
  cases s with
  | no=>exact trivial
  | e y=>
   have hd:=A0f (show k<env.length by omega)
   simp only[Fx] at this ⊢
   rw[hd] at this ⊢
   exact E.bN he _ this
  | pair i j=>
   obtain⟨d1,d2,g1,g2,g3⟩:=this
   obtain⟨r,rfl⟩:=he
   exact⟨d1,d2,by rw[A0j (A0a.1 g1).1];exact g1,by rw[A0j (A0a.1 g2).1];exact g2,g3⟩
 ·rw[A0l hge] at hk
  rw[A0l (by omega),hl]
  exact h2 _ s hk

/-! ## the shorter text -/

def E.bits:E→Nat
 | .sym k=>1 <<< k
 | .const _ | .nil | .ai=>0
 | .un _ a | .conv _ a | .bD a | .fP a | .aV a | .cell _ a | .cells _ _ a | .br _ a | .one a | .dL a | .au _ a | .rep _ a _ | .deref a | .fq _ a | .aD _ a | .nn a | .aC a=>a.bits
 | .bin _ _ a b | .idx a b | .qK _ a b | .cons a b | .app _ _ a b | .bP a b | .dO _ a b | .ah a b | .mm _ a b | .av _ a b | .ld _ _ a b | .fK _ _ a b | .dR _ _ a b | .cY a b | .qL _ a b | .qM a b | .guard a _ b=>a.bits ||| b.bits
 | .sub _ a b c | .set a b _ c | .ite a b c | .eY _ a b c | .fC _ _ _ a b c | .apps a b c=>a.bits ||| (b.bits ||| c.bits)
 | .m4 _ a b c d=>a.bits ||| (b.bits ||| (c.bits ||| d.bits))

def iv:List E→Nat
 | []=>0
 | x :: r=>x.bits ||| iv r

def C5:List (E×Bool)→Nat
 | []=>0
 | x :: r=>x.1.bits ||| C5 r

def Bind.bits:Bind→Nat
 | .ev x=>x.bits
 | .call act _ h args _ | .bA act _ h args _=>C5 act ||| (h.bits ||| iv args)
 | .ey act x h args _ | .dA act x h args _=>C5 act ||| (x.bits ||| (h.bits ||| iv args))

def T.bits:T→Nat
 | .bind b t=>b.bits ||| t.bits
 | .ite c a b=>c.bits ||| (a.bits ||| b.bits)
 | .loop _ inits body=>iv inits ||| body.bits
 | .join _ _ body rest=>body.bits ||| rest.bits
 | .jump _ vals=>iv vals
 | .ret x=>x.bits
 | .dI x h _ ks=>x.bits ||| (h.bits ||| iv ks)
 | .jR x _ t=>x.bits ||| t.bits
 | .pick x t=>x.bits ||| t.bits
 | .E5 _ _ bF _ t=>iv bF ||| t.bits
 | .gV _ h args _ _ ks t | .fR _ h args _ _ ks t=>h.bits ||| (iv args ||| (iv ks ||| t.bits))
 | .e9 x h args _ _ ks t=>x.bits ||| (h.bits ||| (iv args ||| (iv ks ||| t.bits)))
 | .lZ x h _ bF _ _ body rest=>x.bits ||| (h.bits ||| (iv bF ||| (body.bits ||| rest.bits)))
 | .kK x h _ bF _ _ _ body rest o7=>x.bits ||| (h.bits ||| (iv bF ||| (body.bits ||| (rest.bits ||| o7.bits))))

def ZT (m k:Nat):Bool:=(m >>> k) % 2==1

def l9 (g:E)(w:Bool):Nat→T→List Bind×Nat×T
 | n,.bind b t=>match mD n g w b with
  | some b'=>let r:=l9 g w (n+1) t;(b' :: r.1,r.2.1+1,r.2.2)
  | none=>([],0,.bind b t)
 | _,t=>([],0,t)

def wU (b:Bool):E→Bool
 | .const (.v (.bool c))=>b==c
 | _=>false

def w9 (n:Nat)(b:Bind)(t:T):Option (Bool×E×T×Nat×T):=
  match RB [b] with
  | some (g,w)=>match l9 g w n (.bind b t) with
   |(bs,k,.bind (.ev (.ite g' y z)) rest)=>
      if g.tQ g'=true∧(rest.bits >>> n) % (1 <<< k)=0 then
        if w=false∧wU true y=true then some (true,g,aa bs (.ret z),k,rest)
        else if w=true∧wU false z=true then some (false,g,aa bs (.ret y),k,rest)
        else none
      else none
    | _=>none
  | none=>none

def sD:E→Bool
 | .sym _=>true
 | .cell _ x | .au _ x | .aD _ x | .br _ x | .nn x=>sD x
 | _=>false

def cheap (n:Nat):E→Option (Bool×E)
 | .sym j=>if j<n then some (false,.sym j) else none
 | .const d=>some (false,.const d)
 | .br _ y | .nn y | .aV y=>if sD y=true then some (true,y) else none
 | .cell i y=>if sD y=true then some (true,.cell i y) else none
 | .au i y=>if sD y=true then some (true,.au i y) else none
 | .aD i y=>if sD y=true then some (true,.aD i y) else none
 | _=>none

def dS {α:Type}:List Bool→List α→List α
 | true :: r,x :: l=>x :: dS r l
 | false :: r,_ :: l=>dS r l
 | _,_=>[]

def sure (n:Nat):E→Bool
 | .sym k=>decide (k<n)
 | .const _=>true
 | _=>false

def k7:Nat→List Bool→List SE
 | _,[]=>[]
 | n,true :: r=>.e (.sym n) :: k7 (n+1) r
 | n,false :: r=>.no :: k7 n r

def yF (bits:Nat):Nat→Nat→List Bool
 | _,0=>[]
 | k,m+1=>ZT bits k :: yF bits (k+1) m

def oG (n:Nat):List Bool→List E→List Bool
 | b :: r,x :: l=>(b||!sure n x) :: oG n r l
 | _,_=>[]

def LZ (l n:Nat):U→U→U
 | .ite c (.jump l1 as []) (.jump l2 bs []),rest=>if l1=l∧l2=l∧as.length=n∧bs.length=n then .Pg c as bs rest else .join l n (.ite c (.jump l1 as []) (.jump l2 bs [])) rest
 | body,rest=>.join l n body rest

def pH (n:Nat)(σ:List SE):Bind→Option Bind
 | .ev x=>(x.sb n σ).map .ev
 | .call act f h args rs=>(xG n σ act).bind fun act'=>(h.sb n σ).bind fun h'=>(gS n σ args).map fun args'=>.call act' f h' args' rs
 | .bA act f h args rs=>(xG n σ act).bind fun act'=>(h.sb n σ).bind fun h'=>(gS n σ args).map fun args'=>.bA act' f h' args' rs
 | .ey act x h args rs=>(xG n σ act).bind fun act'=>(x.sb n σ).bind fun x'=>(h.sb n σ).bind fun h'=>(gS n σ args).map fun args'=>.ey act' x' h' args' rs
 | .dA act x h args rs=>(xG n σ act).bind fun act'=>(x.sb n σ).bind fun x'=>(h.sb n σ).bind fun h'=>(gS n σ args).map fun args'=>.dA act' x' h' args' rs

def tr:Nat→Nat→List SE→List (Nat×List Bool)→T→Option U
 | 0,_,_,_,_=>none
 | f+1,n,σ,Γ,.bind b t=>
  match w9 σ.length b t with
  | some (or,g,inner,k,rest)=>(g.sb n σ).bind fun g'=>(tr f n σ [] inner).bind fun v=>(tr f (n+1) (σ++(List.replicate k .no++[.e (.sym n)])) Γ rest).map (.chain or g' v)
  | none=>match b with
   | .ev x=>(x.sb n σ).bind fun x'=>match cheap n x' with
    | some (false,y)=>tr f n (σ++[.e y]) Γ t
    | some (true,y)=>(tr f n (σ++[.e y]) Γ t).map (.dU x')
    | none=>(tr f (n+1) (σ++[.e (.sym n)]) Γ t).map (.ev x')
   | .call [] fn h args rs=>(h.sb n σ).bind fun h'=>(gS n σ args).bind fun args'=>(tr f (n+1) (σ++[.e (.sym n)]) Γ t).map (.call fn h' args' rs)
   | .bA [] fn h args rs=>(h.sb n σ).bind fun h'=>(gS n σ args).bind fun args'=>(tr f (n+2) (σ++[.pair n (n+1)]) Γ t).map (.bA fn h' args' rs)
   | .ey [] x h args rs=>(x.sb n σ).bind fun x'=>(h.sb n σ).bind fun h'=>(gS n σ args).bind fun args'=>(tr f (n+1) (σ++[.e (.sym n)]) Γ t).map (.ey x' h' args' rs)
   | b=>(pH n σ b).bind fun b'=>(tr f (n+1) (σ++[.e (.sym n)]) Γ t).map (.gen b')
 | f+1,n,σ,Γ,.ite c a b=>(c.sb n σ).bind fun c'=>(tr f n σ Γ a).bind fun a'=>(tr f n σ Γ b).map (.ite c' a')
 | f+1,n,σ,Γ,.loop l inits body=>
  let keep:=oG σ.length (yF body.bits σ.length inits.length) inits
  if keep.length=inits.length then(gS n σ (dS keep inits)).bind fun inits'=>(tr f (n+inits'.length) (σ++k7 n keep) ((l,keep) :: Γ) body).map (.loop l inits') else none
 | f+1,n,σ,Γ,.join l m body rest=>
  let keep:=yF rest.bits σ.length m
  if keep.length=m then(tr f n σ ((l,keep) :: Γ) body).bind fun body'=>(tr f (n+(dS keep keep).length) (σ++k7 n keep) Γ rest).map (LZ l (dS keep keep).length body') else none
 | _+1,n,σ,Γ,.jump l vals=>(Γ.lookup l).bind fun keep=>if vals.length=keep.length then(gS n σ (dS keep vals)).bind fun QR=>(gS n σ ((dS (keep.map not) vals).filter fun x=>!sure σ.length x)).map (.jump l QR) else none
 | _+1,n,σ,_,.ret x=>(x.sb n σ).map .ret
 | _+1,n,σ,_,.dI x h sl ks=>(x.sb n σ).bind fun x'=>(h.sb n σ).bind fun h'=>(gS n σ ks).map (.dI x' h' sl)
 | f+1,n,σ,Γ,.jR x neg t=>(x.sb n σ).bind fun x'=>(tr f (n+1) (σ++[.e (.sym n)]) Γ t).map (.jR x' neg)
 | f+1,n,σ,Γ,.pick x t=>(x.sb n σ).bind fun x'=>(tr f (n+2) (σ++[.pair n (n+1)]) Γ t).map (.pick x')
 | f+1,n,σ,Γ,.E5 fn keep bF res t=>(gS n σ bF).bind fun fD=>(tr f n σ Γ t).map (.E5 fn keep fD res)
 | f+1,n,σ,Γ,.gV fn h args rs sl ks t=>(h.sb n σ).bind fun h'=>(gS n σ args).bind fun args'=>(gS n σ ks).bind fun ks'=>(tr f (n+1) (σ++[.e (.sym n)]) Γ t).map (.gV fn h' args' rs sl ks')
 | f+1,n,σ,Γ,.fR fn h args rs sl ks t=>(h.sb n σ).bind fun h'=>(gS n σ args).bind fun args'=>(gS n σ ks).bind fun ks'=>(tr f (n+2) (σ++[.pair n (n+1)]) Γ t).map (.fR fn h' args' rs sl ks')
 | f+1,n,σ,Γ,.e9 x h args rs sl ks t=>(x.sb n σ).bind fun x'=>(h.sb n σ).bind fun h'=>(gS n σ args).bind fun args'=>(gS n σ ks).bind fun ks'=>(tr f (n+2) (σ++[.pair n (n+1)]) Γ t).map (.e9 x' h' args' rs sl ks')
 | f+1,n,σ,Γ,.lZ x h sl bF m l body rest=>(x.sb n σ).bind fun x'=>(h.sb n σ).bind fun h'=>(gS n σ bF).bind fun fD=>
  (tr f (n+(m+1)) (σ++k7 n (List.replicate (m+1) true)) [(l,[true])] body).bind fun body'=>(tr f (n+1) (σ++[.e (.sym n)]) Γ rest).map (.lZ x' h' sl fD m l body')
 | f+1,n,σ,Γ,.kK x h sl bF m l q body rest o7=>(x.sb n σ).bind fun x'=>(h.sb n σ).bind fun h'=>(gS n σ bF).bind fun fD=>
  (tr f (n+(m+1)) (σ++k7 n (List.replicate (m+1) true)) [(l,[true]),(l+1,[true])] body).bind fun body'=>(tr f (n+1) (σ++[.e (.sym n)]) Γ rest).bind fun rest'=>(tr f (n+1) (σ++[.e (.sym n)]) Γ o7).map (.kK x' h' sl fD m l q body' rest')
end

section
section
variable {P:Program} {g:E} {w p:Bool}

theorem AW:∀{t:T} {env:List D} {x:E} {dx:D},g.eval env=some (.v (.bool w))→den P (aa (l9 g w env.length t).1 (.ret x)) env (fun s=>s=.ret dx) →
  ∃us:List D,us.length=(l9 g w env.length t).2.1∧x.eval (env++us)=some dx∧∀(Q:eV→Prop),den P (l9 g w env.length t).2.2 (env++us) Q→den P t env Q:=by
 intro t
 induction t with
 | bind b t ih=>
  intro env x dx hg h
  simp only[l9] at h ⊢
  cases hs:mD env.length g w b with
  | none=>
   simp only[hs] at h ⊢
   obtain⟨d,h1,h2⟩:=h
   cases h2
   exact⟨[],rfl,by simpa using h1,fun Q k=>by simpa using k⟩
  | some b'=>
   simp only[hs] at h ⊢
   have h':den P (.bind b' (aa (l9 g w (env.length+1) t).1 (.ret x))) env (fun s=>s=.ret dx):=h
   obtain⟨d,h1,h2⟩:=z5 h'
   have hl:env.length+1=(env++[d]).length:=by simp
   rw[hl] at h1 ⊢
   obtain⟨us,g1,g2,g3⟩:=ih (env:=env++[d]) (E.bN (prefix_append _ _) _ hg) h1
   refine⟨d :: us,by simp[g1],by simpa using g2,fun Q k=>?_⟩
   exact xx hs hg (h2 _ _ (g3 Q (by simpa using k)))
 | _=>
  intro env x dx hg h
  obtain⟨d,h1,h2⟩:=h
  cases h2
  exact⟨[],rfl,by simpa using h1,fun Q k=>by simpa[l9] using k⟩

theorem AX:∀{t:T} {env:List D},g.eval env=some (.v (.bool p))→p≠w →
  ∃us:List D,us.length=(l9 g w env.length t).2.1∧∀(Q:eV→Prop),den P (l9 g w env.length t).2.2 (env++us) Q→den P t env Q:=by
 intro t
 induction t with
 | bind b t ih=>
  intro env hg hp
  simp only[l9]
  cases hs:mD env.length g w b with
  | none=>exact⟨[],rfl,fun Q k=>by simpa using k⟩
  | some b'=>
   simp only
   have hl:env.length+1=(env++[D.undef]).length:=by simp
   rw[hl]
   obtain⟨us,g1,g3⟩:=ih (env:=env++[D.undef]) (E.bN (prefix_append _ _) _ hg) hp
   refine⟨D.undef :: us,by simp[g1],fun Q k=>?_⟩
   exact xy hs hg hp (g3 Q (by simpa using k))
 | _=>
  intro env hg hp
  exact⟨[],rfl,fun Q k=>by simpa[l9] using k⟩

theorem yT {b:Bool}{x:E}(h:wU b x=true):x=.const (.v (.bool b)):=by
 unfold wU at h
 split at h
 ·simp only[beq_iff_eq] at h;rw[h]
 ·cases h

theorem Fp {b:Bind} {t inner rest:T} {or:Bool} {k:Nat} {env:List D} {Q:eV→Prop} (hc:w9 env.length b t=some (or,g,inner,k,rest)) {q:Bool} (hg:g.eval env=some (.v (.bool p)))
  (h1:p=!or→den P inner env (fun s=>s=.ret (.v (.bool q)))) (h2:∀us:List D,us.length=k→den P rest (env++us++[.v (.bool (bif or then p||q else p&&q))]) Q):den P (.bind b t) env Q:=by
 unfold w9 at hc
 split at hc
 ·rename_i g0 w _
  split at hc
  ·rename_i bs k0 g' y z agj hT
   split at hc
   ·rename_i hb
    have hgg:=E.ke hb.1
    subst hgg
    split at hc
    ·rename_i hw
     cases hc
     obtain⟨rfl,hy⟩:=hw
     have hy:=yT hy
     subst hy
     cases p with
     | true=>
      obtain⟨us,g1,g3⟩:=AX (P:=P) (t:=.bind b t) (w:=false) hg (by simp)
      rw[hT] at g1 g3
      refine g3 Q ⟨.v (.bool true),?_,?_⟩
      ·simp only[E.eval,E.bN (prefix_append env us) _ hg]
      ·simpa using h2 us g1
     | false=>
      have h1':=h1 rfl
      have e:bs=(l9 g false env.length (.bind b t)).1:=by rw[hT]
      rw[e] at h1'
      obtain⟨us,g1,g2,g3⟩:=AW (P:=P) (t:=.bind b t) hg h1'
      rw[hT] at g1 g3
      refine g3 Q ⟨.v (.bool q),?_,?_⟩
      ·simp only[E.eval,E.bN (prefix_append env us) _ hg];exact g2
      ·simpa using h2 us g1
    ·split at hc
     ·rename_i hw
      cases hc
      obtain⟨rfl,hz⟩:=hw
      have hz:=yT hz
      subst hz
      cases p with
      | false=>
       obtain⟨us,g1,g3⟩:=AX (P:=P) (t:=.bind b t) (w:=true) hg (by simp)
       rw[hT] at g1 g3
       refine g3 Q ⟨.v (.bool false),?_,?_⟩
       ·simp only[E.eval,E.bN (prefix_append env us) _ hg]
       ·simpa using h2 us g1
      | true=>
       have h1':=h1 rfl
       have e:bs=(l9 g true env.length (.bind b t)).1:=by rw[hT]
       rw[e] at h1'
       obtain⟨us,g1,g2,g3⟩:=AW (P:=P) (t:=.bind b t) hg h1'
       rw[hT] at g1 g3
       refine g3 Q ⟨.v (.bool q),?_,?_⟩
       ·simp only[E.eval,E.bN (prefix_append env us) _ hg];exact g2
       ·simpa using h2 us g1
     ·cases hc
   ·cases hc
  ·cases hc
 ·cases hc

theorem Fo {env:List D}{x y:E}{c:Bool}(h:cheap env.length x=some (c,y))(hd:c=true→∃d,x.eval env=some d):∃d,x.eval env=some d∧y.eval env=some d:=by
 unfold cheap at h
 split at h
 ·rename_i j
  split at h
  ·rename_i hj;cases h;exact⟨_,A0f hj,A0f hj⟩
  ·cases h
 ·cases h;exact⟨_,rfl,rfl⟩
 ·split at h
  ·cases h
   obtain⟨d,hd⟩:=hd rfl
   simp only[E.eval,A0c] at hd
   obtain⟨d',h1,h2⟩:=hd
   refine⟨d',?_,h1⟩
   simp only[E.eval,h1,A0d]
   unfold D.br at h2 ⊢
   split at h2
   ·split at h2
    ·rename_i hl;rw[if_pos hl]
    ·cases h2
   ·cases h2
  ·cases h
 ·split at h
  ·cases h
   obtain⟨d,hd⟩:=hd rfl
   simp only[E.eval,A0c] at hd
   obtain⟨d',h1,h2⟩:=hd
   refine⟨d',?_,h1⟩
   simp only[E.eval,h1,A0d]
   unfold D.nn at h2 ⊢
   split at h2 <;> first | rfl | cases h2
  ·cases h
 ·split at h
  ·cases h
   obtain⟨d,hd⟩:=hd rfl
   simp only[E.eval,A0c] at hd
   obtain⟨d',h1,h2⟩:=hd
   refine⟨d',?_,h1⟩
   simp only[E.eval,h1,A0d]
   unfold D.aV at h2 ⊢
   split at h2
   ·rename_i hl;rw[if_pos hl]
   ·cases h2
  ·cases h
 ·split at h
  ·cases h;obtain⟨d,hd⟩:=hd rfl;exact⟨d,hd,hd⟩
  ·cases h
 ·split at h
  ·cases h;obtain⟨d,hd⟩:=hd rfl;exact⟨d,hd,hd⟩
  ·cases h
 ·split at h
  ·cases h;obtain⟨d,hd⟩:=hd rfl;exact⟨d,hd,hd⟩
  ·cases h
 ·cases h

/-! ## values that are left out -/

theorem CT:∀{keep:List Bool} {ds pre:List D},ds.length=keep.length→∀(k:Nat) (s:SE),(k7 pre.length keep)[k]? = some s→Fx (pre++dS keep ds) ds[k]? s
 | [],_,_,_,k,s,h=>by simp[k7] at h
 | true :: r,d :: ds,pre,hl,k,s,h=>by
  cases k with
  | zero=>
   simp only[k7,B0d,A0u] at h
   subst h
   simp[Fx,E.eval,dS]
  | succ k=>
   simp only[k7,List.getElem?_cons_succ] at h
   have hp:pre.length+1=(pre++[d]).length:=by simp
   rw[hp] at h
   have:=CT (pre:=pre++[d]) (ds:=ds) (keep:=r) (by simpa using hl) k s h
   simpa[dS] using this
 | false :: r,d :: ds,pre,hl,k,s,h=>by
  cases k with
  | zero=>
   simp only[k7,B0d,A0u] at h
   subst h
   exact trivial
  | succ k=>
   simp only[k7,List.getElem?_cons_succ] at h
   have:=CT (pre:=pre) (ds:=ds) (keep:=r) (by simpa using hl) k s h
   simpa[dS] using this
 | _ :: _,[],_,hl,_,_,_=>by simp at hl

theorem jh:∀{keep:List Bool} {n:Nat},(k7 n keep).length=keep.length
 | [],_=>rfl
 | true :: r,n=>by simp[k7,jh (keep:=r)]
 | false :: r,n=>by simp[k7,jh (keep:=r)]

theorem gx {env:List D}:∀{l:List E} {ds:List D},aq env l=some ds→ds.length=l.length
 | [],ds,h=>by simp[aq] at h;simp[h]
 | x :: r,ds,h=>by
  simp only[aq,A0c,A0b] at h
  obtain⟨d,_,ds',h2,rfl⟩:=h
  simp[gx h2]

theorem kZ {env:List D}:∀{keep:List Bool} {l:List E} {ds':List D},l.length=keep.length→aq env (dS keep l)=some ds'→(∀x,x∈dS (keep.map not) l→∃d,x.eval env=some d)→∃ds,aq env l=some ds∧dS keep ds=ds'
 | [],[],ds',_,h,_=>by
  simp[dS,aq] at h
  subst h
  exact⟨[],rfl,rfl⟩
 | true :: r,x :: l,ds',hl,h,hd=>by
  simp only[dS,aq,A0c,A0b] at h
  obtain⟨d,h1,RM,h2,rfl⟩:=h
  obtain⟨ds,g1,g2⟩:=kZ (keep:=r) (l:=l) (by simpa using hl) h2 (fun x hx=>hd x (by simpa[dS] using hx))
  exact⟨d :: ds,by simp[aq,h1,g1],by simp[dS,g2]⟩
 | false :: r,x :: l,ds',hl,h,hd=>by
  simp only[dS] at h
  obtain⟨d,h1⟩:=hd x (by simp[dS])
  obtain⟨ds,g1,g2⟩:=kZ (keep:=r) (l:=l) (by simpa using hl) h (fun x hx=>hd x (by simp[dS,hx]))
  exact⟨d :: ds,by simp[aq,h1,g1],by simp[dS,g2]⟩
 | [],_ :: _,_,hl,_,_=>by simp at hl
 | _ :: _,[],_,hl,_,_=>by simp at hl

theorem vP {env:List D}:∀{l:List E} {ds:List D},aq env l=some ds→∀x,x∈l→∃d,x.eval env=some d
 | [],_,_,x,hx=>by cases hx
 | y :: r,ds,h,x,hx=>by
  simp only[aq,A0c,A0b] at h
  obtain⟨d,h1,RM,h2,rfl⟩:=h
  rcases B0t.1 hx with rfl | hx
  ·exact⟨d,h1⟩
  ·exact vP h2 x hx

theorem Iq {env:List D}{x:E}(h:sure env.length x=true):∃d,x.eval env=some d:=by
 cases x <;> simp only[sure,decide_eq_true_eq] at h
 case sym k=>exact⟨_,A0f h⟩
 case const d=>exact⟨d,rfl⟩
 all_goals cases h

theorem uQ {env:List D}:∀{ks:List Bool} {l:List E},(oG env.length ks l).length=l.length→∀x,x∈dS ((oG env.length ks l).map not) l→∃d,x.eval env=some d
 | [],[],_,x,hx=>by simp[oG,dS] at hx
 | b :: r,y :: l,hl,x,hx=>by
  simp only[oG,List.length_cons,Nat.add_right_cancel_iff,List.map_cons] at hl hx
  cases hb:(b||!sure env.length y) with
  | true=>
   rw[hb] at hx
   simp only[Bool.not_true,dS] at hx
   exact uQ hl x hx
  | false=>
   rw[hb] at hx
   simp only[Bool.not_false,dS,B0t] at hx
   rcases hx with rfl | hx
   ·simp only[Bool.or_eq_false_iff,Bool.not_eq_false'] at hb
    exact Iq hb.2
   ·exact uQ hl x hx
 | [],_ :: _,hl,_,_=>by simp[oG] at hl
 | _ :: _,[],_,x,hx=>by simp[oG,dS] at hx

structure qj (Γ:List (Nat×List Bool))(Q' Q:eV→Prop):Prop where
 ret:∀d,Q' (.ret d)→Q (.ret d)
 dI:∀d st sl kd,Q' (.dI d st sl kd)→Q (.dI d st sl kd)
 jump:∀l keep,Γ.lookup l=some keep→∀ds:List D,ds.length=keep.length→Q' (.jump l (dS keep ds))→Q (.jump l ds)

theorem qj.catch {Γ:List (Nat×List Bool)}{Q' Q:eV→Prop}{K' K:List D→Prop}{l:Nat}{keep:List Bool}(h:qj Γ Q' Q)(hK:∀ds:List D,ds.length=keep.length→K' (dS keep ds)→K ds):qj ((l,keep) :: Γ) (cC l K' Q') (cC l K Q):=by
 refine⟨h.ret,h.dI,fun m kp hm ds hl=>?_⟩
 simp only[List.lookup] at hm
 split at hm
 ·rename_i e
  have e:m=l:=by simpa using e
  cases hm
  subst e
  simp only[cC,if_true]
  exact hK ds hl
 ·rename_i e
  have e:m≠l:=by simpa using e
  simp only[cC,if_neg e]
  exact h.jump m kp hm ds hl

theorem qj.same {Γ:List (Nat×List Bool)}(hΓ:Γ=[]){Q:eV→Prop}:qj Γ Q Q:=by
 subst hΓ
 exact⟨fun _ h=>h,fun _ _ _ _ h=>h,fun _ _ h=>by cases h⟩

theorem JJ {l n:Nat}{body rest:U}{env:List D}{Q:eV→Prop}(h:aJ P (LZ l n body rest) env Q):aJ P (.join l n body rest) env Q:=by
 unfold LZ at h
 split at h
 ·rename_i c l1 as l2 bs
  split at h
  ·rename_i hc
   obtain⟨rfl,rfl,h1,h2⟩:=hc
   obtain⟨v,ds,g1,g2,g3,g4⟩:=h
   refine⟨v,g1,fun e=>?_,fun e=>?_⟩
   ·refine⟨⟨[],rfl⟩,ds,g2 e,?_⟩
    simp only[cC,if_true]
    exact⟨by rw[gx (g2 e),h1],g4⟩
   ·refine⟨⟨[],rfl⟩,ds,g3 e,?_⟩
    simp only[cC,if_true]
    exact⟨by rw[gx (g3 e),h2],g4⟩
  ·exact h
 ·exact h

end

section
variable {P:Program} {σ:List SE} {env env':List D}

theorem BI.one (h:BI σ env env')(hl:env.length=σ.length){d:D}{s:SE}{aW:List D}(he:env' <+: aW)(hs:Fx aW (some d) s):BI (σ++[s]) (env++[d]) aW:=
 h.append hl (fun k s' hk=>by
  cases k with
  | zero=>simp at hk;subst hk;exact hs
  | succ k=>simp at hk) he

theorem BI.push (h:BI σ env env')(hl:env.length=σ.length)(d:D):BI (σ++[.e (.sym env'.length)]) (env++[d]) (env'++[d]):=
 h.one hl (prefix_append _ _) (by simp[Fx,E.eval])

theorem BI.pair (h:BI σ env env')(hl:env.length=σ.length)(d e:D):BI (σ++[.pair env'.length (env'.length+1)]) (env++[.aM [d,e]]) (env'++[d,e]):=
 h.one hl (prefix_append _ _) ⟨d,e,by simp,by simp,rfl⟩

theorem BI.k7 (h:BI σ env env')(hl:env.length=σ.length){keep:List Bool}{ds:List D}(hd:ds.length=keep.length):BI (σ++Go.Am.k7 env'.length keep) (env++ds) (env'++dS keep ds):=
 h.append hl (CT hd) (prefix_append _ _)

theorem Oi {b:Bind}{Q:eV→Prop}{d:D}(h:den P (.bind b (.ret (.sym env.length))) env (fun s=>s=.ret d)){t:T}(k:den P t (env++[d]) Q):den P (.bind b t) env Q:=by
 obtain⟨d',h1,h2⟩:=z5 h
 obtain⟨d2,g1,g2⟩:=h1
 simp only[E.eval,A0l (A0m _),Nat.sub_self,B0d,A0u] at g1
 cases g2
 subst g1
 exact h2 _ _ k

theorem Ga (hσ:BI σ env env'){b b':Bind}(h:pH env'.length σ b=some b'){d:D}(hd:den P (.bind b' (.ret (.sym env'.length))) env' (fun s=>s=.ret d)):den P (.bind b (.ret (.sym env.length))) env (fun s=>s=.ret d):=by
 have last:∀{e:List D} {x:D},den P (.ret (.sym e.length)) (e++[x]) (fun s=>s=.ret d)↔x=d:=by
  intro e x
  constructor
  ·rintro⟨d2,g1,g2⟩
   simp only[E.eval,A0l (A0m _),Nat.sub_self,B0d,A0u] at g1
   cases g2
   exact g1
  ·rintro rfl
   exact⟨x,by simp[E.eval],rfl⟩
 cases b with
 | ev x=>
  simp only[pH,A0b] at h
  obtain⟨x',h1,rfl⟩:=h
  obtain⟨d0,g1,g2⟩:=hd
  exact⟨d0,by rw[←E.dD hσ h1];exact g1,last.2 (last.1 g2)⟩
 | call act f h' args rs=>
  simp only[pH,A0c,A0b] at h
  obtain⟨act',ha,h2,hh,args',hA,rfl⟩:=h
  obtain⟨k1,k2⟩:=lJ hσ ha
  obtain⟨g0,d0,g1,g2⟩:=hd
  refine⟨k1 g0,d0,fun hact=>?_,last.2 (last.1 g2)⟩
  obtain⟨st,ds,q1,q2,q3⟩:=g1 (k2.2 hact)
  exact⟨st,ds,by rw[←E.dD hσ hh];exact q1,by rw[←ct hσ hA];exact q2,q3⟩
 | bA act f h' args rs=>
  simp only[pH,A0c,A0b] at h
  obtain⟨act',ha,h2,hh,args',hA,rfl⟩:=h
  obtain⟨k1,k2⟩:=lJ hσ ha
  obtain⟨g0,st,d0,hn,g1,g2,g3,g4⟩:=hd
  refine⟨k1 g0,st,d0,hn,by rw[←E.dD hσ hh];exact g1,fun hact=>?_,fun hact=>g3 fun hh=>hact (k2.1 hh),last.2 (last.1 g4)⟩
  obtain⟨ds,q2,q3⟩:=g2 (k2.2 hact)
  exact⟨ds,by rw[←ct hσ hA];exact q2,q3⟩
 | ey act x h' args rs=>
  simp only[pH,A0c,A0b] at h
  obtain⟨act',ha,x',hx,h2,hh,args',hA,rfl⟩:=h
  obtain⟨k1,k2⟩:=lJ hσ ha
  obtain⟨g0,d0,g1,g2⟩:=hd
  refine⟨k1 g0,d0,fun hact=>?_,last.2 (last.1 g2)⟩
  obtain⟨f,us,cs,st,ds,q0,q1,q2,q3,q4⟩:=g1 (k2.2 hact)
  exact⟨f,us,cs,st,ds,by rw[←E.dD hσ hx];exact q0,q1,by rw[←E.dD hσ hh];exact q2,by rw[←ct hσ hA];exact q3,q4⟩
 | dA act x h' args rs=>
  simp only[pH,A0c,A0b] at h
  obtain⟨act',ha,x',hx,h2,hh,args',hA,rfl⟩:=h
  obtain⟨k1,k2⟩:=lJ hσ ha
  obtain⟨g0,st,d0,hn,g1,g2,g3,g4⟩:=hd
  refine⟨k1 g0,st,d0,hn,by rw[←E.dD hσ hh];exact g1,fun hact=>?_,fun hact=>g3 fun hh=>hact (k2.1 hh),last.2 (last.1 g4)⟩
  obtain⟨xd,ds,q1,q2,q3⟩:=g2 (k2.2 hact)
  exact⟨xd,ds,by rw[←E.dD hσ hx];exact q1,by rw[←ct hσ hA];exact q2,q3⟩

theorem rV {α:Type}:∀{m:Nat} {l:List α},l.length=m→dS (List.replicate m true) l=l
 | 0,[],_=>rfl
 | m+1,x :: l,h=>by simp[List.replicate,dS,rV (m:=m) (l:=l) (by simpa using h)]

theorem Lw:∀(f:Nat) {σ:List SE} {Γ:List (Nat×List Bool)} {t:T} {u:U} {env env':List D} {Q' Q:eV→Prop},tr f env'.length σ Γ t=some u→env.length=σ.length→BI σ env env'→qj Γ Q' Q→aJ P u env' Q'→den P t env Q:=by
 intro f
 induction f with
 | zero=>intro σ Γ t u env env' Q' Q h;simp[tr] at h
 | succ f ih=>
  intro σ Γ t u env env' Q' Q h hl hσ hQ hu
  have oq:∀{t:T} {u:U} {d:D} {Γ:List (Nat×List Bool)} {Q' Q:eV→Prop},tr f (env'.length+1) (σ++[.e (.sym env'.length)]) Γ t=some u→qj Γ Q' Q→aJ P u (env'++[d]) Q'→den P t (env++[d]) Q:=by
   intro t u d Γ Q' Q ht hq hd
   exact ih (env:=env++[d]) (env':=env'++[d]) (by simpa using ht) (by simp[hl]) (hσ.push hl d) hq hd
  have B7:∀{t:T} {u:U} {d e:D} {Γ:List (Nat×List Bool)} {Q' Q:eV→Prop},tr f (env'.length+2) (σ++[.pair env'.length (env'.length+1)]) Γ t=some u→qj Γ Q' Q→aJ P u (env'++[d,e]) Q'→den P t (env++[.aM [d,e]]) Q:=by
   intro t u d e Γ Q' Q ht hq hd
   exact ih (env:=env++[.aM [d,e]]) (env':=env'++[d,e]) (by simpa using ht) (by simp[hl]) (hσ.pair hl d e) hq hd
  cases t with
  | bind b t=>
   simp only[tr] at h
   cases hc:w9 σ.length b t with
   | some r=>
    obtain⟨or,g,inner,k,rest⟩:=r
    simp only[hc,A0c,A0b] at h
    obtain⟨g',h1,v,h2,r',h3,rfl⟩:=h
    obtain⟨p,q,k1,k2,k3⟩:=hu
    refine Fp (by rw[hl];exact hc) (by rw[←E.dD hσ h1];exact k1) (fun e=>ih h2 hl hσ (qj.same rfl) (k2 e)) fun us hus=>?_
    rw[B0b]
    refine ih (env':=env'++[_]) (by simpa using h3) (by simp[hl,hus]) ?_ hQ k3
    refine hσ.append hl (fun k' s hs=>?_) (prefix_append _ _)
    rcases Nat.lt_or_ge k' k with hk | hk
    ·rw[A0j (by simpa using hk)] at hs
     simp only[List.getElem?_replicate,hk,if_true,A0u] at hs
     subst hs
     exact trivial
    ·rw[A0l (by simpa using hk)] at hs
     rw[A0l (by omega)]
     simp only[List.length_replicate] at hs
     rw[hus]
     cases hkk:k'-k with
     | zero=>
      rw[hkk] at hs
      simp only[B0d,A0u] at hs
      subst hs
      simp[Fx,E.eval]
     | succ m=>rw[hkk] at hs;simp at hs
   | none=>
    simp only[hc] at h
    have Qe:∀{b:Bind},((pH env'.length σ b).bind fun b'=>(tr f (env'.length+1) (σ++[.e (.sym env'.length)]) Γ t).map (.gen b'))=some u→den P (.bind b t) env Q:=by
     intro b h
     simp only[A0c,A0b] at h
     obtain⟨b',h1,r,h2,rfl⟩:=h
     obtain⟨d,k1,k2⟩:=hu
     exact Oi (Ga hσ h1 k1) (oq h2 hQ k2)
    split at h
    ·rename_i x
     simp only[A0c] at h
     obtain⟨x',hx,h⟩:=h
     have ex:=E.dD hσ hx
     split at h
     ·rename_i y Yj
      obtain⟨d,k1,k2⟩:=Fo Yj (fun e=>by cases e)
      exact⟨d,by rw[←ex];exact k1,ih (env:=env++[d]) h (by simp[hl]) (hσ.one hl (List.prefix_refl _) k2) hQ hu⟩
     ·rename_i y Yj
      simp only[A0b] at h
      obtain⟨r,h2,rfl⟩:=h
      obtain⟨d,k1,k2⟩:=Fo Yj (fun _=>hu.1)
      exact⟨d,by rw[←ex];exact k1,ih (env:=env++[d]) h2 (by simp[hl]) (hσ.one hl (List.prefix_refl _) k2) hQ hu.2⟩
     ·simp only[A0b] at h
      obtain⟨r,h2,rfl⟩:=h
      obtain⟨d,k1,k2⟩:=hu
      exact⟨d,by rw[←ex];exact k1,oq h2 hQ k2⟩
    ·simp only[A0c,A0b] at h
     obtain⟨h',hh,args',ha,r,h2,rfl⟩:=h
     obtain⟨st,ds,d,k1,k2,k3,k4,k5⟩:=hu
     exact⟨fun _ hp=>(by cases hp),d,fun _=>⟨st,ds,by rw[←E.dD hσ hh];exact k1,by rw[←ct hσ ha];exact k2,k3,k4⟩,oq h2 hQ k5⟩
    ·simp only[A0c,A0b] at h
     obtain⟨h',hh,args',ha,r,h2,rfl⟩:=h
     obtain⟨st,ds,d,hn,k1,k2,k3,k4,k5⟩:=hu
     exact⟨fun _ hp=>(by cases hp),st,d,hn,by rw[←E.dD hσ hh];exact k1,fun _=>⟨ds,by rw[←ct hσ ha];exact k2,k3,k4⟩,fun hno=>absurd (fun _ hp=>(by cases hp)) hno,B7 h2 hQ k5⟩
    ·simp only[A0c,A0b] at h
     obtain⟨x',hx,h',hh,args',ha,r,h2,rfl⟩:=h
     obtain⟨fn,us,cs,st,ds,d,g1,g2,k1,k2,k3,k4,k5⟩:=hu
     exact⟨fun _ hp=>(by cases hp),d,fun _=>⟨fn,us,cs,st,ds,by rw[←E.dD hσ hx];exact g1,g2,by rw[←E.dD hσ hh];exact k1,by rw[←ct hσ ha];exact k2,k3,k4⟩,oq h2 hQ k5⟩
    ·exact Qe h
  | ite c a b=>
   simp only[tr,A0c,A0b] at h
   obtain⟨c',hc,a',ha,b',hb,rfl⟩:=h
   obtain⟨v,k1,k2,k3⟩:=hu
   exact⟨v,by rw[←E.dD hσ hc];exact k1,fun e=>ih ha hl hσ hQ (k2 e),fun e=>ih hb hl hσ hQ (k3 e)⟩
  | loop l inits body=>
   simp only[tr] at h
   split at h
   ·rename_i I5
    simp only[A0c,A0b] at h
    obtain⟨inits',hi,body',hb,rfl⟩:=h
    obtain⟨ds',k1,n,k2⟩:=hu
    rw[←hl] at I5 hi hb
    generalize hkeep:oG env.length (yF body.bits env.length inits.length) inits=keep at *
    obtain⟨ds,g1,g2⟩:=kZ (env:=env) (keep:=keep) (l:=inits) I5.symm (by rw[←ct hσ hi];exact k1) (by rw[←hkeep];exact uQ (by rw[hkeep];exact I5))
    refine⟨ds,g1,n,?_⟩
    have hin:inits'.length=(dS keep inits).length:=by
     have e1:=gx k1
     have e2:=gx (show aq env (dS keep inits)=some ds' by rw[←ct hσ hi];exact k1)
     omega
    have main:∀(n:Nat) (ds:List D) {R' R:eV→Prop},ds.length=inits.length→qj Γ R' R→rounds l (fun ds Q=>ds.length=inits'.length∧aJ P body' (env'++ds) Q) R' n (dS keep ds)→rounds l (fun ds Q=>ds.length=inits.length∧den P body (env++ds) Q) R n ds:=by
     intro n
     induction n with
     | zero=>intro ds R' R _ _ h;exact h
     | succ n ihn=>
      intro ds R' R eM hR h
      obtain⟨q1,q2⟩:=h
      refine⟨eM,ih (env:=env++ds) (env':=env'++dS keep ds) (by rw[A0t,q1];exact hb) (by simp[hl,eM,jh,I5]) (hσ.k7 hl (by omega)) (hR.catch fun OV K6 hr=>ihn OV (by omega) hR hr) q2⟩
    exact main n ds (gx g1) hQ (by rw[g2];exact k2)
   ·cases h
  | join l m body rest=>
   simp only[tr] at h
   split at h
   ·rename_i I5
    simp only[A0c,A0b] at h
    obtain⟨body',hb,rest',hr,rfl⟩:=h
    have hu:=JJ hu
    generalize yF rest.bits σ.length m=keep at *
    show den P body env (cC l _ Q)
    refine ih hb hl hσ (hQ.catch fun ds eM hk=>?_) hu
    obtain⟨q1,q2⟩:=hk
    exact⟨by omega,ih (env:=env++ds) (env':=env'++dS keep ds) (by rw[A0t,q1];exact hr) (by simp[hl,eM,jh]) (hσ.k7 hl eM) hQ q2⟩
   ·cases h
  | jump l vals=>
   simp only[tr,A0c] at h
   obtain⟨keep,hlk,h⟩:=h
   split at h
   ·rename_i I5
    simp only[A0c,A0b] at h
    obtain⟨QR,hv,HX,Yj,rfl⟩:=h
    obtain⟨⟨cs,k0⟩,ds',k1,k2⟩:=hu
    obtain⟨ds,g1,g2⟩:=kZ (env:=env) (keep:=keep) (l:=vals) I5 (by rw[←ct hσ hv];exact k1) (fun x hx=>by
     cases hs:sure σ.length x with
     | true=>exact Iq (by rw[hl];exact hs)
     | false=>exact vP (show aq env _=some cs by rw[←ct hσ Yj];exact k0) x (by simp[hx,hs]))
    exact⟨ds,g1,hQ.jump l keep hlk ds (by rw[gx g1,I5]) (by rw[g2];exact k2)⟩
   ·cases h
  | ret x=>
   simp only[tr,A0b] at h
   obtain⟨x',hx,rfl⟩:=h
   obtain⟨d,k1,k2⟩:=hu
   exact⟨d,by rw[←E.dD hσ hx];exact k1,hQ.ret _ k2⟩
  | dI x hE sl ks=>
   simp only[tr,A0c,A0b] at h
   obtain⟨x',hx,h',hh,ks',hks,rfl⟩:=h
   obtain⟨d,st,kd,k1,k2,k3,k4⟩:=hu
   exact⟨d,st,kd,by rw[←E.dD hσ hx];exact k1,by rw[←E.dD hσ hh];exact k2,by rw[←ct hσ hks];exact k3,hQ.dI _ _ _ _ k4⟩
  | jR x neg t=>
   simp only[tr,A0c,A0b] at h
   obtain⟨x',hx,t',ht,rfl⟩:=h
   obtain⟨d,bs,k1,k2,k3⟩:=hu
   exact⟨d,bs,by rw[←E.dD hσ hx];exact k1,k2,fun b hb=>oq ht hQ (k3 b hb)⟩
  | pick x t=>
   simp only[tr,A0c,A0b] at h
   obtain⟨x',hx,t',ht,rfl⟩:=h
   obtain⟨ys,k1,k2⟩:=hu
   exact⟨ys,by rw[←E.dD hσ hx];exact k1,fun d st hy=>B7 ht hQ (k2 d st hy)⟩
  | E5 fn keep bF res t=>
   simp only[tr,A0c,A0b] at h
   obtain⟨fD,hc,t',ht,rfl⟩:=h
   obtain⟨cU,k1,k2,k3⟩:=hu
   refine⟨cU,by rw[←ct hσ hc];exact k1,k2,ih ht hl hσ ⟨fun d hd=>?_,fun d st sl kd hd=>?_,fun l kp _ ds _ hd=>hd.elim⟩ k3⟩
   ·unfold Dd at hd ⊢
    split at hd
    ·obtain⟨cG,d',q1,q2,q3⟩:=hd;exact⟨cG,d',q1,q2,hQ.ret _ q3⟩
    ·rename_i heq;cases heq
    ·exact hd.elim
   ·unfold Dd at hd ⊢
    obtain⟨q0,cG,d',q1,q2,q3⟩:=hd
    exact⟨q0,cG,d',q1,q2,hQ.ret _ q3⟩
  | gV fn hE args rs sl ks t=>
   simp only[tr,A0c,A0b] at h
   obtain⟨h',hh,args',ha,ks',hks,t',ht,rfl⟩:=h
   obtain⟨st,ds,o,k1,k2,k3,k4⟩:=hu
   refine⟨st,ds,o,by rw[←E.dD hσ hh];exact k1,by rw[←ct hσ ha];exact k2,k3,?_⟩
   cases o with
   | ret d=>exact⟨k4.1,oq ht hQ k4.2⟩
   | dI d=>obtain⟨kd,q1,q2⟩:=k4;exact⟨kd,by rw[←ct hσ hks];exact q1,hQ.dI _ _ _ _ q2⟩
  | fR fn hE args rs sl ks t=>
   simp only[tr,A0c,A0b] at h
   obtain⟨h',hh,args',ha,ks',hks,t',ht,rfl⟩:=h
   obtain⟨st,ds,o,hn,k1,k2,k3,k4⟩:=hu
   refine⟨st,ds,o,hn,by rw[←E.dD hσ hh];exact k1,by rw[←ct hσ ha];exact k2,k3,?_⟩
   cases o with
   | ret d=>exact⟨k4.1,B7 ht hQ k4.2⟩
   | dI d=>obtain⟨kd,q1,q2⟩:=k4;exact⟨kd,by rw[←ct hσ hks];exact q1,hQ.dI _ _ _ _ q2⟩
  | e9 x hE args rs sl ks t=>
   simp only[tr,A0c,A0b] at h
   obtain⟨x',hx,h',hh,args',ha,ks',hks,t',ht,rfl⟩:=h
   obtain⟨fn,us,cs,st,ds,o,hn,g1,g2,k1,k2,k3,k4⟩:=hu
   refine⟨fn,us,cs,st,ds,o,hn,by rw[←E.dD hσ hx];exact g1,g2,by rw[←E.dD hσ hh];exact k1,by rw[←ct hσ ha];exact k2,k3,?_⟩
   cases o with
   | ret d=>exact⟨k4.1,B7 ht hQ k4.2⟩
   | dI d=>obtain⟨kd,q1,q2⟩:=k4;exact⟨kd,by rw[←ct hσ hks];exact q1,hQ.dI _ _ _ _ q2⟩
  | lZ x hE sl bF m l body rest=>
   simp only[tr,A0c,A0b] at h
   obtain⟨x',hx,h',hh,fD,hc,body',hb,rest',hr,rfl⟩:=h
   obtain⟨fn,us,cs,st,cU,d,cG,g1,g2,k1,k2,k3,k4,k5,k6⟩:=hu
   refine⟨fn,us,cs,st,cU,d,cG,by rw[←E.dD hσ hx];exact g1,g2,by rw[←E.dD hσ hh];exact k1,by rw[←ct hσ hc];exact k2,k3,k4,fun mm rec hY=>?_,oq hr hQ k6⟩
   refine k5 mm rec fun me ds gA n1 n2 n3 eb=>hY me ds gA n1 n2 n3 ?_
   have e:(me :: ds).length=(List.replicate (m+1) true).length:=by simp[n3]
   have hs:=hσ.k7 hl e
   rw[rV (by simp[n3])] at hs
   rw[B0b] at eb ⊢
   refine ih (env:=env++([me]++ds)) (env':=env'++([me]++ds)) (by simpa[n3,Nat.add_comm,Nat.add_left_comm] using hb) (by simp[hl,n3,jh]) hs ⟨fun d hd=>(by cases hd),fun _ _ _ _ hd=>(by cases hd),fun l' kp hlk ds' eM hd=>?_⟩ eb
   simp only[List.lookup] at hlk
   split at hlk
   ·rename_i e'
    have e':l'=l:=by simpa using e'
    cases hlk
    match ds',eM with
    | [y],_=>
     simp only[dS] at hd
     rw[hd]
   ·cases hlk
  | kK x hE sl bF m l q body rest o7=>
   simp only[tr,A0c,A0b] at h
   obtain⟨x',hx,h',hh,fD,hc,body',hb,rest',hr,agl,hqt,rfl⟩:=h
   obtain⟨fn,us,cs,bs,cU,d,bs',stop,g1,g2,k1,k2,k3,k4,k5,k6⟩:=hu
   refine⟨fn,us,cs,bs,cU,d,bs',stop,by rw[←E.dD hσ hx];exact g1,g2,by rw[←E.dD hσ hh];exact k1,by rw[←ct hσ hc];exact k2,k3,fun rec hY=>k4 rec fun ew ds b gi n1 n2 n3 eb=>hY ew ds b gi n1 n2 n3 ?_,fun e=>oq hr hQ (k5 e),fun e=>oq hqt hQ (k6 e)⟩
   have e:(D.st (ew.set bs.length (.aM [])) :: ds).length=(List.replicate (m+1) true).length:=by simp[n2]
   have hs:=hσ.k7 hl e
   rw[rV (by simp[n2])] at hs
   rw[B0b] at eb ⊢
   refine ih (env:=env++([D.st (ew.set bs.length (.aM []))]++ds)) (env':=env'++([D.st (ew.set bs.length (.aM []))]++ds)) (by simpa[n2,Nat.add_comm,Nat.add_left_comm] using hb) (by simp[hl,n2,jh]) hs ⟨fun d hd=>hd,fun _ _ _ _ hd=>hd,fun l' kp hlk ds' eM hd=>?_⟩ eb
   have hkp:kp=[true]:=by
    simp only[List.lookup] at hlk
    split at hlk
    ·cases hlk;rfl
    ·split at hlk
     ·cases hlk;rfl
     ·cases hlk
   subst hkp
   match ds',eM with
   | [y],_=>exact hd


def nU (n:Nat)(t:T):Option U:=tr 100000 n ((List.range n).map fun k=>.e (.sym k)) [] t

theorem lH {t:T}{u:U}{Q:eV→Prop}(h:nU env.length t=some u)(hu:aJ P u env Q):den P t env Q:=
 Lw 100000 h (by simp) (fun k s hk=>by
  simp only[A0v,A0b] at hk
  obtain⟨j,h1,rfl⟩:=hk
  have:j=k:=by
   rw[List.getElem?_range (by
    have:=(A0a.1 h1).1
    simpa using this)] at h1
   exact(Option.some.inj h1).symm
  subst this
  rfl) (qj.same rfl) hu

end
end

section
def dW (P:Program)(f:FuncId)(kn:Kn)(cf:bV)(aL:List Bool)(u:U):Prop:=
 ∃fn,P.funcs[f]? = some fn∧bl P fn=aL∧(match kn with
  | .plain=>(ir P cf fn).bind (nU (aL.length+1))
  | .defers keep=>(gz P cf fn keep).bind (nU (aL.length+1))
  | .gC=>(lW P cf fn).bind (nU (aL.length+2)))=some u

section
variable {P:Program} {f:FuncId} {kn:Kn} {cf:bV} {aL:List Bool} {u:U} {ds bs bs':List D} {d:D} {o:Out}

theorem dW.plain {fn:Func}(hf:P.funcs[f]? = some fn)(h1:bl P fn=aL)(h2:(ir P cf fn).bind (nU (aL.length+1))=some u):dW P f .plain cf aL u:=⟨fn,hf,h1,h2⟩
theorem dW.defers {fn:Func}{keep:List Nat}(hf:P.funcs[f]? = some fn)(h1:bl P fn=aL)(h2:(gz P cf fn keep).bind (nU (aL.length+1))=some u):dW P f (.defers keep) cf aL u:=⟨fn,hf,h1,h2⟩
theorem dW.gC {fn:Func}(hf:P.funcs[f]? = some fn)(h1:bl P fn=aL)(h2:(lW P cf fn).bind (nU (aL.length+2))=some u):dW P f .gC cf aL u:=⟨fn,hf,h1,h2⟩

theorem dW.VY (h:dW P f .plain cf aL u)(hro:cf.ro=true)(hfit:cW aL ds=true)(eb:aJ P u (ds++[.st bs]) (oU o (.st bs))):eD P f (.st bs) ds o:=by
 obtain⟨fn,hf,rfl,hc⟩:=h
 obtain⟨t,h1,h2⟩:=A0c.1 hc
 obtain⟨hl,_⟩:=eR hfit
 exact Ho hro hf h1 hfit (lH (by simpa[←hl] using h2) eb)

theorem dW.RW (h:dW P f .plain cf aL u)(hfit:cW aL ds=true)(eb:aJ P u (ds++[.st bs]) (oU o (.st bs'))):bC P f (.st bs) ds o (.st bs'):=by
 obtain⟨fn,hf,rfl,hc⟩:=h
 obtain⟨t,h1,h2⟩:=A0c.1 hc
 obtain⟨hl,_⟩:=eR hfit
 exact wZ hf h1 hfit (lH (by simpa[←hl] using h2) eb)

theorem dW.recoverD {m:Option D}{d0:D}(h:dW P f .gC cf aL u)(hfit:cW aL ds=true)(hm:(rE m).one=true)(eb:aJ P u (ds++[.st bs,rE m]) (fun s=>s=.ret (.aM [d0,.st bs']))):sq P f (.st bs) ds m (.st bs'):=by
 obtain⟨fn,hf,rfl,hc⟩:=h
 obtain⟨t,h1,h2⟩:=A0c.1 hc
 obtain⟨hl,_⟩:=eR hfit
 exact NH hf h1 hfit hm (lH (by simpa[←hl] using h2) eb)

theorem dW.R (h:dW P f .plain cf aL u)(hro:cf.ro=true)(hfit:cW aL ds=true)(eb:aJ P u (ds++[.st bs]) (fun s=>s=.ret (.aM [d,.st bs]))):aU P f (.st bs) ds d:=h.VY hro hfit eb

theorem dW.W (h:dW P f .plain cf aL u)(hfit:cW aL ds=true)(eb:aJ P u (ds++[.st bs]) (fun s=>s=.ret (.aM [d,.st bs']))):bt P f (.st bs) ds d (.st bs'):=h.RW hfit eb
end

/-! ## to write texts with -/

def aX:List (U→U)→U→U
 | [],u=>u
 | f :: r,u=>f (aX r u)

theorem bg (u:U):aX [] u=u:=rfl
theorem aP (f:U→U)(r:List (U→U))(u:U):aX (f :: r) u=f (aX r u):=rfl

abbrev ki (n:Int):E:=.const (.v (.int .i64 n))
abbrev kb (b:Bool):E:=.const (.v (.bool b))

def tW (x:E):Nat→Nat→E
 | _,0=>.nil
 | k,n+1=>.cons (.cell k x) (tW x (k+1) n)

def pz (n:Nat)(x:E):E:=tW x 0 n
end

section
/-! ## short names,for the blocks of steps -/

theorem sbc {α:Type}{a:α}{as bs:List α}:a :: as++bs=a :: (as++bs):=rfl
theorem sbn {α:Type}{as:List α}:[]++as=as:=rfl
theorem sb0:(!true)=false:=rfl
theorem sb1:(!false)=true:=rfl
theorem sb2 {p:Prop}[Decidable p]:(decide p=true)=p:=decide_eq_true_eq
theorem sb3 {p:Prop}[Decidable p]:(decide p=false)↔¬p:=decide_eq_false_iff_not
theorem sb4 (a b:Bool):((a&&b)=true)=(a=true∧b=true):=A0g a b
theorem sb5 (a b:Bool):((a||b)=true)=(a=true∨b=true):=Bool.or_eq_true a b
theorem sb6 {a b:Bool}:(a||b)=false↔a=false∧b=false:=Bool.or_eq_false_iff
theorem sb7 {a:Bool}:(!a)=true↔a=false:=by cases a <;> simp
theorem sb8 {a:Bool}:(!a)=false↔a=true:=by cases a <;> simp
theorem sb9 {a b:Int}:¬a<b↔b≤a:=Int.not_lt
theorem abw {a b:Int}:¬a≤b↔b<a:=Int.not_le
theorem VU {α:Type}[BEq α][LawfulBEq α]{a b:α}:(a==b)=true↔a=b:=beq_iff_eq
theorem VT {α:Type}[BEq α][LawfulBEq α]{a b:α}:(a != b)=true↔a≠b:=bne_iff_ne
theorem VS {α:Type}[BEq α][LawfulBEq α]{a b:α}:(a==b)=false↔a≠b:=beq_eq_false_iff_ne
theorem VR {α:Type}[BEq α][LawfulBEq α]{a b:α}:(a != b)=false↔a=b:=bne_eq_false_iff_eq
theorem abv {a b:Bool}:(a&&b)=false↔a=false∨b=false:=Bool.and_eq_false_iff
theorem abu {p:Prop}[Decidable p]:¬¬p↔p:=Decidable.not_not
theorem abt (c f:Bool):(bif c then true else f)=(c||f):=Bool.cond_true_left c f
theorem abr (c t:Bool):(bif c then t else false)=(c&&t):=Bool.cond_false_right c t

theorem gQ:(((!true)=false)∧((!false)=true)∧(∀(p:Prop) [Decidable p],(decide p=true)=p)∧(∀(p:Prop) [Decidable p],(decide p=false)↔¬p)∧(∀a b:Bool,((a&&b)=true)=(a=true∧b=true))∧(∀a b:Bool,((a||b)=true)=(a=true∨b=true))∧(∀a b:Bool,(a||b)=false↔a=false∧b=false)∧(∀a:Bool,(!a)=true↔a=false)∧(∀a:Bool,(!a)=false↔a=true)∧(∀a b:Int,¬a<b↔b≤a)∧(∀a b:Int,¬a≤b↔b<a))∧((∀a b:Int,(a==b)=true↔a=b)∧(∀a b:Int,(a != b)=true↔a≠b)∧(∀a b:Int,(a==b)=false↔a≠b)∧(∀a b:Int,(a != b)=false↔a=b)∧(∀a b:Bool,(a==b)=true↔a=b)∧(∀a b:Bool,(a != b)=true↔a≠b)∧(∀a b:Bool,(a==b)=false↔a≠b)∧(∀a b:Bool,(a != b)=false↔a=b)∧(∀a b:Bool,(a&&b)=false↔a=false∨b=false)∧(∀(p:Prop) [Decidable p],¬¬p↔p)∧(∀c f:Bool,(bif c then true else f)=(c||f))∧(∀c t:Bool,(bif c then t else false)=(c&&t))∧(∀a b:Int,(a≠b)=¬(a=b))∧(∀a b:Bool,(a≠b)=¬(a=b))∧((false=true)=False)∧((true=false)=False)∧(∀p:Prop,(False∨p)=p)∧(∀p:Prop,(p∨False)=p)∧(∀p:Prop,(True∧p)=p)∧(∀p:Prop,(p∧True)=p)):=
 ⟨⟨rfl,rfl,fun _ _=>sb2,fun _ _=>sb3,sb4,sb5,fun _ _=>sb6,fun _=>sb7,fun _=>sb8,fun _ _=>sb9,fun _ _=>abw⟩,fun _ _=>VU,fun _ _=>VT,fun _ _=>VS,fun _ _=>VR,fun _ _=>VU,fun _ _=>VT,fun _ _=>VS,fun _ _=>VR,fun _ _=>abv,fun _ _=>abu,abt,abr,fun _ _=>rfl,fun _ _=>rfl,by simp,by simp,false_or,or_false,true_and,and_true⟩

theorem az:(∀{α:Type} (a:α) (as bs:List α),a :: as++bs=a :: (as++bs))∧(∀{α:Type} (as:List α),[]++as=as):=⟨fun _ _ _=>rfl,fun _=>rfl⟩

/-! ## steps -/

def so (P:Program)(u:U)(env:List D)(Q:eV→Prop):Prop:=aJ P u env Q

def KJ (P:Program)(n:Nat)(rest:U)(env:List D)(Q:eV→Prop)(ds:List D):Prop:=ds.length=n∧aJ P rest (env++ds) Q

def mT (p:Bool)(a b:D):D:=
 match a,b with
 | .v (.bool x),.v (.bool y)=>.v (.bool (bif p then x else y))
 | .v (.int .i64 x),.v (.int .i64 y)=>.v (.int .i64 (if p=true then x else y))
 | a,b=>bif p then a else b

theorem A6 (a b:D):mT true a b=a:=by
 unfold mT;split <;> rfl
theorem xE (a b:D):mT false a b=b:=by
 unfold mT;split <;> simp

theorem FK {p:Bool}:∀{as bs:List D},as.length=bs.length→(p=true→List.zipWith (mT p) as bs=as)∧(p=false→List.zipWith (mT p) as bs=bs)
 | [],[],_=>⟨fun _=>rfl,fun _=>rfl⟩
 | a :: as,b :: bs,h=>by
  obtain⟨h1,h2⟩:=FK (p:=p) (as:=as) (bs:=bs) (by simpa using h)
  exact⟨fun e=>by rw[List.zipWith_cons_cons,h1 e,e,A6],fun e=>by rw[List.zipWith_cons_cons,h2 e,e,xE]⟩
 | [],_ :: _,h | _ :: _,[],h=>by simp at h

section
variable {P:Program} {u v a b rest body:U} {env aW:List D} {Q:eV→Prop} {x y z g h:E} {d st h':D} {ds:List D} {args:List E} {rs:List Bool} {f:FuncId} {p q:Bool} {l n:Nat}

theorem eZ (he:env=aW)(k:aJ P u aW Q):so P u env Q:=by subst he;exact k
theorem kj (hl:ds.length=n)(k:so P rest (env++ds) Q):KJ P n rest env Q ds:=⟨hl,k⟩

theorem bk (hx:x.eval env=some d)(he:env++[d]=aW)(k:aJ P u aW Q):aJ P (.ev x u) env Q:=by subst he;exact⟨d,hx,k⟩
theorem Lq {dy dz:D}(hg:g.eval env=some (.v (.bool p)))(hy:y.eval env=some dy)(hz:z.eval env=some dz)(he:env++[mT p dy dz]=aW)(k:aJ P u aW Q):aJ P (.ev (.ite g y z) u) env Q:=by
 subst he
 exact⟨_,by cases p <;> simp only[E.eval,hg,hy,hz,A6,xE],k⟩
theorem cw (hx:x.eval env=some d)(k:aJ P u env Q):aJ P (.dU x u) env Q:=⟨⟨d,hx⟩,k⟩
theorem bX (hs:h.eval env=some st)(ha:aq env args=some ds)(hf:aU P f st ds d)(hr:d.fits rs=true)(he:env++[d]=aW)(k:aJ P u aW Q):aJ P (.call f h args rs u) env Q:=by subst he;exact⟨st,ds,d,hs,ha,hf,hr,k⟩
theorem gL (hs:h.eval env=some st)(ha:aq env args=some ds)(hf:bt P f st ds d h')(hr:d.fits rs=true)(he:env++[d,h']=aW)(k:aJ P u aW Q):aJ P (.bA f h args rs u) env Q:=by subst he;exact⟨st,ds,d,h',hs,ha,hf,hr,k⟩
theorem BO {us cs:List D}(hx:x.eval env=some (.fn f us cs))(hc:bu P f=true)(hs:h.eval env=some st)(ha:aq env args=some ds)(hf:aU P f st (us++ds++cs) d)(hr:d.fits rs=true)(he:env++[d]=aW)(k:aJ P u aW Q):aJ P (.ey x h args rs u) env Q:=by subst he;exact⟨f,us,cs,st,ds,d,hx,hc,hs,ha,hf,hr,k⟩

theorem gm (hg:g.eval env=some (.v (.bool p)))(h1:p=false→aJ P v env (fun s=>s=.ret (.v (.bool q))))(k:so P u (env++[.v (.bool (p||q))]) Q):aJ P (.chain true g v u) env Q:=⟨p,q,hg,h1,k⟩
theorem jm (hg:g.eval env=some (.v (.bool p)))(h1:p=true→aJ P v env (fun s=>s=.ret (.v (.bool q))))(k:so P u (env++[.v (.bool (p&&q))]) Q):aJ P (.chain false g v u) env Q:=⟨p,q,hg,h1,k⟩
theorem iz {c:Bool}(hg:g.eval env=some (.v (.bool c)))(k1:c=true→aJ P a env Q)(k2:c=false→aJ P b env Q):aJ P (.ite g a b) env Q:=⟨c,hg,k1,k2⟩
theorem bK {c:Bool}(hg:g.eval env=some (.v (.bool c)))(hc:c=true)(k:aJ P a env Q):aJ P (.ite g a b) env Q:=⟨c,hg,fun _=>k,fun e=>(by rw[hc] at e;cases e)⟩
theorem bL {c:Bool}(hg:g.eval env=some (.v (.bool c)))(hc:c=false)(k:aJ P b env Q):aJ P (.ite g a b) env Q:=⟨c,hg,fun e=>(by rw[hc] at e;cases e),fun _=>k⟩
theorem aK (k:aJ P body env (cC l (KJ P n rest env Q) Q)):aJ P (.join l n body rest) env Q:=k

theorem Ds {as bs:List E}{OV RM:List D}(hg:g.eval env=some (.v (.bool p)))(h1:p=true→aq env as=some OV)(h2:p=false→aq env bs=some RM)(hl:OV.length=RM.length)(he:env++List.zipWith (mT p) OV RM=aW)(k:aJ P rest aW Q):aJ P (.Pg g as bs rest) env Q:=by
 subst he
 exact⟨p,_,hg,fun e=>by rw[(FK hl).1 e];exact h1 e,fun e=>by rw[(FK hl).2 e];exact h2 e,k⟩

theorem aR {vals HX:List E}{cs:List D}(hc:aq env HX=some cs)(hv:aq env vals=some ds)(k:Q (.jump l ds)):aJ P (.jump l vals HX) env Q:=⟨⟨cs,hc⟩,ds,hv,k⟩
theorem aS (hx:x.eval env=some d)(k:Q (.ret d)):aJ P (.ret x) env Q:=⟨d,hx,k⟩
theorem afD {sl:List Nat}{ks:List E}(hx:x.eval env=some d)(hh:h.eval env=some st)(hk:aq env ks=some ds)(k:Q (.dI d st sl ds)):aJ P (.dI x h sl ks) env Q:=⟨d,st,ds,hx,hh,hk,k⟩

theorem uo {inits:List E}(I:Nat→List D→Prop)(hi:aq env inits=some ds)(k:Nat)(h0:I k ds)(hb:∀k ds,I k ds→ds.length=inits.length∧∀R:List D→Prop,(∀k' ds',k'<k→I k' ds'→R ds')→so P body (env++ds) (cC l R Q)):aJ P (.loop l inits body) env Q:=
 ⟨ds,hi,k+1,xM (fun _ _ _ hR h=>⟨h.1,cz hR h.2⟩) I (fun k ds h R hR=>⟨(hb k ds h).1,(hb k ds h).2 R hR⟩) k ds h0⟩

theorem dX {inits:List E} (f:Nat→List D) (J:Nat→Prop) (n:Nat) (h0:aq env inits=some (f 0)) (hl:∀i,(f i).length=inits.length) (j0:J 0)
  (hb:∀i,i<n→J i→∀R:List D→Prop,(J (i+1)→R (f (i+1)))→so P body (env++f i) (cC l R Q))
  (he:J n→∀R:List D→Prop,so P body (env++f n) (cC l R Q)):aJ P (.loop l inits body) env Q:=by
 refine uo (fun k ds=>∃i,i≤n∧k=n-i∧ds=f i∧J i) h0 n ⟨0,Nat.zero_le _,rfl,rfl,j0⟩ ?_
 rintro k _ ⟨i,hi,rfl,rfl,hJ⟩
 refine⟨hl i,fun R hR=>?_⟩
 rcases Nat.lt_or_ge i n with h | h
 ·exact hb i h hJ R fun hJ'=>hR (n-(i+1)) _ (by omega) ⟨i+1,h,rfl,rfl,hJ'⟩
 ·have e:i=n:=by omega
  subst e
  exact he hJ R

/-! ### numbers -/

theorem Hx {env:List D}{y z:E}{m k:Int}(hy:y.eval env=some (.v (.int .i64 m)))(hz:z.eval env=some (.v (.int .i64 k)))(hb:-9223372036854775808≤m+k∧m+k<9223372036854775808):(E.bin .add .int y z).eval env=some (.v (.int .i64 (m+k))):=by
 simp only[E.eval,hy,hz,A0d,D.bin,zP,Oo,wrap64 hb,if_true,A0y]
 first | done | rfl
theorem Hv {env:List D}{y z:E}{m k:Int}(hy:y.eval env=some (.v (.int .i64 m)))(hz:z.eval env=some (.v (.int .i64 k)))(hb:-9223372036854775808≤m-k∧m-k<9223372036854775808):(E.bin .sub .int y z).eval env=some (.v (.int .i64 (m-k))):=by
 simp only[E.eval,hy,hz,A0d,D.bin,zP,Oo,wrap64 hb,if_true,A0y]
 first | done | rfl
theorem T5 {env:List D}{y z:E}{m k:Int}(hy:y.eval env=some (.v (.int .i64 m)))(hz:z.eval env=some (.v (.int .i64 k)))(hb:-9223372036854775808≤m*k∧m*k<9223372036854775808):(E.bin .mul .int y z).eval env=some (.v (.int .i64 (m*k))):=by
 simp only[E.eval,hy,hz,A0d,D.bin,zP,Oo,wrap64 hb,if_true,A0y]
 first | done | rfl
theorem T6 {env:List D}{y:E}{i:Nat}(hy:y.eval env=some (.v (.int .i64 i)))(hb:i<4611686018427387904):(E.bin .add .int y (.const (.v (.int .i64 1)))).eval env=some (.v (.int .i64 (i+1:Nat))):=
 Hx (k:=1) hy (by rfl) (by omega)
theorem T7 {env:List D}{y:E}{i:Nat}(hy:y.eval env=some (.v (.int .i64 (i+1:Nat))))(hb:i<4611686018427387904):(E.bin .sub .int y (.const (.v (.int .i64 1)))).eval env=some (.v (.int .i64 i)):=by
 have:=Hv (z:=.const (.v (.int .i64 1))) (k:=1) hy (by rfl) (by omega)
 rw[this]
 congr 3
 omega

theorem Qj {env:List D}{y:E}{i:Nat}(hy:y.eval env=some (.v (.int .i64 i)))(hb:1≤i∧i<4611686018427387904):(E.bin .sub .int y (.const (.v (.int .i64 1)))).eval env=some (.v (.int .i64 (i-1:Nat))):=by
 obtain⟨k,rfl⟩:∃k,i=k+1:=⟨i-1,by omega⟩
 exact T7 hy (by omega)

/-! ### ends -/
theorem oc {d d' st:D}(h:d=d'):eV.ret (.aM [d,st])=eV.ret (.aM [d',st]):=by rw[h]
theorem oe {x y:Bool}{st:D}(h:x=y):eV.ret (.aM [.v (.bool x),st])=eV.ret (.aM [.v (.bool y),st]):=by rw[h]
theorem oa {k:IntKind}{x y:Int}{st:D}(h:x=y):eV.ret (.aM [.v (.int k x),st])=eV.ret (.aM [.v (.int k y),st]):=by rw[h]
end

/-! ## lists as data -/
section
variable {α:Type} {enc:α→D} {xs:List α} {i:Nat} {a:α}

theorem bn:D.bD (.a_ (xs.map enc))=some (.v (.int .i64 xs.length)):=by simp[D.bD]

end
end

section
def lu {α:Type}(bs:List D)(e:TypeId)(sz:Nat)(enc:α→List D)(s:D)(xs:List α):Prop:=
 (xs=[]∧s=.cO)∨∃i,s=.sl i 0 xs.length∧bs[i]? = some (.bh e sz (xs.flatMap enc))

def D.KZ:D→Option Nat
 | .sl i _ _=>some i
 | _=>none

section
variable {α:Type} {bs bs':List D} {e:TypeId} {sz:Nat} {enc:α→List D} {s:D} {xs:List α}

theorem lu.len (h:lu bs e sz enc s xs):D.bD s=some (.v (.int .i64 xs.length)):=by
 rcases h with⟨rfl,rfl⟩ | ⟨i,rfl,_⟩ <;> rfl

theorem lu.get (h:lu bs e sz enc s xs){i:Nat}(hi:i<xs.length):∃b,s=.sl b 0 xs.length∧bs[b]? = some (.bh e sz (xs.flatMap enc)):=by
 rcases h with⟨rfl,_⟩ | h
 ·simp at hi
 ·exact h

theorem lu.keep (h:lu bs e sz enc s xs)(hk:∀i,s.KZ=some i→bs'[i]? = bs[i]?):lu bs' e sz enc s xs:=by
 rcases h with h | ⟨i,rfl,h⟩
 ·exact .inl h
 ·exact .inr ⟨i,rfl,by rw[hk i rfl];exact h⟩

theorem lu.lt (h:lu bs e sz enc s xs){i:Nat}(hi:s.KZ=some i):i<bs.length:=by
 rcases h with⟨_,rfl⟩ | ⟨j,rfl,h⟩
 ·cases hi
 ·cases hi
  exact(A0a.1 h).1

theorem lu.bh (h:lu bs e sz enc s xs){i:Nat}(hi:s.KZ=some i):bs[i]? = some (.bh e sz (xs.flatMap enc)):=by
 rcases h with⟨_,rfl⟩ | ⟨j,rfl,h⟩
 ·cases hi
 ·cases hi
  exact h

theorem lu.ne (h:lu bs e sz enc s xs){i k:Nat}(hi:s.KZ=some i){e':TypeId}{sz':Nat}{cs:List D}(hk:bs[k]? = some (.bh e' sz' cs))(he:e≠e'):i≠k:=by
 rintro rfl
 rw[h.bh hi] at hk
 cases hk
 exact he rfl

theorem lu.nil:lu bs e sz enc .cO ([]:List α):=.inl ⟨rfl,rfl⟩

theorem nw (hsz:∀x,(enc x).length=sz):∀{xs:List α} {i:Nat} {x:α},xs[i]? = some x→∃r,(xs.flatMap enc).drop (i*sz)=enc x++r
 | [],i,x,h=>by simp at h
 | y :: ys,0,x,h=>by
  simp at h
  subst h
  exact⟨ys.flatMap enc,by simp⟩
 | y :: ys,i+1,x,h=>by
  obtain⟨r,hr⟩:=nw hsz (xs:=ys) (i:=i) (x:=x) (by simpa using h)
  refine⟨r,?_⟩
  rw[List.flatMap_cons,List.drop_append,hsz y,show(i+1)*sz=sz+i*sz from by rw[Nat.add_mul];omega]
  rw[List.drop_eq_nil_of_le (by rw[hsz y];omega),Nat.add_sub_cancel_left,hr]
  rfl

theorem eF (hsz:∀x,(enc x).length=sz):∀{xs:List α},(xs.flatMap enc).length=xs.length*sz
 | []=>by simp
 | y :: ys=>by rw[List.flatMap_cons,A0t,eF hsz,hsz y,List.length_cons,Nat.add_mul];omega

theorem fy {b n i:Nat}(hi:i<n):D.av sz (.sl b 0 n) (.v (.int .i64 i))=some (.loc b (i*sz)):=by
 simp[D.av,hi]

theorem Mv {b i:Nat}{x:α}(hb:bs[b]? = some (.bh e sz (xs.flatMap enc)))(hsz:∀x,(enc x).length=sz)(hx:xs[i]? = some x):D.ld true sz (.st bs) (.loc b (i*sz))=some (.agg (enc x)):=by
 obtain⟨r,hr⟩:=nw hsz hx
 have hl:=eF hsz (xs:=xs)
 have hi:=(A0a.1 hx).1
 have h1:i*sz+sz≤(xs.flatMap enc).length:=by
  rw[hl,←Nat.succ_mul];exact Nat.mul_le_mul_right _ hi
 simp only[D.ld,D.vm,D.dJ,hb,A0d,if_true,h1,hr,List.take_append,hsz x,Nat.sub_self,List.take_zero,List.append_nil]
 rw[List.take_of_length_le (by rw[hsz x];omega)]

theorem Co {b i k:Nat}{x:α}{d:D}(hb:bs[b]? = some (.bh e sz (xs.flatMap enc)))(hsz:∀x,(enc x).length=sz)(hx:xs[i]? = some x)(hk:(enc x)[k]? = some d):D.ld false 1 (.st bs) (.loc b (i*sz+k))=some d:=by
 obtain⟨r,hr⟩:=nw hsz hx
 simp only[D.ld,D.vm,D.dJ,hb,A0d,B0f,if_false]
 rw[←B0o,hr,A0j (A0a.1 hk).1]
 exact hk

theorem cj {j k:Nat}{cs:List D}{d:D}(hj:bs[j]? = some (.bh e sz cs))(hk:cs[k]? = some d):D.ld false 1 (.st bs) (.loc j k)=some d:=by
 simp only[D.ld,D.vm,D.dJ,hj,A0d,B0f,if_false,hk]

theorem PB {j k n:Nat}{cs:List D}(hj:bs[j]? = some (.bh e sz cs))(hk:k+n≤cs.length):D.ld true n (.st bs) (.loc j k)=some (.agg ((cs.drop k).take n)):=by
 simp only[D.ld,D.vm,D.dJ,hj,A0d,if_true,hk]

end

section
variable {P:Program} {u:U} {Q:eV→Prop} {env aW:List D} {x y z:E} {d dx dy dz:D}
theorem kP {g:Bool}{n:Nat}(hx:x.eval env=some dx)(hy:y.eval env=some dy)(h:D.ld g n dx dy=some d)(he:env++[d]=aW)(kk:aJ P u aW Q):aJ P (.ev (.ld g n x y) u) env Q:=by
 subst he
 exact⟨d,by simp only[E.eval,hx,hy,A0d,h],kk⟩
theorem bG {n:Nat}(hx:x.eval env=some dx)(hy:y.eval env=some dy)(h:D.av n dx dy=some d)(he:env++[d]=aW)(kk:aJ P u aW Q):aJ P (.ev (.av n x y) u) env Q:=by
 subst he
 exact⟨d,by simp only[E.eval,hx,hy,A0d,h],kk⟩
theorem cm  (hx:x.eval env=some dx)(h:D.bD dx=some d)(he:env++[d]=aW)(kk:aJ P u aW Q):aJ P (.ev (.bD x) u) env Q:=by
 subst he
 exact⟨d,by simp only[E.eval,hx,A0d,h],kk⟩
theorem afF  (hx:x.eval env=some dx)(hy:y.eval env=some dy)(h:D.idx dx dy=some d)(he:env++[d]=aW)(kk:aJ P u aW Q):aJ P (.ev (.idx x y) u) env Q:=by
 subst he
 exact⟨d,by simp only[E.eval,hx,hy,A0d,h],kk⟩
theorem aa3 {n:Nat}(hx:x.eval env=some dx)(hy:y.eval env=some dy)(h:D.qK n dx dy=some d)(he:env++[d]=aW)(kk:aJ P u aW Q):aJ P (.ev (.qK n x y) u) env Q:=by
 subst he
 exact⟨d,by simp only[E.eval,hx,hy,A0d,h],kk⟩
theorem afI {n m:Nat}(hx:x.eval env=some dx)(hy:y.eval env=some dy)(h:D.app n m dx dy=some d)(he:env++[d]=aW)(kk:aJ P u aW Q):aJ P (.ev (.app n m x y) u) env Q:=by
 subst he
 exact⟨d,by simp only[E.eval,hx,hy,A0d,h],kk⟩
theorem RZ {n:Nat}(hx:x.eval env=some dx)(hy:y.eval env=some dy)(hz:z.eval env=some dz)(h:D.sub n dx dy dz=some d)(he:env++[d]=aW)(kk:aJ P u aW Q):aJ P (.ev (.sub n x y z) u) env Q:=by
 subst he
 exact⟨d,by simp only[E.eval,hx,hy,hz,A0d,h],kk⟩
theorem afB {k:Nat}(hx:x.eval env=some dx)(hy:y.eval env=some dy)(hz:z.eval env=some dz)(h:D.set dx dy k dz=some d)(he:env++[d]=aW)(kk:aJ P u aW Q):aJ P (.ev (.set x y k z) u) env Q:=by
 subst he
 exact⟨d,by simp only[E.eval,hx,hy,hz,A0d,h],kk⟩
theorem kJ {n:Nat}(hx:x.eval env=some dx)(hy:y.eval env=some dy)(hz:z.eval env=some dz)(h:D.eY n dx dy dz=some d)(he:env++[d]=aW)(kk:aJ P u aW Q):aJ P (.ev (.eY n x y z) u) env Q:=by
 subst he
 exact⟨d,by simp only[E.eval,hx,hy,hz,A0d,h],kk⟩
theorem FV {e n m:Nat}(hx:x.eval env=some dx)(hy:y.eval env=some dy)(hz:z.eval env=some dz)(h:D.fC e n m dx dy dz=some d)(he:env++[d]=aW)(kk:aJ P u aW Q):aJ P (.ev (.fC e n m x y z) u) env Q:=by
 subst he
 exact⟨d,by simp only[E.eval,hx,hy,hz,A0d,h],kk⟩
theorem aa9  (hx:x.eval env=some dx)(hy:y.eval env=some dy)(hz:z.eval env=some dz)(h:D.apps dx dy dz=some d)(he:env++[d]=aW)(kk:aJ P u aW Q):aJ P (.ev (.apps x y z) u) env Q:=by
 subst he
 exact⟨d,by simp only[E.eval,hx,hy,hz,A0d,h],kk⟩
theorem afC {n:Nat}{d0:D}(hx:x.eval env=some dx)(h:D.rep n dx d0=some d)(he:env++[d]=aW)(kk:aJ P u aW Q):aJ P (.ev (.rep n x d0) u) env Q:=by
 subst he
 exact⟨d,by simp only[E.eval,hx,A0d,h],kk⟩
theorem aa1 {e n:Nat}(hx:x.eval env=some dx)(hy:y.eval env=some dy)(h:D.fK e n dx dy=some d)(he:env++[d]=aW)(kk:aJ P u aW Q):aJ P (.ev (.fK e n x y) u) env Q:=by
 subst he
 exact⟨d,by simp only[E.eval,hx,hy,A0d,h],kk⟩
theorem jI {o:BinOp}{k:Kd}(hx:x.eval env=some dx)(hy:y.eval env=some dy)(h:D.bin o k dx dy=some d)(he:env++[d]=aW)(kk:aJ P u aW Q):aJ P (.ev (.bin o k x y) u) env Q:=by
 subst he
 exact⟨d,by simp only[E.eval,hx,hy,A0d,h],kk⟩
theorem aa7 {g:Bool}(hx:x.eval env=some dx)(hy:y.eval env=some dy)(h:D.qL g dx dy=some d)(he:env++[d]=aW)(kk:aJ P u aW Q):aJ P (.ev (.qL g x y) u) env Q:=by
 subst he
 exact⟨d,by simp only[E.eval,hx,hy,A0d,h],kk⟩
theorem aa8  (hx:x.eval env=some dx)(hy:y.eval env=some dy)(h:D.qM dx dy=some d)(he:env++[d]=aW)(kk:aJ P u aW Q):aJ P (.ev (.qM x y) u) env Q:=by
 subst he
 exact⟨d,by simp only[E.eval,hx,hy,A0d,h],kk⟩
theorem aa0 {e n:Nat}(hx:x.eval env=some dx)(hy:y.eval env=some dy)(h:D.dR e n dx dy=some d)(he:env++[d]=aW)(kk:aJ P u aW Q):aJ P (.ev (.dR e n x y) u) env Q:=by
 subst he
 exact⟨d,by simp only[E.eval,hx,hy,A0d,h],kk⟩
theorem Z8  (hx:x.eval env=some dx)(hy:y.eval env=some dy)(h:D.cY dx dy=some d)(he:env++[d]=aW)(kk:aJ P u aW Q):aJ P (.ev (.cY x y) u) env Q:=by
 subst he
 exact⟨d,by simp only[E.eval,hx,hy,A0d,h],kk⟩
theorem OZ {o:MOp}{w:E}{dw:D}(hx:x.eval env=some dx)(hy:y.eval env=some dy)(hz:z.eval env=some dz)(hw:w.eval env=some dw)(h:D.m4 o dx dy dz dw=some d)(he:env++[d]=aW)(kk:aJ P u aW Q):aJ P (.ev (.m4 o x y z w) u) env Q:=by
 subst he
 exact⟨d,by simp only[E.eval,hx,hy,hz,hw,A0d,h],kk⟩
theorem Ls {g:Bool}(hx:x.eval env=some dx)(hy:y.eval env=some dy)(h:D.mm g dx dy=some d)(he:env++[d]=aW)(kk:aJ P u aW Q):aJ P (.ev (.mm g x y) u) env Q:=by
 subst he
 exact⟨d,by simp only[E.eval,hx,hy,A0d,h],kk⟩
theorem Z9 {i n:Nat}(hx:x.eval env=some dx)(h:D.part i n dx=some d)(he:env++[d]=aW)(kk:aJ P u aW Q):aJ P (.ev (.cells i n x) u) env Q:=by
 subst he
 exact⟨d,by simp only[E.eval,hx,A0d,h],kk⟩

theorem aeP (hx:x.eval env=some dx)(hy:y.eval env=some dy)(hz:z.eval env=some dz)(h:D.apps dx dy dz=some d):(E.apps x y z).eval env=some d:=by simp only[E.eval,hx,hy,hz,A0d,h]
theorem aj5 {g:Bool}{n:Nat}(hx:x.eval env=some dx)(hy:y.eval env=some dy)(h:D.ld g n dx dy=some d):(E.ld g n x y).eval env=some d:=by simp only[E.eval,hx,hy,A0d,h]
theorem FT {n:Nat}{x1 x2 x3:E}{d1 d2 d3:D}(hx:x.eval env=some dx)(hy:y.eval env=some dy)(h1:x1.eval env=some d1)(h2:x2.eval env=some d2)(h3:x3.eval env=some d3)(ha:D.apps d1 d2 d3=some dz)(h:D.eY n dx dy dz=some d)(he:env++[d]=aW)(kk:aJ P u aW Q):aJ P (.ev (.eY n x y (.apps x1 x2 x3)) u) env Q:=by
 subst he
 exact⟨d,by simp only[E.eval,hx,hy,h1,h2,h3,ha,A0d,h],kk⟩

theorem mR {m k:Int}(hx:x.eval env=some (.v (.int .i64 m)))(hy:y.eval env=some (.v (.int .i64 k)))(hb:-9223372036854775808≤m+k∧m+k<9223372036854775808)(he:env++[.v (.int .i64 (m+k))]=aW)(h:aJ P u aW Q):aJ P (.ev (.bin .add .int x y) u) env Q:=by subst he;exact⟨_,Hx hx hy hb,h⟩
theorem jl {m k:Int}(hx:x.eval env=some (.v (.int .i64 m)))(hy:y.eval env=some (.v (.int .i64 k)))(hb:-9223372036854775808≤m-k∧m-k<9223372036854775808)(he:env++[.v (.int .i64 (m-k))]=aW)(h:aJ P u aW Q):aJ P (.ev (.bin .sub .int x y) u) env Q:=by subst he;exact⟨_,Hv hx hy hb,h⟩
theorem afE {m k:Int}(hx:x.eval env=some (.v (.int .i64 m)))(hy:y.eval env=some (.v (.int .i64 k)))(hb:-9223372036854775808≤m*k∧m*k<9223372036854775808)(he:env++[.v (.int .i64 (m*k))]=aW)(h:aJ P u aW Q):aJ P (.ev (.bin .mul .int x y) u) env Q:=by subst he;exact⟨_,T5 hx hy hb,h⟩
theorem eT {i:Nat}(hx:x.eval env=some (.v (.int .i64 i)))(hb:i<4611686018427387904)(he:env++[.v (.int .i64 (i+1:Nat))]=aW)(h:aJ P u aW Q):aJ P (.ev (.bin .add .int x (ki 1)) u) env Q:=by subst he;exact⟨_,T6 hx hb,h⟩
theorem um {i:Nat}(hx:x.eval env=some (.v (.int .i64 i)))(hb:1≤i∧i<4611686018427387904)(he:env++[.v (.int .i64 (i-1:Nat))]=aW)(h:aJ P u aW Q):aJ P (.ev (.bin .sub .int x (ki 1)) u) env Q:=by subst he;exact⟨_,Qj hx hb,h⟩
end

section
variable {α:Type} {enc:α→D} {xs ys:List α} {i:Nat} {a:α}

theorem KA {sz:Nat}(h:xs[i]? = some a)(hc:(enc a).cells.length=sz):D.av sz (.a_ (xs.map enc)) (.v (.int .i64 i))=some (.ptr (enc a).cells):=by
 simp[D.av,h,hc]

theorem bR {sz:Nat}(h:i<xs.length)(hc:(enc xs[i]).cells.length=sz):D.av sz (.a_ (xs.map enc)) (.v (.int .i64 i))=some (.ptr (enc xs[i]).cells):=KA (A0f h) hc

end

section
variable {P:Program} {body:U} {env:List D} {Q:eV→Prop} {l:Nat}

end
end

section
theorem JK {d:D}(h:d.one=true):d.cells=[d]:=by
 cases d <;> first | rfl | simp[D.one] at h

section
variable {α:Type} {bs:List D} {e:TypeId} {sz:Nat} {enc:α→List D} {s:D} {xs:List α}

theorem jq {i k:Nat}{cs:List D}{d:D}(hb:bs[i]? = some (.bh e sz cs))(hk:k<cs.length)(hd:d.one=true):D.eY 1 (.st bs) (.loc i k) d=some (.st (bs.set i (.bh e sz (cs.set k d)))):=by
 simp only[D.eY,D.dJ,hb,A0d,JK hd,List.length_cons,List.length_nil,List.all_cons,hd,List.all_nil,Bool.and_self,true_and,and_true]
 rw[if_pos (by omega)]
 have:cs.set k d=cs.take k++[d]++cs.drop (k+1):=by rw[List.set_eq_take_append_cons_drop,if_pos hk];simp
 rw[this]

theorem EV (hsz:∀x,(enc x).length=sz){o:Nat}(ho:o<sz){d:D}{x':α}:∀{xs:List α} {i:Nat} {x:α},xs[i]? = some x→enc x'=(enc x).set o d→(xs.flatMap enc).set (i*sz+o) d=(xs.set i x').flatMap enc
 | [],i,x,h,_=>by simp at h
 | y :: ys,0,x,h,he=>by
  simp at h
  subst h
  simp only[List.flatMap_cons,List.set_cons_zero,Nat.zero_mul,B0k]
  rw[List.set_append_left _ _ (by rw[hsz];exact ho),he]
 | y :: ys,i+1,x,h,he=>by
  simp only[List.flatMap_cons,List.set_cons_succ]
  rw[List.set_append_right _ _ (by rw[hsz,Nat.add_mul];omega),hsz,show(i+1)*sz+o-sz=i*sz+o from by rw[Nat.add_mul];omega,EV hsz ho (xs:=ys) (by simpa using h) he]

theorem R7 {b i o:Nat}{x x':α}{d:D}(hb:bs[b]? = some (.bh e sz (xs.flatMap enc)))(hsz:∀x,(enc x).length=sz)(hx:xs[i]? = some x)(ho:o<sz)(hd:d.one=true)(he:enc x'=(enc x).set o d):D.eY 1 (.st bs) (.loc b (i*sz+o)) d=some (.st (bs.set b (.bh e sz ((xs.set i x').flatMap enc)))):=by
 rw[jq hb _ hd,EV hsz ho hx he]
 rw[eF hsz]
 have hi:=(A0a.1 hx).1
 have:(i+1)*sz≤xs.length*sz:=Nat.mul_le_mul_right _ hi
 rw[Nat.add_mul] at this
 omega

theorem lu.append (h:lu bs e sz enc s xs){bytes:Nat}{x:α}{y:D}(hsz:∀x,(enc x).length=sz)(hy:y.cells=enc x)(ho:(enc x).all (·.one)=true)(hb:(xs.length+1)*bytes≤140737488355328)(hm:xs.length+1≤maxLen) :
  ∃ew,D.fC e sz bytes (.st bs) s (.a_ [y])=some (.st ew)∧D.apps (.st bs) s (.a_ [y])=some (.sl bs.length 0 (xs.length+1))∧ew[bs.length]? = some (.bh e sz ((xs++[x]).flatMap enc))∧ew.length=bs.length+1∧∀k,k<bs.length→s.KZ≠some k→ew[k]? = bs[k]?:=by
 have hac:bM sz [y]=true:=by simp[bM,hy,hsz]
 have hone:((bI [y]).all (·.one))=true:=by simpa[bI,hy] using ho
 rcases h with⟨rfl,rfl⟩ | ⟨i,rfl,hi⟩
 ·refine⟨bs++[.bh e sz (bI [y])],?_,rfl,?_,by simp,fun k hk _=>by rw[A0j hk]⟩
  ·simp only[D.fC,D.Dj,hac,hone,List.cons_ne_nil,if_false,List.length_cons,List.length_nil]
   rw[if_pos (by refine⟨by simpa using hb,by simpa using hm,?_⟩;simp)]
  ·simp[bI,hy]
 ·have uX:=(A0a.1 hi).1
  refine⟨(bs.set i (.aM []))++[.bh e sz (xs.flatMap enc++bI [y])],?_,rfl,?_,by simp,fun k hk hne=>?_⟩
  ·simp only[D.fC,D.Dj,D.dJ,hi,A0d,hac,hone,List.cons_ne_nil,if_false,List.length_cons,List.length_nil]
   rw[if_pos (by refine⟨?_,?_,?_,eF hsz,by simpa using hb,by simpa using hm,?_⟩ <;> simp)]
  ·rw[A0l (by simp)]
   simp[bI,hy]
  ·rw[A0j (by simpa using hk)]
   rw[B0l (fun e'=>hne (by rw[e'];rfl))]

theorem mg {i:Nat}{x:D}(h:i<bs.length):(bs.set i x)[i]? = some x:=by simp[h]
theorem dZ {i k:Nat}{x:D}(h:i≠k):(bs.set i x)[k]? = bs[k]?:=B0l h

end

/-! ## maps -/
section
variable {pre:List D} {kd:Kd} {bH:List D} {k u:D}
theorem acL (h:D.m5 kd k bH=some none):D.m4 (.put kd) (.st (pre++[.fm bH])) (.mp pre.length) k u=some (.st (pre++[.fm (bH++[.aM [k,u]])])):=by
 simp[D.m4,D.Ma,h]
theorem acM {x d:D}{i:Nat}(h:D.m5 kd k bH=some (some (i,x)))(h1:x.one=true):D.m4 (.get kd false) (.st (pre++[.fm bH])) (.mp pre.length) k d=some x:=by
 simp[D.m4,D.entries,D.oF (D.rI h),h,h1]
end

/-! ## steps of the store -/

structure U3 (bs:List D)(F:Nat→Prop)(bs':List D)(F':Nat→Prop):Prop where
 len:bs.length≤bs'.length
 old:∀k,k<bs.length→¬F k→bs'[k]? = bs[k]?
 new:∀k,F' k→F k∨bs.length≤k

theorem U3.refl (bs:List D)(F:Nat→Prop):U3 bs F bs F:=⟨A0m _,fun _ _ _=>rfl,fun _ h=>.inl h⟩

theorem U3.trans {bs ew gi:List D}{F F1 F2:Nat→Prop}(h:U3 bs F ew F1)(h':U3 ew F1 gi F2):U3 bs F gi F2:=by
 refine⟨B0e h.len h'.len,fun k hk hf=>?_,fun k hk=>?_⟩
 ·rw[h'.old k (A0s hk h.len) (fun h1=>(h.new k h1).elim hf fun h2=>absurd hk (by omega)),h.old k hk hf]
 ·rcases h'.new k hk with h1 | h1
  ·exact h.new k h1
  ·exact .inr (B0e h.len h1)
end

section
noncomputable section

structure Spec where
 f:FuncId
 fn:Func
 cf:bV
 own:Bool
 kn:Kn:=.plain
 nd:Bool:=false

def Fm (P:Program)(s:Spec):Option T:=
 match s.kn with
 | .plain=>ir P s.cf s.fn
 | .defers keep=>gz P s.cf s.fn keep
 | .gC=>lW P s.cf s.fn

def Da (P:Program):List Spec→Prop
 | []=>True
 | s :: r=>P.funcs[s.f]? = some s.fn∧Da P r

def II (P:Program)(k:ug→Bool):List Spec→ug→Bool
 | [],tb=>k tb
 | s :: r,tb=>match Fm P s with
  | none=>false
  | some t=>II P k r ({ f:=s.f,kn:=s.kn,cf:=s.cf,own:=s.own,aL:=bl P s.fn,t:=t,nd:=s.nd } :: tb)

theorem DS {P:Program}{k:ug→Bool}:∀{l:List Spec} {tb:ug},Da P l→(∀e,e∈tb→ak P e)→II P k l tb=true→∃tb',(∀e,e∈tb'→ak P e)∧k tb'=true
 | [],tb,_,h,hk=>⟨tb,h,hk⟩
 | s :: r,tb,hs,h,hk=>by
  unfold II at hk
  split at hk
  ·cases hk
  ·rename_i t ht
   refine DS hs.2 (fun e he=>?_) hk
   rcases B0t.1 he with rfl | he
   ·refine⟨s.fn,hs.1,rfl,?_⟩
    unfold Fm at ht
    cases hk:s.kn <;> rw[hk] at ht <;> exact ht
   ·exact h e he

structure Fact where
 f:FuncId
 ds:List D
 d:D

def Fact.ok (P:Program)(b0:List D)(x:Fact):Prop:=∀bs:List D,aU P x.f (.st (b0++bs)) x.ds x.d

def Dc (P:Program)(b0:List D):List Fact→Prop
 | []=>True
 | x :: r=>x.ok P b0∧Dc P b0 r

def u_ (f:FuncId)(ds:List D):List Fact→Option D
 | []=>none
 | x :: r=>if x.f=f then(if D.eJ x.ds ds=true then some x.d else u_ f ds r) else u_ f ds r

theorem u7 {P:Program}{b0:List D}{f:FuncId}{ds:List D}{d:D}{bs:List D}:∀{l:List Fact},Dc P b0 l→u_ f ds l=some d→aU P f (.st (b0++bs)) ds d
 | [],_,h=>by simp[u_] at h
 | x :: r,hl,h=>by
  unfold u_ at h
  split at h
  ·rename_i hf
   split at h
   ·rename_i hd
    cases h
    have:=hl.1 bs
    rw[hf,D.cF hd] at this
    exact this
   ·exact u7 hl.2 h
  ·exact u7 hl.2 h

def qC (b0:List D)(l:List Fact):we where
 R:=fun f st ds=>match st with
  | .st bs=>if z6 b0 bs=true then(u_ f ds l).map .ret else none
  | _=>none
 W:=fun _ _ _=>none
 F:=fun _ _ _ _=>none
 I:=fun _ _ _ _ _=>none

theorem gw {P:Program}{b0:List D}{l:List Fact}(h:Dc P b0 l):jC P (qC b0 l):=by
 refine⟨fun f st ds r hr=>?_,fun _ _ _ _ _ h=>(by cases h),fun _ _ _ _ _ h=>(by cases h),fun _ _ _ _ _ _ _ h=>(by cases h)⟩
 simp only[qC] at hr
 split at hr
 ·split at hr
  ·rename_i hb
   obtain⟨q,rfl⟩:=qG hb
   obtain⟨d,hd,rfl⟩:=A0b.1 hr
   exact u7 h hd
  ·cases hr
 ·cases hr

def Out.MG (d:D):Option Out→Bool
 | some (.ret d')=>D.same d' d
 | _=>false

theorem Out.MF {d:D}{x:Option Out}(h:Out.MG d x=true):x=some (.ret d):=by
 unfold Out.MG at h
 split at h
 ·rw[D.b_ h]
 ·cases h

theorem w5 {P:Program}{l:List Spec}{o:we}{b0:List D}(hs:Da P l)(ho:jC P o)(x:Fact)(n m:Nat)(hd:dH x.ds=true)(h0:oI b0=true)(h1:x.d.fO=true){tb0:ug}(ht:∀e,e∈tb0→ak P e)(h:II P (fun tb=>Out.MG x.d ((j6 P tb n b0 o m).R x.f (.st b0) x.ds)) l tb0=true):x.ok P b0:=by
 obtain⟨tb,g1,g2⟩:=DS hs ht h
 exact fun bs=>((lK (n:=n) g1 ho m).R x.f (.st b0) x.ds _ (Out.MF g2)).ofA h0 hd h1 bs

end
end
end Go.Am
