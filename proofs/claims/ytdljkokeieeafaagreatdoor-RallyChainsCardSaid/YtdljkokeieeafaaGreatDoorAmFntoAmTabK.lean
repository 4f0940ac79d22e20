/-
  Several texts, one behind the other.
-/
import Derived.Test.YtdljkokeieeafaaGreatDoorAmSound
import Derived.Defers
import Derived.Recover
import Derived.ProofKit
import Derived.OpenShut
import Derived.Carry
import Derived.Handed
set_option linter.unusedSimpArgs false
set_option linter.unusedVariables false
/-
 A whole function: its contract,out of the meaning of the text that it was turned into.
-/
namespace Go.Am
noncomputable section

def retSV (σ:SState):SV→Option E
 | .slc o=>match σ.obj o with
  | some (.row x _)=>some x
  | _=>none
 | sv=>sv.toE

def retVar (P:Program)(σ:SState):ResultVar→Option E
 | .tmp t=>retSV σ (σ.tmp t)
 | .cell t ty=>match σ.tmp t with
  | .addr o off=>match σ.obj o,aggT P ty,szT P ty with
   | some (.box cs),some true,some n=>if off+n≤cs.length then(SV.agg ((cs.drop off).take n)).toE else none
   | some (.box cs),some false,_=>(cs[off]?).bind (retSV σ)
   | _,_,_=>none
  | .e p _=>match σ.hs,aggT P ty,szT P ty with
   | some (.store _ h),some agg,some n=>some (.ld agg n h p)
   | _,_,_=>none
  | _=>none

def retVars (P:Program)(σ:SState):List ResultVar→Option E
 | []=>some .tnil
 | r :: rs=>match retVar P σ r,retVars P σ rs with
  | some x,some y=>some (.tcons x y)
  | _,_=>none

def retOf (P:Program)(rs:List ResultVar)(σ:SState):Option E:=
 match rs with
 | [r]=>retVar P σ r
 | rs=>retVars P σ rs

def Sfin (ρ:Rho)(σ:SState):Sets:=ρ.S.or fun b _=>∃o x sz,σ.obj o=some (.row x sz)∧ρ.blk o=b

section
variable {P:Program} {w w0:World} {X:Ent} {a:Act} {σ:SState} {env:List D} {ρ:Rho}

theorem RdD.fin {v:Value}{d:D}(h:RdD w ρ.S v d):RdD w (Sfin ρ σ) v d:=h.keep (Keeps.refl _ _) (ρ.S.le_or _)

theorem row_rd {o:Nat}{x:E}{sz:Nat}(ho:σ.obj o=some (.row x sz))(h:ObjOk w ρ env o (.row x sz)):∃d,x.eval env=some d∧RdD w (Sfin ρ σ) (ρ.val o) d:=by
 obtain⟨vs,ty,es,hh,hx,hz,hl,hr,hv,hm,hS⟩:=h
 refine⟨_,hx,?_⟩
 rw[hv]
 refine .lst (size:=sz) (val:=fun i j=>vs.getD (i*sz+j) undef) rfl (Nat.le_refl _) hm hz (fun i e j d he hd=>(hr i e j d he hd).1) (fun i e j d he hd=>.inr ⟨o,x,sz,ho,rfl⟩) (fun i e j d he hd=>?_) fun i e j d he hd=>?_
 ·obtain⟨_,v,hv',_⟩:=hr i e j d he hd
  rw[Nat.zero_add,cell_heap hh,hv',Array.getD_eq_getD_getElem?,hv']
  rfl
 ·obtain⟨_,v,hv',hrd⟩:=hr i e j d he hd
  rw[Array.getD_eq_getD_getElem?,hv']
  exact hrd.fin

theorem retSV_rd {sv:SV}{x:E}{v:Value}(h:retSV σ sv=some x)(hr:SRd w ρ env v sv)(hobj:∀o y,σ.obj o=some y→ObjOk w ρ env o y):∃d,x.eval env=some d∧RdD w (Sfin ρ σ) v d:=by
 unfold retSV at h
 split at h
 ·rename_i o
  split at h
  ·rename_i y sz ho
   cases h
   rw[hr.slc_inv]
   exact row_rd ho (hobj o _ ho)
  ·cases h
 ·obtain⟨d,hd,hrd⟩:=SV.toE_rd h hr
  exact⟨d,hd,hrd.fin⟩

def resultOf (tmps:Array Value):ResultVar→Sem Value
 | .tmp t=>pure (tmps.getD t undef)
 | .cell a t=>do loadVar t (←asAddr (tmps.getD a undef))

theorem retVar_rd (h:Rep w0 X w a σ env ρ){r:ResultVar}{x:E}{d:D}(hx:retVar P σ r=some x)(he:x.eval env=some d):∃v,(resultOf a.tmps r).run P w=.ok v w∧RdD w (Sfin ρ σ) v d:=by
 unfold retVar at hx
 split at hx
 ·rename_i t
  obtain⟨d',hd,hrd⟩:=retSV_rd hx (h.tmps t) h.objs
  rw[he] at hd
  cases hd
  exact⟨_,rfl,hrd⟩
 ·rename_i t ty
  split at hx
  ·rename_i o off ht
   have hslot:=h.tmps t
   rw[ht] at hslot
   have hv:=hslot.addr_inv
   have hrun:∀{v:Value},(loadVar ty ⟨ρ.blk o,off,none⟩).run P w=.ok v w→(resultOf a.tmps (.cell t ty)).run P w=.ok v w:=by
    intro v hl
    simp only[resultOf,hv,asAddr,Sem.run_bind,Sem.run_pure,Result.andThen_ok,hl]
   split at hx
   ·rename_i cs n ho hg hn
    obtain⟨vs,tyb,hh,hlen,hone,hr,_⟩:=h.objs o _ ho
    split at hx
    ·rename_i hle
     have hs:SRd w ρ env (.agg ((vs.toList.drop off).take n).toArray) (.agg ((cs.drop off).take n)):=by
      refine .agg (by simp[hlen]) (fun i v hv=>?_) fun i v c hv hc=>?_
      ·simp only[List.getElem?_toArray,List.getElem?_take] at hv
       split at hv
       ·exact hone (off+i) v (by simpa using hv)
       ·cases hv
      ·simp only[List.getElem?_toArray,List.getElem?_take] at hv hc
       split at hv
       ·rename_i hi
        rw[if_pos hi] at hc
        exact hr (off+i) v c (by simpa using hv) (by simpa using hc)
       ·cases hv
     obtain⟨d',hd,hrd⟩:=SV.toE_rd hx hs
     rw[he] at hd
     cases hd
     refine⟨_,hrun (run_load_agg (vs:=(vs.toList.drop off).take n) hg hn (by simp[hlen];omega) fun j v hv=>?_),hrd.fin⟩
     rw[cell_heap hh]
     rw[List.getElem?_take] at hv
     split at hv
     ·simpa using hv
     ·cases hv
    ·cases hx
   ·rename_i cs ho hg
    obtain⟨vs,tyb,hh,hlen,hone,hr,_⟩:=h.objs o _ ho
    obtain⟨c,hc,hx⟩:=Option.bind_eq_some_iff.1 hx
    have hi:off<vs.size:=by rw[hlen];exact(List.getElem?_eq_some_iff.1 hc).1
    obtain⟨d',hd,hrd⟩:=retSV_rd hx (hr off vs[off] c (by simp[hi]) hc) h.objs
    rw[he] at hd
    cases hd
    exact⟨_,hrun (run_load_one (v:=vs[off]) hg (by rw[cell_heap hh];simp[hi])),hrd⟩
   ·cases hx
  ·rename_i p s ht
   have hslot:=h.tmps t
   rw[ht] at hslot
   obtain⟨dp,hp,hrp,_⟩:=hslot.e_inv
   split at hx
   ·rename_i cf hh agg n hhs hg hn
    cases hx
    obtain⟨bs,hb1,hst,_⟩:=h.objs HID (.store cf hh) (by rw[SState.obj_def,if_pos rfl];exact hhs)
    simp only[E.eval,hb1,hp,Option.bind_some] at he
    obtain⟨b,off,u,hv,hrun,hru,_⟩:=ld_run hg hn hrp (.inr hst) he
    refine⟨u,?_,hru.fin⟩
    simp only[resultOf,hv,asAddr,Sem.run_bind,Sem.run_pure,Result.andThen_ok,hrun]
   ·cases hx
  ·cases hx

theorem retVars_rd (h:Rep w0 X w a σ env ρ):∀{rs:List ResultVar} {x:E} {d:D},retVars P σ rs=some x→x.eval env=some d→∃vs ds,(rs.mapM (resultOf a.tmps)).run P w=.ok vs w∧d=.tup ds∧vs.length=ds.length∧vs.length=rs.length∧∀(i:Nat) (v:Value) (d:D),vs[i]? = some v→ds[i]? = some d→RdD w (Sfin ρ σ) v d
 | [],x,d,hx,he=>by
  simp[retVars] at hx
  subst hx
  simp[E.eval] at he
  exact⟨[],[],rfl,he.symm,rfl,rfl,by simp⟩
 | r :: rs,x,d,hx,he=>by
  simp only[retVars] at hx
  split at hx
  ·rename_i y z hy hz
   cases hx
   simp only[E.eval,Option.bind_eq_some_iff] at he
   obtain⟨d1,he1,d2,he2,he⟩:=he
   obtain⟨v,h1,h3⟩:=retVar_rd h hy he1
   obtain⟨vs,ds,h4,rfl,h6,h6',h7⟩:=retVars_rd h hz he2
   simp only[D.tcons] at he
   cases he
   refine⟨v :: vs,d1 :: ds,by simp only[List.mapM_cons,Sem.run_bind,h1,Result.andThen_ok,h4,Sem.run_pure],rfl,by simp[h6],by simp[h6'],fun i v' d' hv hd=>?_⟩
   cases i with
   | zero=>simp at hv hd;subst hv hd;exact h3
   | succ i=>exact h7 i v' d' (by simpa using hv) (by simpa using hd)
  ·cases hx

theorem results_run (fn:Func)(tmps:Array Value){vs:List Value}(h:(fn.results.toList.mapM (resultOf tmps)).run P w=.ok vs w):(results fn tmps).run P w=.ok (if h:vs.length=1 then vs[0] else .tuple vs.toArray) w:=by
 have he:results fn tmps=(do let vs ←fn.results.mapM (resultOf tmps);pure (if h:vs.size=1 then vs[0] else .tuple vs)):=by
  unfold results
  congr 1
 rw[he,Array.mapM_eq_mapM_toList]
 simp only[Sem.run_bind,Sem.run_map,h,Result.andThen_ok,Sem.run_pure,List.size_toArray]
 congr 1

theorem retOf_rd (h:Rep w0 X w a σ env ρ){fn:Func}{x:E}{d:D}(hx:retOf P fn.results.toList σ=some x)(he:x.eval env=some d):∃v,(results fn a.tmps).run P w=.ok v w∧RdD w (Sfin ρ σ) v d:=by
 unfold retOf at hx
 split at hx
 ·rename_i r hr
  obtain⟨v,h1,h3⟩:=retVar_rd h hx he
  refine⟨v,?_,h3⟩
  have:=results_run (P:=P) (w:=w) fn a.tmps (vs:=[v]) (by rw[hr];simp only[List.mapM_cons,List.mapM_nil,Sem.run_bind,h1,Result.andThen_ok,Sem.run_pure])
  simpa using this
 ·rename_i hne
  obtain⟨vs,ds,h1,rfl,h3,h3',h4⟩:=retVars_rd h hx he
  have:=results_run (P:=P) (w:=w) fn a.tmps h1
  rw[dif_neg ?_] at this
  ·exact⟨_,this,.tup (by simpa using h3) fun i v d hv hd=>h4 i v d (by simpa using hv) hd⟩
  ·intro hl
   rw[hl] at h3'
   match hrs:fn.results.toList,h3' with
   | [r],_=>exact hne r hrs

end

def paramOnes (P:Program)(fn:Func):List Bool:=(fn.params.toList.map fun t=>decide (aggT P t=some false))++List.replicate fn.nfree true

def nParams (fn:Func):Nat:=fn.params.size+fn.nfree

def startTmps:Nat→List Bool→List SV
 | _,[]=>[]
 | i,b :: r=>.e (.sym i) b :: startTmps (i+1) r

def startState (cf:StCfg)(n np:Nat)(bs:List Bool):SState:={ tmps:=startTmps 0 bs++List.replicate (n-bs.length) .junk,mem:=List.replicate n none,hs:=some (.store cf (.sym np)) }

def retAll (P:Program)(rs:List ResultVar)(σ:SState):Option E:=
 match retOf P rs σ,σ.hs with
 | some x,some (.store _ h)=>some (.tcons x (.tcons h .tnil))
 | _,_=>none

def compileFn (P:Program)(cf:StCfg)(fn:Func):Option T:=
 match fn.body with
 | none=>none
 | some c=>if fn.ntmps<nParams fn∨HID<fn.ntmps then none else compile P (retAll P fn.results.toList) c 0 (nParams fn+1) (startState cf fn.ntmps (nParams fn) (paramOnes P fn)) [] fun _ _ σ=>(retAll P fn.results.toList σ).map T.ret

def argsFit:List Bool→List D→Bool
 | [],[]=>true
 | b :: r,d :: s=>(!b||d.one)&&argsFit r s
 | _,_=>false

theorem argsFit_spec:∀{bs:List Bool} {ds:List D},argsFit bs ds=true→bs.length=ds.length∧∀(i:Nat) (b:Bool) (d:D),bs[i]? = some b→ds[i]? = some d→b=true→d.one=true
 | [],[],_=>⟨rfl,by simp⟩
 | [],_ :: _,h=>by simp[argsFit] at h
 | _ :: _,[],h=>by simp[argsFit] at h
 | b :: r,d :: s,h=>by
  simp only[argsFit,Bool.and_eq_true,Bool.or_eq_true,Bool.not_eq_true'] at h
  obtain⟨h1,h2⟩:=argsFit_spec h.2
  refine⟨by simp[h1],fun i b' d' hb hd ht=>?_⟩
  cases i with
  | zero=>simp at hb hd;subst hb hd;exact h.1.resolve_left (by simp[ht])
  | succ i=>exact h2 i b' d' (by simpa using hb) (by simpa using hd) ht

theorem startTmps_get:∀{bs:List Bool} {k i:Nat} {c:SV},(startTmps k bs)[i]? = some c→∃b,bs[i]? = some b∧c=.e (.sym (k+i)) b
 | [],_,_,_,h=>by simp[startTmps] at h
 | b :: r,k,0,c,h=>by simp[startTmps] at h;exact⟨b,rfl,h.symm⟩
 | b :: r,k,i+1,c,h=>by
  obtain⟨b',h1,h2⟩:=startTmps_get (bs:=r) (k:=k+1) (i:=i) (by simpa[startTmps] using h)
  exact⟨b',by simpa using h1,by rw[h2,show k+1+i=k+(i+1) from by omega]⟩

theorem startTmps_length:∀(bs:List Bool) (k:Nat),(startTmps k bs).length=bs.length
 | [],_=>rfl
 | _ :: r,k=>by simp[startTmps,startTmps_length r]

theorem left_fin {w w':World}{a:Act}{σ:SState}{env:List D}{ρ:Rho}{S:Sets}{foot may:Nat→Prop}{dfs:List Deferred}{bs:List D}{cf:StCfg}{x:E}(h:Rep w ⟨may,S,foot,dfs⟩ w' a σ env ρ)(hst:StOk w' ρ.S ρ.foot bs)(hob:σ.obj HID=some (.store cf x))(hmay2:∀b,may b→foot b):Left w S foot may w' (Sfin ρ σ) ρ.foot bs:=by
 have h0:=left_of_rep h hst ⟨cf,x,hob⟩ hmay2
 have hnrow:∀b off,ρ.foot b→¬Sfin ρ σ b off:=by
  intro b off hfb hs
  rcases hs with hs | ⟨o,x',sz,ho,hb⟩
  ·exact hst.nos b off hfb hs
  ·have:=h.inj o HID _ _ b ho hob hb hfb
   subst this
   rw[hob] at ho
   cases ho
 refine⟨?_,Sets.le_trans h.sub (ρ.S.le_or _),h.os,h.tape,h.output,h.grown,h.old,h0.ft,fun b o hs=>?_,fun b o hs=>?_⟩
 ·refine⟨hst.n,fun i e sz cs hi=>?_,hnrow,fun i kvs hi=>?_,hst.inj,fun i z hi hz=>?_⟩
  ·obtain⟨hf',us,g1,g2,g3,g4,g5,g6⟩:=hst.cells i e sz cs hi
   exact⟨hf',us,g1,g2,g3,g4,fun j u d hu hd=>(g5 j u d hu hd).fin,fun off=>hnrow _ off hf'⟩
  ·obtain⟨hf',es,clock,g1,g2,g3,g4⟩:=hst.maps i kvs hi
   refine⟨hf',es,clock,g1,g2,fun off=>hnrow _ off hf',fun j e kv he hkv=>?_⟩
   obtain⟨dk,dv,g5,g6,g7⟩:=g4 j e kv he hkv
   exact⟨dk,dv,g5,g6.fin,g7.fin⟩
  ·obtain⟨hf',g1,_⟩:=hst.its i z hi hz
   exact⟨hf',g1,fun off=>hnrow _ off hf'⟩
 ·rcases hs with hs | ⟨o',x',sz,ho,rfl⟩
  ·exact h0.new b o hs
  ·rcases(h.own o' _ _ ho rfl).1 with g | g | g
   ·cases g.1
   ·exact .inr (.inr g)
   ·exact .inr (.inl g)
 ·rcases hs with hs | ⟨o',x',sz,ho,rfl⟩
  ·exact h.cells b o hs
  ·exact(h.own o' _ _ ho rfl).2

def EndsAs (Qd:D→D→Prop)(Qp:D→D→Prop):Sig→Prop
 | .ret (.tup [d,st])=>Qd d st
 | .pan d st _ _=>Qp d st
 | _=>False

theorem calls_of_den {P:Program} {cf:StCfg} {f:FuncId} {fn:Func} {t:T} {ds:List D} {bs:List D} {Qd Qp:D→D→Prop} (hf:P.funcs[f]? = some fn) (hc:compileFn P cf fn=some t) (hfit:argsFit (paramOnes P fn) ds=true) (hden:den P t (ds++[.st bs]) (EndsAs Qd Qp))
  {w:World} {S:Sets} {foot may:Nat→Prop} {vs:Array Value} (hst:StOk w S foot bs) (hhold:HoldOk w S foot) (hfl:∀b,foot b→b<w.heap.size) (hS:∀b o,S b o→b<w.heap.size) (hvl:vs.size=ds.length) (hrd:∀(i:Nat) (v:Value) (x:D),vs[i]? = some v→ds[i]? = some x→RdD w S v x)
  (hmay:∀b,foot b→cf.ro=true∨may b) (hmay2:∀b,may b→foot b) :
  Calls P f vs w fun e w'=>∃(o:Out) (v:Value) (S':Sets) (foot':Nat→Prop) (bs':List D),(match o with | .ret d=>Qd d (.st bs') | .pan d=>Qp d (.st bs'))∧o.ends w' S' v e∧Left w S foot may w' S' foot' bs':=by
 obtain⟨hbl,hbo⟩:=argsFit_spec hfit
 have hpl:(paramOnes P fn).length=nParams fn:=by simp[paramOnes,nParams]
 unfold compileFn at hc
 split at hc
 ·cases hc
 ·rename_i c hbody
  split at hc
  ·cases hc
  ·rename_i hnt
   rw[not_or] at hnt
   refine(callsIn_wide (n:=0)).1 (callsIn_of_wp_marks (F:=Fence.wide) hf hbody trivial ?_)
   show c.wpIn (FW none) 0 P _ _ _
   have hrep:Rep w ⟨may,S,foot,[]⟩ w { tmps:=vs++Array.replicate (fn.ntmps-vs.size) undef,defers:=[] } (startState cf fn.ntmps (nParams fn) (paramOnes P fn)) (ds++[.st bs]) { blk:=fun _=>0,val:=fun _=>undef,S:=S,foot:=foot }:=by
    have hobj:∀o x,(startState cf fn.ntmps (nParams fn) (paramOnes P fn)).obj o=some x→o=HID∧x=.store cf (.sym (nParams fn)):=by
     intro o x hx
     simp only[SState.obj_def,startState,List.getD_eq_getElem?_getD,List.getElem?_replicate] at hx
     split at hx
     ·cases hx;exact⟨by assumption,rfl⟩
     ·split at hx <;> simp at hx
    refine⟨by simp[startState,startTmps_length,hvl,hbl],fun t=>?_,fun o x hx=>?_,fun o o' x x' b hx hx' _ _=>?_,fun o x b hx hb=>?_,hS,rfl,.refl _,rfl,Nat.le_refl _,fun _ _ _=>rfl,Sets.le_refl _,fun _ _ h=>.inl h,rfl,fun l rec hl=>⟨(hhold l rec hl).1,fun hm=>(hhold l rec hl).2 (hmay2 l hm),(hhold l rec hl).2⟩⟩
    ·simp only[SState.tmp_def,startState,List.getD_eq_getElem?_getD]
     rcases Nat.lt_or_ge t (paramOnes P fn).length with ht | ht
     ·rw[List.getElem?_append_left (by rw[startTmps_length];exact ht)]
      cases hs:(startTmps 0 (paramOnes P fn))[t]? with
      | none=>exact .junk
      | some c=>
       obtain⟨b,hb,rfl⟩:=startTmps_get hs
       have htd:t<ds.length:=by omega
       have htv:t<vs.size:=by omega
       simp only[Option.getD_some,Nat.zero_add]
       have hval:(vs++Array.replicate (fn.ntmps-vs.size) undef).getD t undef=vs[t]:=by
        rw[Array.getD_eq_getD_getElem?,Array.getElem?_append_left htv,Array.getElem?_eq_getElem htv]
        rfl
       rw[hval]
       exact .e (d:=ds[t]) (by simp[E.eval,List.getElem?_append_left htd,htd]) (hrd t _ _ (Array.getElem?_eq_getElem htv) (List.getElem?_eq_getElem htd)) fun hbt=>hbo t b _ hb (List.getElem?_eq_getElem htd) hbt
     ·rw[List.getElem?_append_right (by rw[startTmps_length];exact ht),List.getElem?_replicate]
      split <;> exact .junk
    ·obtain⟨rfl,rfl⟩:=hobj o x hx
     refine⟨bs,?_,hst,rfl⟩
     simp only[E.eval]
     rw[List.getElem?_append_right (by omega)]
     simp[show nParams fn-ds.length=0 from by omega]
    ·obtain⟨rfl,_⟩:=hobj o x hx
     obtain⟨rfl,_⟩:=hobj o' x' hx'
     rfl
    ·obtain⟨rfl,rfl⟩:=hobj o x hx
     exact⟨(hmay b hb).imp (fun e=>⟨e,hb⟩) .inr,hfl b hb⟩
   have hmk:∀{w1 w':World} {X1:Ent} {a':Act} {σ:SState} {env:List D} {ρ:Rho} {u:FrameMode} {R:Ending→World→Prop},u≠.run→Ext w ⟨may,S,foot,[]⟩ w1 X1→Rep w1 X1 w' a' σ env ρ→(∀w2,Rep w ⟨may,S,foot,X1.dfs⟩ w2 a' σ env ρ→(∀b o,w2.cell? ⟨b,o,none⟩=w'.cell? ⟨b,o,none⟩)→(∀o x b,σ.obj o=some x→objBlk ρ o x b→w2.heap[b]? = w'.heap[b]?)→LeavesIn Fence.wide 0 P fn a'.tmps R [] u w2)→LeavesInM Fence.wide 0 P fn a'.tmps R a'.defers u w':=by
    intro w1 w' X1 a' σ env ρ u R hu hx hr h
    obtain⟨cs,h1,h2,h3⟩:=hx.dfs
    have h0:=hx.rep hr hrep.hold
    rw[hr.nod,h1,List.append_nil]
    refine leaves_marks hu cs w' h2 (fun D hD=>?_) fun w2 hm=>h w2 (Rep.marked hr h0 (fun D hD=>?_) hm) hm.cell fun o x b hx hb=>hm.other b fun hD=>?_
    ·obtain⟨g1,g2,g3,g4⟩:=h3 D hD
     exact(hr.old D (Array.getElem?_eq_some_iff.1 g1).1 g2).trans g1
    ·obtain⟨g1,g2,g3,g4⟩:=h3 D hD
     exact⟨(Array.getElem?_eq_some_iff.1 g1).1,g2,g3,g4⟩
    ·obtain⟨g1,g2,g3,g4⟩:=h3 b hD
     have:=(Array.getElem?_eq_some_iff.1 g1).1
     rcases(hr.own o x b hx hb).1 with g | g | g
     ·exact g3 g.2
     ·omega
     ·exact g2 g
   obtain⟨R,hR⟩:∃R:Ending→World→Prop,R=fun e w'=>∃(o:Out) (v:Value) (S':Sets) (foot':Nat→Prop) (bs':List D),(match o with | .ret d=>Qd d (.st bs') | .pan d=>Qp d (.st bs'))∧o.ends w' S' v e∧Left w S foot may w' S' foot' bs':=⟨_,rfl⟩
   rw[←hR]
   have hend:∀(w1:World) (X1:Ent) (σ:SState) (x:E) (env:List D) (ρ:Rho) (a':Act) (w':World) (d':D),Ext w ⟨may,S,foot,[]⟩ w1 X1→retAll P fn.results.toList σ=some x→Rep w1 X1 w' a' σ env ρ→x.eval env=some d' →
     ∃d0 bs',d'=.tup [d0,.st bs']∧(Qd d0 (.st bs')→LeavesInM Fence.wide 0 P fn a'.tmps R a'.defers .returning w'):=by
    intro w1 X1 σ x env ρ a' w' d' hext hx hr he
    unfold retAll at hx
    split at hx
    ·rename_i y cf' hh hy hhs
     cases hx
     have hob:σ.obj HID=some (.store cf' hh):=by rw[SState.obj_def,if_pos rfl];exact hhs
     obtain⟨bs',hb1,_,_⟩:=hr.objs _ _ hob
     simp only[E.eval,hb1,Option.bind_some,D.tcons,Option.bind_eq_some_iff] at he
     obtain⟨d2,h2,he⟩:=he
     cases he
     refine⟨d2,bs',rfl,fun hq=>hmk (by simp) hext hr fun w2 hr2 _ _=>?_⟩
     obtain⟨bs2,hb2,hst2,_⟩:=hr2.objs _ _ hob
     rw[hb1] at hb2
     cases hb2
     obtain⟨v,h1,h3⟩:=retOf_rd hr2 hy h2
     refine⟨v,h1,?_⟩
     rw[hR]
     exact⟨.ret d2,v,Sfin ρ σ,ρ.foot,bs',hq,⟨rfl,h3⟩,left_fin hr2 hst2 hob hmay2⟩
    ·cases hx
   have hlens:Lens fn.ntmps (startState cf fn.ntmps (nParams fn) (paramOnes P fn)):=⟨by simp[startState,startTmps_length,hpl];omega,by simp[startState]⟩
   have hs:=compile_sound (P:=P) (N:=fn.ntmps) c (B:=fun w1 X1=>Ext w ⟨may,S,foot,[]⟩ w1 X1) (RetOk:=fun w' a' d'=>∃d0 bs',d'=.tup [d0,.st bs']∧(Qd d0 (.st bs')→LeavesInM Fence.wide 0 P fn a'.tmps R a'.defers .returning w')) (rd:=none) (nd:=0)
    (rv:=retAll P fn.results.toList) (fun w1 X1 hB σ x hx env ρ a w' d hr he=>hend w1 X1 σ x env ρ a w' d hB hx hr he) (fun l e=>by cases e) (.inr (.inr fun _ _ _ _ h k=>h.trans k)) 0 _ [] _ t (ds++[.st bs]) (by rw[List.length_append,←hbl,hpl];exact hc) _ _ w w ⟨may,S,foot,[]⟩ _ (Ext.refl _ _) hden hrep hlens (fun id e he=>by simp[exOf] at he)
   refine wpIn_mono hs fun e a' w' h=>?_
   cases e with
   | normal=>
    obtain⟨w1,X1,env',σ',ρ',t',hext,_,hk,hd',hr',_⟩:=h
    obtain⟨x,hx,rfl⟩:=Option.map_eq_some_iff.1 hk
    obtain⟨d',he,hq⟩:=hd'
    obtain⟨d0,bs',rfl,h3⟩:=hend w1 X1 σ' x env' ρ' a' w' d' hext hx hr' he
    exact h3 hq
   | ret=>
    obtain⟨d',hq,d0,bs',rfl,h3⟩:=h
    exact h3 hq
   | exit id=>obtain⟨_,_,e,_,_,_,he,_⟩:=h;simp[exOf] at he
   | goto l=>exact h.elim
   | panic c=>
    obtain⟨w1,X1,σ,env,ρ,v,d,bs',hext,rfl,hr,hrd,hst',hcf,_,_,hq⟩:=h
    refine hmk (by simp) hext hr fun w2 hr2 hcell hblk=>?_
    show R _ w2
    rw[hR]
    obtain⟨cf',hh,hob⟩:=hcf
    have hk:Keeps ρ.S w' w2:=fun b o _=>hcell b o
    have hst2:StOk w2 ρ.S ρ.foot bs':=hst'.to ⟨fun _ _ h=>h,rfl,fun _=>rfl,fun _=>rfl,fun _=>rfl⟩ (fun _ _ h=>h) (fun b hb=>hblk HID _ b hob hb) fun v d i x _ _ h=>h.keep hk (Sets.le_refl _)
    exact⟨.pan d,v,ρ.S,ρ.foot,bs',hq,⟨rfl,hrd.keep hk (Sets.le_refl _)⟩,left_of_rep hr2 hst2 ⟨cf',hh,hob⟩ hmay2⟩
   | outgrown=>exact h.elim

def EndsIn (o:Out)(st:D):Sig→Prop:=
 match o with
 | .ret d=>fun s=>s=.ret (.tup [d,st])
 | .pan d=>fun s=>∃sl kd,s=.pan d st sl kd

theorem EndsIn.as {o:Out}{st:D}{s:Sig}(h:EndsIn o st s):EndsAs (fun d st'=>o=.ret d∧st'=st) (fun d st'=>o=.pan d∧st'=st) s:=by
 cases o with
 | ret d=>cases h;exact⟨rfl,rfl⟩
 | pan d=>obtain⟨_,_,rfl⟩:=h;exact⟨rfl,rfl⟩

theorem fspecO {P:Program}{cf:StCfg}{f:FuncId}{fn:Func}{t:T}{ds:List D}{bs:List D}{o:Out}(hro:cf.ro=true)(hf:P.funcs[f]? = some fn)(hc:compileFn P cf fn=some t)(hfit:argsFit (paramOnes P fn) ds=true)(hden:den P t (ds++[.st bs]) (EndsIn o (.st bs))) :
  FSpecO P f (.st bs) ds o:=by
 intro w S foot bs0 vs hb hst hhold hfl hS hvl hrd
 cases hb
 refine(calls_of_den (may:=fun _=>False) hf hc hfit (den_mono (fun s hs=>hs.as) hden) hst hhold hfl hS hvl hrd (fun _ _=>.inl hro) fun _ hf=>hf.elim).mono ?_
 rintro e w' ⟨o',v,S',foot',bs',hq,hends,hl⟩
 have:o'=o∧bs'=bs:=by cases o' <;> (obtain⟨rfl,h2⟩:=hq;cases h2;exact⟨rfl,rfl⟩)
 obtain⟨rfl,rfl⟩:=this
 exact⟨v,S',hends,⟨⟨hl.os,hl.tape.tape,hl.output,hl.size,fun b hb=>hl.old b hb fun hf=>hf⟩,hl.tape.dr⟩,hl.le,by rw[hl.st.n,hst.n],fun b o hs=>(hl.new b o hs).imp_right fun g=>g.resolve_left fun hf=>hf,hl.lt⟩

theorem fspecWO {P:Program}{cf:StCfg}{f:FuncId}{fn:Func}{t:T}{ds:List D}{bs bs':List D}{o:Out}(hf:P.funcs[f]? = some fn)(hc:compileFn P cf fn=some t)(hfit:argsFit (paramOnes P fn) ds=true)(hden:den P t (ds++[.st bs]) (EndsIn o (.st bs'))) :
  FSpecWO P f (.st bs) ds o (.st bs'):=by
 intro w S foot bs0 vs hb hst hhold hfl hS hvl hrd
 cases hb
 refine(calls_of_den (may:=foot) hf hc hfit (den_mono (fun s hs=>hs.as) hden) hst hhold hfl hS hvl hrd (fun _ h=>.inr h) fun _ h=>h).mono ?_
 rintro e w' ⟨o',v,S',foot',bs'',hq,hends,hl⟩
 have:o'=o∧bs''=bs':=by cases o' <;> (obtain⟨rfl,h2⟩:=hq;cases h2;exact⟨rfl,rfl⟩)
 obtain⟨rfl,rfl⟩:=this
 exact⟨v,S',foot',_,hends,rfl,hl.st,fun b o hs=>World.cell?_of_block (a:=⟨b,o,none⟩) (hl.old b (hS b o hs) fun hf=>hst.nos b o hf hs),hl.le,hl.os,hl.tape,hl.output,hl.size,hl.old,hl.ft,hl.new,hl.lt⟩

end
end Go.Am

/-
 Which variables are data,which lie in the store: a guess out of the function's text (nothing hangs on it).
-/
namespace Go.Am
noncomputable section

def codeOps:Code→List Oper
 | .region _ ops _=>ops.toList
 | .seq a b | .cond _ a b=>codeOps a++codeOps b
 | .block _ b | .loop b | .scope b=>codeOps b
 | .rangeFunc _ _ a b=>codeOps a++codeOps b
 | _=>[]

def tmpsOf (xs:List Operand):List Nat:=xs.filterMap fun | .tmp t=>some t | _=>none

def captured (os:List Oper):List Nat:=os.flatMap fun o=>match o.op with
 | .makeFunc _ _ cs=>tmpsOf cs.toList
 | _=>[]

def storedTo (os:List Oper):List Nat:=os.flatMap fun o=>match o.op with
 | .store _ (.tmp t) _=>[t]
 | _=>[]

def boxed (os:List Oper):List Nat:=os.filterMap fun o=>match o.op with
 | .box _ _=>o.dst
 | _=>none

def alloced (os:List Oper):List Nat:=os.filterMap fun o=>match o.op with
 | .alloc _=>o.dst
 | _=>none

def handed (os:List Oper):List Nat:=os.flatMap fun o=>match o.op with
 | .call c=>tmpsOf c.args.toList
 | _=>[]

def rangeOps:Code→List Oper
 | .seq a b | .cond _ a b=>rangeOps a++rangeOps b
 | .block _ b | .loop b | .scope b=>rangeOps b
 | .rangeFunc _ _ a b=>codeOps a++codeOps b
 | _=>[]

def autoCfg (ro:Bool)(wr pan more:List Nat)(frzs:List (Nat×Nat))(fn:Func):StCfg:=
  let os:=match fn.body with | some c=>codeOps c | none=>[]
  let cap:=captured os++(match fn.body with | some c=>(rangeOps c).flatMap (fun o=>tmpsOf o.op.operands.toList) | none=>[])
  let st:=storedTo os
  { ro:=ro,wr:=wr,pan:=pan,frzs:=frzs,
    dats:=(boxed os).filter fun d=>cap.contains d&&!st.contains d&&!more.contains d,
    pubs:=((boxed os).filter fun d=>cap.contains d&&st.contains d)++((alloced os).filter fun d=>(cap.contains d||(handed os).contains d)&&!(frzs.map (·.2)).contains d)++more }

end
end Go.Am

/-
 A function that writes only a store of its own is a reader wherever it is called.
-/
namespace Go.Am
noncomputable section

def Out.noid:Out→Bool
 | .ret d | .pan d=>d.noid

theorem FSpecWO.localize {P:Program}{f:FuncId}{ds:List D}{o:Out}{h':D}(h:FSpecWO P f (.st []) ds o h')(hds:noids ds=true)(ho:o.noid=true)(bs:List D):FSpecO P f (.st bs) ds o:=by
 intro w S foot bs0 vs hb hst hhold hfl hS hvl hrd
 let S0:Sets:={ mem:=S.mem,loc:=fun _=>0,n:=0,cap:=fun _=>0 }
 have hst0:StOk w S0 (fun _=>False) []:=⟨rfl,fun i e sz cs hi=>by simp at hi,fun b off hf=>hf.elim,fun i kvs hi=>by simp at hi,fun i j x y hi=>by simp at hi,fun i z hi=>by simp at hi⟩
 refine(h w S0 (fun _=>False) [] vs rfl hst0 (fun l rec hl=>by cases hl) (fun _ hf=>hf.elim) hS hvl fun i v x hv hx=>(hrd i v x hv hx).free (fun _ _ h=>h) (noids_get hds hx)).mono ?_
 rintro e w' ⟨v,S',foot',bs',hends,_,_,hK,hle,hos,htape,hout,hsz,hold,hft,hnew,hlt⟩
 refine⟨v,{ S with mem:=S'.mem },?_,⟨⟨hos,htape.tape,hout,hsz,fun b hb=>hold b hb fun hf=>hf⟩,htape.dr⟩,⟨hle.mem,Nat.le_refl _,fun _ _=>rfl,fun _ _=>rfl,rfl,fun _ _=>rfl⟩,rfl,fun b o hs=>?_,hlt⟩
 ·cases o with
  | ret d=>exact⟨hends.1,hends.2.free (fun _ _ h=>h) ho⟩
  | pan d=>exact⟨hends.1,hends.2.free (fun _ _ h=>h) ho⟩
 ·rcases hnew b o hs with g | g | g
  ·exact .inl g
  ·exact g.elim
  ·exact .inr g

end
end Go.Am

/-
 Deferred functions that recover.
-/
namespace Go.Am
noncomputable section

def recD (m:Option D):D:=match m with | none=>.v .nilIface | some d=>d

def recSplit:Code→Option (Nat×Nat×Code)
 | .seq (.region _ ops false) rest=>match ops.toList with
  | [o0,o1]=>(match o0.op,o0.guard,o0.dst,o1.op,o1.guard,o1.dst with
   | .call { callee:=.builtin .recover,args:=_,argTypes:=_ },none,some d,.assign (.tmp t),none,some d'=>if t=d then some (d,d',rest) else none
   | _,_,_,_,_,_=>none)
  | _=>none
 | _=>none

def compileR (P:Program)(cf:StCfg)(fn:Func):Option T:=
 match fn.body with
 | none=>none
 | some c=>match recSplit c with
  | none=>none
  | some (d,d',rest)=>if noRange rest=false then none else if fn.ntmps<nParams fn∨HID<fn.ntmps∨fn.ntmps≤d∨fn.ntmps≤d' then none else
   compile P (retAll P fn.results.toList) rest 0 (nParams fn+2) (((startState cf fn.ntmps (nParams fn) (paramOnes P fn)).put (some d) (.e (.sym (nParams fn+1)) true)).put (some d') (.e (.sym (nParams fn+1)) true)) [] fun _ _ σ=>(retAll P fn.results.toList σ).map T.ret

section
variable {P:Program}

theorem start_rep {cf:StCfg} {fn:Func} {ds bs:List D} {w:World} {S:Sets} {foot may:Nat→Prop} {vs:Array Value} (hfit:argsFit (paramOnes P fn) ds=true) (hst:StOk w S foot bs) (hhold:HoldOk w S foot) (hmay2:∀b,may b→foot b) (hfl:∀b,foot b→b<w.heap.size) (hS:∀b o,S b o→b<w.heap.size) (hvl:vs.size=ds.length) (hrd:∀(i:Nat) (v:Value) (x:D),vs[i]? = some v→ds[i]? = some x→RdD w S v x)
  (hmay:∀b,foot b→cf.ro=true∨may b) :
  Rep w ⟨may,S,foot,[]⟩ w { tmps:=vs++Array.replicate (fn.ntmps-vs.size) undef,defers:=[] } (startState cf fn.ntmps (nParams fn) (paramOnes P fn)) (ds++[.st bs]) { blk:=fun _=>0,val:=fun _=>undef,S:=S,foot:=foot }:=by
 obtain⟨hbl,hbo⟩:=argsFit_spec hfit
 have hpl:(paramOnes P fn).length=nParams fn:=by simp[paramOnes,nParams]
 have hobj:∀o x,(startState cf fn.ntmps (nParams fn) (paramOnes P fn)).obj o=some x→o=HID∧x=.store cf (.sym (nParams fn)):=by
  intro o x hx
  simp only[SState.obj_def,startState,List.getD_eq_getElem?_getD,List.getElem?_replicate] at hx
  split at hx
  ·cases hx;exact⟨by assumption,rfl⟩
  ·split at hx <;> simp at hx
 refine⟨by simp[startState,startTmps_length,hvl,hbl],fun t=>?_,fun o x hx=>?_,fun o o' x x' b hx hx' _ _=>?_,fun o x b hx hb=>?_,hS,rfl,.refl _,rfl,Nat.le_refl _,fun _ _ _=>rfl,Sets.le_refl _,fun _ _ h=>.inl h,rfl,fun l rec hl=>⟨(hhold l rec hl).1,fun hm=>(hhold l rec hl).2 (hmay2 l hm),(hhold l rec hl).2⟩⟩
 ·simp only[SState.tmp_def,startState,List.getD_eq_getElem?_getD]
  rcases Nat.lt_or_ge t (paramOnes P fn).length with ht | ht
  ·rw[List.getElem?_append_left (by rw[startTmps_length];exact ht)]
   cases hs:(startTmps 0 (paramOnes P fn))[t]? with
   | none=>exact .junk
   | some c=>
    obtain⟨b,hb,rfl⟩:=startTmps_get hs
    have htd:t<ds.length:=by omega
    have htv:t<vs.size:=by omega
    simp only[Option.getD_some,Nat.zero_add]
    have hval:(vs++Array.replicate (fn.ntmps-vs.size) undef).getD t undef=vs[t]:=by
     rw[Array.getD_eq_getD_getElem?,Array.getElem?_append_left htv,Array.getElem?_eq_getElem htv]
     rfl
    rw[hval]
    exact .e (d:=ds[t]) (by simp[E.eval,List.getElem?_append_left htd,htd]) (hrd t _ _ (Array.getElem?_eq_getElem htv) (List.getElem?_eq_getElem htd)) fun hbt=>hbo t b _ hb (List.getElem?_eq_getElem htd) hbt
  ·rw[List.getElem?_append_right (by rw[startTmps_length];exact ht),List.getElem?_replicate]
   split <;> exact .junk
 ·obtain⟨rfl,rfl⟩:=hobj o x hx
  refine⟨bs,?_,hst,rfl⟩
  simp only[E.eval]
  rw[List.getElem?_append_right (by omega)]
  simp[show nParams fn-ds.length=0 from by omega]
 ·obtain⟨rfl,_⟩:=hobj o x hx
  obtain⟨rfl,_⟩:=hobj o' x' hx'
  rfl
 ·obtain⟨rfl,rfl⟩:=hobj o x hx
  exact⟨(hmay b hb).imp (fun e=>⟨e,hb⟩) .inr,hfl b hb⟩

theorem ret_end {fn:Func}{w:World}{S:Sets}{foot may:Nat→Prop}{σ:SState}{x:E}{env:List D}{ρ:Rho}{a':Act}{w':World}{d':D}(hmay2:∀b,may b→foot b)(hx:retAll P fn.results.toList σ=some x)(hr:Rep w ⟨may,S,foot,[]⟩ w' a' σ env ρ)(he:x.eval env=some d') :
  a'.defers=[]∧∃(v:Value) (d0:D) (bs':List D) (S':Sets) (foot':Nat→Prop),(results fn a'.tmps).run P w'=.ok v w'∧d'=.tup [d0,.st bs']∧RdD w' S' v d0∧Left w S foot may w' S' foot' bs':=by
 unfold retAll at hx
 split at hx
 ·rename_i y cf' hh hy hhs
  cases hx
  have hob:σ.obj HID=some (.store cf' hh):=by rw[SState.obj_def,if_pos rfl];exact hhs
  obtain⟨bs',hb1,hst',_⟩:=hr.objs _ _ hob
  simp only[E.eval,hb1,Option.bind_some,D.tcons,Option.bind_eq_some_iff] at he
  obtain⟨d2,h2,he⟩:=he
  obtain⟨v,h1,h3⟩:=retOf_rd hr hy h2
  cases he
  exact⟨hr.nod,v,d2,bs',Sfin ρ σ,ρ.foot,h1,rfl,h3,left_fin hr hst' hob hmay2⟩
 ·cases hx

theorem fspecD {cf:StCfg}{f:FuncId}{fn:Func}{t:T}{cs:List D}{bs bs':List D}{m:Option D}{d0:D}(hf:P.funcs[f]? = some fn)(hc:compileR P cf fn=some t)(hfit:argsFit (paramOnes P fn) cs=true)(hm:(recD m).one=true)(hden:den P t (cs++[.st bs,recD m]) fun s=>s=.ret (.tup [d0,.st bs'])) :
  FSpecD P f (.st bs) cs m (.st bs'):=by
 intro w S foot bs0 vs u hb hst hhold hfl hS hvl hrd hu
 cases hb
 unfold compileR at hc
 split at hc
 ·cases hc
 rename_i c hbody
 split at hc
 ·cases hc
 rename_i d d' rest hsplit
 split at hc
 ·cases hc
 rename_i hnr
 have hnr:noRange rest=true:=by simpa using hnr
 split at hc
 ·cases hc
 rename_i hnt
 rw[not_or,not_or,not_or] at hnt
 obtain⟨hn1,hn2,hn3,hn4⟩:=hnt
 obtain⟨hbl,hbo⟩:=argsFit_spec hfit
 have hpl:(paramOnes P fn).length=nParams fn:=by simp[paramOnes,nParams]
 obtain⟨id,ops,o0,o1,as,ts,rfl,hops,h00,h01,h02,h10,h11,h12⟩:∃id ops o0 o1 as ts,c=.seq (.region id ops false) rest∧ops.toList=[o0,o1]∧o0.op=.call { callee:=.builtin .recover,args:=as,argTypes:=ts }∧o0.guard=none∧o0.dst=some d∧o1.op=.assign (.tmp d)∧o1.guard=none∧o1.dst=some d':=by
  unfold recSplit at hsplit
  split at hsplit
  ·rename_i id ops rest'
   split at hsplit
   ·rename_i o0 o1 hops
    split at hsplit
    ·rename_i as ts d1 t1 d2 g1 g2 g3 g4 g5 g6
     split at hsplit
     ·rename_i htd
      cases hsplit
      exact⟨id,ops,o0,o1,as,ts,rfl,hops,g1,g2,g3,by rw[g4,htd],g5,g6⟩
     ·cases hsplit
    ·cases hsplit
   ·cases hsplit
  ·cases hsplit
 have hoa:ops=#[o0,o1]:=by rw[←Array.toArray_toList (xs:=ops),hops]
 subst hoa
 have hstart:=start_rep (may:=foot) (cf:=cf) hfit hst hhold (fun _ h=>h) hfl hS hvl hrd fun _ h=>.inr h
 have henv:cs++[.st bs,recD m]=(cs++[.st bs])++[recD m]:=by simp
 have hrec:∃v u',RdD w S v (recD m)∧settle u'=.returning∧∀(c₀:Frame) (fs:List Frame),c₀.mode=u→(match recoverD (c₀ :: fs) with | some (v',cs')=>v'=v∧cs'={ c₀ with mode:=u' } :: fs | none=>v=.nilIface∧u'=u):=by
  cases m with
  | none=>
   refine⟨.nilIface,u,.v rfl,?_,fun c₀ fs hm=>?_⟩
   ·have hu:u=.returning:=hu
    rw[hu];rfl
   ·have hu:u=.returning:=hu
    subst hu
    simp[recoverD,hm]
  | some d=>
   obtain⟨v,hv,hu⟩:=hu
   refine⟨v,.panicking [{ v,recovered:=true }],hv,rfl,fun c₀ fs hm=>?_⟩
   subst hu
   simp[recoverD,hm]
 obtain⟨v,u',hv,hsettle,hrec⟩:=hrec
 refine callsD_of_wpS hf hbody fun c₀ fs hmode=>?_
 have hlen:(startState cf fn.ntmps (nParams fn) (paramOnes P fn)).tmps.length=fn.ntmps:=by simp[startState,startTmps_length,hpl];omega
 have hrep0:=hstart.env (prefix_append _ [recD m])
 rw[←henv] at hrep0
 have hsv:∀{ρ:Rho},RdD w ρ.S v (recD m)→SRd w ρ (cs++[.st bs,recD m]) v (.e (.sym (nParams fn+1)) true):=by
  intro ρ hvv
  refine .e (d:=recD m) ?_ hvv fun _=>hm
  simp only[E.eval]
  rw[List.getElem?_append_right (by omega)]
  simp[show nParams fn+1-cs.length=1 from by omega]
 have hrep1:=(hrep0.put (dst:=some d) (v:=v) (fun d2 e=>by cases e;rw[hlen];exact Nat.lt_of_not_le hn3) (hsv hv)).put (dst:=some d') (v:=v) (fun d2 e=>by cases e;simp only[SState.put_def,List.length_set];rw[hlen];exact Nat.lt_of_not_le hn4) (hsv hv)
 have hlens:Lens fn.ntmps (((startState cf fn.ntmps (nParams fn) (paramOnes P fn)).put (some d) (.e (.sym (nParams fn+1)) true)).put (some d') (.e (.sym (nParams fn+1)) true)):=⟨by simp[SState.put_def,hlen],by simp[SState.put_def,startState]⟩
 have hcode:=compile_sound (P:=P) (N:=fn.ntmps) rest (B:=fun w1 X1=>w1=w∧X1=⟨foot,S,foot,[]⟩) (rd:=none) (nd:=0) (RetOk:=fun w' a' d'=>a'.defers=[]∧∃(v:Value) (d0:D) (bs':List D) (S':Sets) (foot':Nat→Prop),(results fn a'.tmps).run P w'=.ok v w'∧d'=.tup [d0,.st bs']∧RdD w' S' v d0∧Left w S foot foot w' S' foot' bs')
  (rv:=retAll P fn.results.toList) (fun w1 X1 hB σ x hx env ρ a' w' d' hr he=>by obtain⟨rfl,rfl⟩:=hB;exact ret_end (fun _ h=>h) hx hr he) (fun l e=>by cases e) (.inl hnr) 0 _ [] _ t (cs++[.st bs,recD m]) (by rw[show(cs++[D.st bs,recD m]).length=nParams fn+2 from by simp;omega];exact hc) _ _ w w _ _ ⟨rfl,rfl⟩ hden hrep1 hlens (fun id e he=>by simp[exOf] at he)
 have hcode:=wpIn_wide.1 hcode
 have hfin:∀(d1:D),(.ret d1:Sig)=.ret (.tup [d0,.st bs'])→∀(w':World) (a':Act),(a'.defers=[]∧∃(v:Value) (d0:D) (bs':List D) (S':Sets) (foot':Nat→Prop),(results fn a'.tmps).run P w'=.ok v w'∧d1=.tup [d0,.st bs']∧RdD w' S' v d0∧Left w S foot foot w' S' foot' bs') →
   a'.defers=[]∧∃u'',{ c₀ with mode:=u' } :: fs={ c₀ with mode:=u'' } :: fs∧∃v,(results fn a'.tmps).run P w'=.ok v w'∧∃(v1:Value) (S':Sets) (foot':Nat→Prop) (bs1:List D),Ending.returned v=.returned v1∧settle u''=.returning∧D.st bs'=.st bs1∧Left w S foot foot w' S' foot' bs1:=by
  rintro d1 h1 w' a' ⟨g1,v2,d2,bs2,S',foot',g2,rfl,g3,g4⟩
  cases h1
  exact⟨g1,u',rfl,v2,g2,v2,S',foot',bs',rfl,hsettle,rfl,g4⟩
 refine wpS_seq (wpS_region ?_)
 rw[show List.range (#[o0,o1]:Array Oper).size=[0,1] from rfl]
 have hw0:∀tm,Region.wanted o0 tm=true:=fun tm=>by simp[Region.wanted,h01]
 have hw1:∀tm,Region.wanted o1 tm=true:=fun tm=>by simp[Region.wanted,h11]
 have hr0:∀a:Act,(execOp a.eval o0).run P w=.ok .recover w:=by
  intro a
  unfold execOp
  rw[h00]
  rfl
 have hr1:∀a:Act,(execOp a.eval o1).run P w=.ok (.value (a.eval (.tmp d))) w:=by
  intro a
  unfold execOp
  rw[h10]
  rfl
 have hbehind:∀cs',cs'=({ c₀ with mode:=u' }:Frame) :: fs→wpOpsS P #[o0,o1] (Exit.thenS (rest.wpS P (bodyPostS P fn c₀ fs fun e u' w'=>∃(v:Value) (S':Sets) (foot':Nat→Prop) (bs1:List D),e=.returned v∧settle u'=.returning∧D.st bs'=.st bs1∧Left w S foot foot w' S' foot' bs1)) (bodyPostS P fn c₀ fs fun e u' w'=>∃(v:Value) (S':Sets) (foot':Nat→Prop) (bs1:List D),e=.returned v∧settle u'=.returning∧D.st bs'=.st bs1∧Left w S foot foot w' S' foot' bs1)) [1] (({ tmps:=vs++Array.replicate (fn.ntmps-vs.size) undef,defers:=[] }:Act).put o0.dst v) cs' w:=by
  rintro cs' rfl
  simp only[wpOpsS,show(#[o0,o1]:Array Oper)[1]? = some o1 from rfl,hw1,if_true,hr1,Oper.upon_value]
  have hev:(({ tmps:=vs++Array.replicate (fn.ntmps-vs.size) undef,defers:=[] }:Act).put o0.dst v).eval (.tmp d)=v:=by
   rw[h02]
   show(({ tmps:=vs++Array.replicate (fn.ntmps-vs.size) undef,defers:=[] }:Act).put (some d) v).tmps.getD d undef=v
   rw[Act.getD_put _ _ _ (by simp;omega),if_pos rfl]
  rw[hev,h02,h12]
  refine wpS_of_wp (wp_mono hcode fun e a' w' h=>?_)
  cases e with
  | normal=>
   obtain⟨w1,X1,env',σ',ρ',t',⟨hw1,hX1⟩,_,hk,hd',hr',_⟩:=h
   rw[hw1,hX1] at hr'
   obtain⟨x,hx,rfl⟩:=Option.map_eq_some_iff.1 hk
   obtain⟨d1,he,hq⟩:=hd'
   exact hfin d1 hq w' a' (ret_end (fun _ h=>h) hx hr' he)
  | ret=>
   obtain⟨d1,hq,h1⟩:=h
   exact hfin d1 hq w' a' h1
  | exit id=>obtain⟨_,_,e,_,_,_,he,_⟩:=h;simp[exOf] at he
  | goto l=>exact h.elim
  | panic c=>
   obtain⟨_,_,σ,env,ρ,v,d,bs',_,rfl,hr,hrd,hst',hcf,_,_,hq⟩:=h
   cases hq
  | outgrown=>exact h.elim
 rw[wpOpsS]
 simp only[show(#[o0,o1]:Array Oper)[0]? = some o0 from rfl,hw0,if_true,hr0]
 have hrec:=hrec c₀ fs hmode
 split
 ·rename_i v' cs' hreq
  rw[hreq] at hrec
  obtain⟨rfl,rfl⟩:=hrec
  exact hbehind _ rfl
 ·rename_i hreq
  rw[hreq] at hrec
  obtain⟨rfl,hu'⟩:=hrec
  exact hbehind (c₀ :: fs) (by rw[hu',←hmode])

end
end
end Go.Am

/-
 Functions that defer another one,which may recover.
-/
namespace Go.Am
noncomputable section

/-! ## a frame leaves with marks of loops ahead of what it has deferred -/

def LeavesX (P:Program)(fn:Func)(tmps:Array Value)(R:Ending→World→Prop):List Deferred→FrameMode→World→Prop
 | [],u,w=>Leaves P fn tmps R [] u w
 | d :: ds,u,w=>Leaves P fn tmps R (d :: ds) u w∨(u≠.run∧∃r w',d.target=.collected r∧(Instr.takeDeferred r).run P w=.ok [] w'∧LeavesX P fn tmps R ds u w')

theorem LeavesX.of {P:Program}{fn:Func}{tmps:Array Value}{R:Ending→World→Prop}{ds:List Deferred}{u:FrameMode}{w:World}(h:Leaves P fn tmps R ds u w):LeavesX P fn tmps R ds u w:=by
 cases ds with
 | nil=>exact h
 | cons d ds=>exact .inl h

theorem leavesX_steps {P:Program}{fn:Func}{tmps:Array Value}{R:Ending→World→Prop}:∀(ds:List Deferred) (u:FrameMode) (w:World) (fr:Frame) (cs:List Frame),fr.mode=u→fr.defers=ds→fr.tmps=tmps→P.funcs[fr.fn]? = some fn→fr.kind=.normal →
  LeavesX P fn tmps R ds u w→∃e w' fr',R e w'∧Comes P (lone fr cs w) (lone fr' cs w') e∧fr'.fn=fr.fn∧fr'.leaving P w' e
 | [],u,w,fr,cs,h1,h2,h3,h4,h5,h=>leaves_steps [] u w fr cs h1 h2 h3 h4 h5 h
 | d :: ds,u,w,fr,cs,h1,h2,h3,h4,h5,.inl h=>leaves_steps (d :: ds) u w fr cs h1 h2 h3 h4 h5 h
 | d :: ds,u,w,fr,cs,h1,h2,h3,h4,h5,.inr ⟨hu,r,w',htar,htake,hrest⟩=>by
  have hs:=step_collected (cs:=cs) (h1 ▸ hu) h2 htar htake
  obtain⟨e,w2,fr2,g1,g2,g3,g4⟩:=leavesX_steps ds u w' { fr with defers:=[]++ds } cs h1 rfl h3 h4 h5 hrest
  exact⟨e,w2,fr2,g1,Comes.of_steps (.one hs) g2,g3,g4⟩

def bodyPostX (P:Program)(fn:Func)(R:Ending→World→Prop):Exit→Act→World→Prop
 | .normal,a,w | .ret,a,w=>LeavesX P fn a.tmps R a.defers .returning w
 | .panic chain,a,w=>LeavesX P fn a.tmps R a.defers (.panicking chain) w
 | .outgrown,_,w=>R .outgrown w
 | _,_,_=>False

theorem calls_of_wpX {P:Program} {f:FuncId} {fn:Func} {c:Code} {args:Array Value} {w:World} {R:Ending→World→Prop} (hf:P.funcs[f]? = some fn) (hb:fn.body=some c)
  (h:c.wp P (bodyPostX P fn R) { tmps:=args++Array.replicate (fn.ntmps-args.size) undef,defers:=[] } w):Calls P f args w R:=by
 intro cs
 let b:Frame:={ (default:Frame) with fn:=f,kind:=.normal }
 have henter:Frame.enter P f args .normal=b.at { tmps:=args++Array.replicate (fn.ntmps-args.size) undef,defers:=[] } [.code c]:=by
  simp[Frame.enter,Frame.at,hf,hb,b]
 obtain⟨e,a',w',hq,harr⟩:=h b [] cs
 rw[←henter] at harr
 have out:∀todo (m:FrameMode),LeavesX P fn a'.tmps R a'.defers m w'→∃e w2 fr',R e w2∧Comes P (lone { b.at a' todo with mode:=m } cs w') (lone fr' cs w2) e∧fr'.fn=f∧fr'.leaving P w2 e:=fun todo m hl=>
  leavesX_steps a'.defers m w' { b.at a' todo with mode:=m } cs rfl rfl rfl hf rfl hl
 cases e with
 | normal=>
  obtain⟨e',w2,fr',hR,hs,hfn,hl⟩:=out [] .returning hq
  exact⟨e',w2,fr',hR,Comes.of_steps (Steps.trans harr (.one step_end)) hs,hfn,hl⟩
 | ret=>
  obtain⟨todo,hs0⟩:=harr
  obtain⟨e',w2,fr',hR,hs,hfn,hl⟩:=out todo .returning hq
  exact⟨e',w2,fr',hR,Comes.of_steps hs0 hs,hfn,hl⟩
 | panic chain=>
  obtain⟨todo,hs0⟩:=harr
  obtain⟨e',w2,fr',hR,hs,hfn,hl⟩:=out todo (.panicking chain) hq
  exact⟨e',w2,fr',hR,Comes.of_steps hs0 hs,hfn,hl⟩
 | exit id=>exact hq.elim
 | goto l=>exact hq.elim
 | outgrown=>exact⟨.outgrown,w',b,hq,harr.resolve_left (by simp[b]),rfl,trivial⟩

theorem leavesX_marks {P:Program}{fn:Func}{tmps:Array Value}{R:Ending→World→Prop}{u:FrameMode}(hu:u≠.run){ds:List Deferred}:∀(cs:List Nat) (w:World),cs.Nodup→(∀D,D∈cs→w.heap[D]? = some (.deferred (some []))) →
  (∀w',Marked w w' cs→Leaves P fn tmps R ds u w')→LeavesX P fn tmps R ((cs.map fun D=>({ target:=.collected D,args:=#[] }:Deferred))++ds) u w
 | [],w,_,_,h=>.of (h w ⟨fun _ _=>rfl,rfl,rfl,.refl _,rfl,fun _ _=>rfl⟩)
 | D :: cs,w,hn,hD,h=>by
  rw[List.nodup_cons] at hn
  have hd:=hD D (by simp)
  refine .inr ⟨hu,D,_,rfl,run_takeDeferred hd,leavesX_marks hu cs _ hn.2 (fun D' hD'=>?_) fun w' hm=>h w' ?_⟩
  ·rw[World.putObj_heap_other (fun e=>by subst e;exact hn.1 hD')]
   exact hD D' (by simp[hD'])
  ·refine⟨fun b hb=>?_,hm.size.trans (by simp),hm.os,⟨hm.tape.tape,hm.tape.dr⟩,hm.output,fun b o=>(hm.cell b o).trans (cell_unmark hd _ b o)⟩
   simp only[List.mem_cons,not_or] at hb
   rw[hm.other b hb.2,World.putObj_heap_other hb.1]

def deferOps:Code→Option (FuncId×List Operand×Nat)
 | .region _ ops false=>match ops.toList with
  | [o0,o1]=>(match o0.op,o0.guard,o0.dst,o1.op,o1.guard,o1.dst with
   | .makeFunc (.func f) first caps,none,some t,.defer { callee:=.value (.tmp t'),args:=as,argTypes:=_ },none,none=>if t=t'∧first.size=0∧as.size=0 then some (f,caps.toList,t) else none
   | _,_,_,_,_,_=>none)
  | _=>none
 | _=>none

def slotAt:List Nat→Nat→Nat→Option Nat
 | [],_,_=>none
 | x :: r,t,i=>if x=t then some i else slotAt r t (i+1)

theorem slotAt_spec:∀{l:List Nat} {t i j:Nat},slotAt l t i=some j→i≤j∧l[j-i]? = some t
 | [],_,_,_,h=>by simp[slotAt] at h
 | x :: r,t,i,j,h=>by
  simp only[slotAt] at h
  split at h
  ·rename_i e;cases h;exact⟨Nat.le_refl _,by simp[e]⟩
  ·obtain⟨h1,h2⟩:=slotAt_spec h
   refine⟨by omega,?_⟩
   rw[show j-i=(j-(i+1))+1 from by omega]
   simpa using h2

def resVarE (P:Program)(keep:List Nat):ResultVar→Option E
 | .cell t ty=>match slotAt keep t 0,aggT P ty,szT P ty with
  | some i,some agg,some n=>some (.ld agg n (.sym keep.length) (.sym i))
  | _,_,_=>none
 | _=>none

def resVarsE (P:Program)(keep:List Nat):List ResultVar→Option E
 | []=>some .tnil
 | r :: rs=>match resVarE P keep r,resVarsE P keep rs with
  | some x,some y=>some (.tcons x y)
  | _,_=>none

def resOfE (P:Program)(keep:List Nat)(rs:List ResultVar):Option E:=
 match rs with
 | [r]=>resVarE P keep r
 | rs=>resVarsE P keep rs

def tupE:List E→E
 | []=>.tnil
 | x :: r=>.tcons x (tupE r)

theorem tupE_eval {env:List D}:∀{l:List E} {d:D},(tupE l).eval env=some d→∃kd,evalAll env l=some kd∧d=.tup kd
 | [],d,h=>by simp[tupE,E.eval] at h;exact⟨[],rfl,h.symm⟩
 | x :: r,d,h=>by
  simp only[tupE,E.eval,Option.bind_eq_some_iff] at h
  obtain⟨d1,h1,d2,h2,h3⟩:=h
  obtain⟨kd,h4,rfl⟩:=tupE_eval h2
  simp only[D.tcons] at h3
  cases h3
  exact⟨d1 :: kd,by simp[evalAll,h1,h4],rfl⟩

def rvB (keep:List Nat)(σ:SState):Option E:=
 match keepE σ,σ.hs with
 | some ks,some (.store _ h)=>if keepOf σ=keep then some (.tcons (tupE ks) (.tcons h .tnil)) else none
 | _,_=>none

def compileD (P:Program)(fn:Func)(keep:List Nat):Code→Nat→SState→Option T
 | .seq x y,u,σ=>match deferOps x with
  | some (f,caps,t)=>(match toEAll (caps.map σ.opd),σ.hs,resOfE P keep fn.results.toList with
   | some cs,some (.store cf h),some res=>if callable P f=true∧t<σ.tmps.length then
     (compile P (rvB keep) y 0 u (({ σ with hs:=some (.store { cf with keep:=keep } h) }:SState).put (some t) .junk) [] fun _ _ σ=>(rvB keep σ).map T.ret).map (.dfr f keep cs res) else none
   | _,_,_=>none)
  | none=>if noRange x=false then none else compile P (retAll P fn.results.toList) x 0 u σ [] fun _ u σ=>compileD P fn keep y u σ
 | _,_,_=>none

def compileDefer (P:Program)(cf:StCfg)(fn:Func)(keep:List Nat):Option T:=
 match fn.body with
 | none=>none
 | some c=>if fn.ntmps<nParams fn∨HID<fn.ntmps then none else compileD P fn keep c (nParams fn+1) (startState cf fn.ntmps (nParams fn) (paramOnes P fn))

section
variable {P:Program}

theorem callFunc_run {f:FuncId}{vals:Array Value}{w:World}(hcl:callable P f=true):(invoke (.fn (.func f) vals) #[]).run P w=.ok (.enter f vals) w:=by
 unfold callable at hcl
 split at hcl
 ·rename_i fn hf
  simp only[Bool.and_eq_true,Bool.not_eq_true',Option.isSome_iff_ne_none] at hcl
  have hbn:fn.body.isNone=false:=by
   cases hb:fn.body with
   | none=>exact absurd hb hcl.2
   | some _=>rfl
  simp only[invoke,Sem.run_bind,Sem.run_pure,Result.andThen_ok,callFunc,run_program,hf,hcl.1,hbn,Bool.false_eq_true,if_false]
  simp
 ·cases hcl

theorem resVarE_rd {w:World}{S:Sets}{foot:Nat→Prop}{bs:List D}{a:Act}{keep:List Nat}{kd:List D}(hst:StOk w S foot bs)(hk:KeepRd w S a keep kd){r:ResultVar}{x:E}{d:D}(hx:resVarE P keep r=some x)(he:x.eval (kd++[.st bs])=some d):∃v,(resultOf a.tmps r).run P w=.ok v w∧RdD w S v d:=by
 unfold resVarE at hx
 split at hx
 ·rename_i t ty
  split at hx
  ·rename_i i agg n hi hg hn
   cases hx
   obtain⟨_,hi⟩:=slotAt_spec hi
   rw[Nat.sub_zero] at hi
   have hil:i<kd.length:=by rw[hk.1];exact(List.getElem?_eq_some_iff.1 hi).1
   have h1:(kd++[D.st bs])[keep.length]? = some (.st bs):=by
    rw[List.getElem?_append_right (by rw[hk.1];exact Nat.le_refl _),hk.1]
    simp
   have h2:(kd++[D.st bs])[i]? = some kd[i]:=by
    rw[List.getElem?_append_left hil]
    exact List.getElem?_eq_getElem hil
   simp only[E.eval,h1,h2,Option.bind_some] at he
   have hrp:=hk.2 i t _ hi (List.getElem?_eq_getElem hil)
   obtain⟨b,off,u,hv,hrun,hru,_⟩:=ld_run hg hn hrp (.inr hst) he
   refine⟨u,?_,hru⟩
   simp only[resultOf,hv,asAddr,Sem.run_bind,Sem.run_pure,Result.andThen_ok,hrun]
  ·cases hx
 ·cases hx

theorem resVarsE_rd {w:World}{S:Sets}{foot:Nat→Prop}{bs:List D}{a:Act}{keep:List Nat}{kd:List D}(hst:StOk w S foot bs)(hk:KeepRd w S a keep kd):∀{rs:List ResultVar} {x:E} {d:D},resVarsE P keep rs=some x→x.eval (kd++[.st bs])=some d→∃vs ds,(rs.mapM (resultOf a.tmps)).run P w=.ok vs w∧d=.tup ds∧vs.length=ds.length∧vs.length=rs.length∧∀(i:Nat) (v:Value) (d:D),vs[i]? = some v→ds[i]? = some d→RdD w S v d
 | [],x,d,hx,he=>by
  simp[resVarsE] at hx
  subst hx
  simp[E.eval] at he
  exact⟨[],[],rfl,he.symm,rfl,rfl,by simp⟩
 | r :: rs,x,d,hx,he=>by
  simp only[resVarsE] at hx
  split at hx
  ·rename_i y z hy hz
   cases hx
   simp only[E.eval,Option.bind_eq_some_iff] at he
   obtain⟨d1,he1,d2,he2,he⟩:=he
   obtain⟨v,h1,h3⟩:=resVarE_rd hst hk hy he1
   obtain⟨vs,ds,h4,rfl,h6,h6',h7⟩:=resVarsE_rd hst hk hz he2
   simp only[D.tcons] at he
   cases he
   refine⟨v :: vs,d1 :: ds,by simp only[List.mapM_cons,Sem.run_bind,h1,Result.andThen_ok,h4,Sem.run_pure],rfl,by simp[h6],by simp[h6'],fun i v' d' hv hd=>?_⟩
   cases i with
   | zero=>simp at hv hd;subst hv hd;exact h3
   | succ i=>exact h7 i v' d' (by simpa using hv) (by simpa using hd)
  ·cases hx

theorem resOfE_rd {w:World}{S:Sets}{foot:Nat→Prop}{bs:List D}{a:Act}{keep:List Nat}{kd:List D}(hst:StOk w S foot bs)(hk:KeepRd w S a keep kd){fn:Func}{x:E}{d:D}(hx:resOfE P keep fn.results.toList=some x)(he:x.eval (kd++[.st bs])=some d):∃v,(results fn a.tmps).run P w=.ok v w∧RdD w S v d:=by
 unfold resOfE at hx
 split at hx
 ·rename_i r hr
  obtain⟨v,h1,h3⟩:=resVarE_rd hst hk hx he
  refine⟨v,?_,h3⟩
  have:=results_run (P:=P) (w:=w) fn a.tmps (vs:=[v]) (by rw[hr];simp only[List.mapM_cons,List.mapM_nil,Sem.run_bind,h1,Result.andThen_ok,Sem.run_pure])
  simpa using this
 ·rename_i hne
  obtain⟨vs,ds,h1,rfl,h3,h3',h4⟩:=resVarsE_rd hst hk hx he
  have:=results_run (P:=P) (w:=w) fn a.tmps h1
  rw[dif_neg ?_] at this
  ·exact⟨_,this,.tup (by simpa using h3) fun i v d hv hd=>h4 i v d (by simpa using hv) hd⟩
  ·intro hl
   rw[hl] at h3'
   match hrs:fn.results.toList,h3' with
   | [r],_=>exact hne r hrs

def EndR (w:World)(S:Sets)(foot:Nat→Prop)(Qd Qp:D→D→Prop)(e:Ending)(w':World):Prop:=
 ∃(o:Out) (v:Value) (S':Sets) (foot':Nat→Prop) (bs':List D),(match o with | .ret d=>Qd d (.st bs') | .pan d=>Qp d (.st bs'))∧o.ends w' S' v e∧Left w S foot foot w' S' foot' bs'

theorem defer_end {w:World} {S S1:Sets} {foot:Nat→Prop} {Qd Qp:D→D→Prop} {fn:Func} {a':Act} {w':World} {σ':SState} {env':List D} {ρ':Rho} {f:FuncId} {vals:Array Value} {cds kd bs1:List D} {m:Option D} {st' d':D} {res:E} {keep:List Nat} {u:FrameMode}
  {dfs:List Deferred} (hr:Rep w ⟨foot,S1,foot,dfs⟩ w' a' σ' env' ρ') (hst:StOk w' ρ'.S ρ'.foot bs1) (hob:∃cf x,σ'.obj HID=some (.store cf x)) (hS1:S≤S1) (hS1n:∀b o,S1 b o→S b o∨w.heap.size≤b∨foot b)
  (hcl:callable P f=true) (hvl:vals.size=cds.length) (hrd:∀(i:Nat) (v:Value) (x:D),vals[i]? = some v→cds[i]? = some x→RdD w' ρ'.S v x) (hk:KeepRd w' ρ'.S a' keep kd) (hu:match m with | none=>u=.returning | some d=>∃v,RdD w' ρ'.S v d∧u=.panicking [{ v,recovered:=false }]) (hspec:FSpecD P f (.st bs1) cds m st') (hres:resOfE P keep fn.results.toList=some res) (hev:res.eval (kd++[st'])=some d') (hq:Qd d' st')  :
  Leaves P fn a'.tmps (EndR w S foot Qd Qp) [{ target:=.fn (.func f) vals,args:=#[] }] u w':=by
 obtain⟨cf,x,hob⟩:=hob
 have hfl:∀b,ρ'.foot b→b<w'.heap.size:=foot_lt hr hob
 have hur:u≠.run:=by
  cases m with
  | none=>have hu:u=.returning:=hu;rw[hu];simp
  | some d=>obtain⟨v,_,hu⟩:=hu;rw[hu];simp
 refine leaves_cons hur (callFunc_run hcl) ((hspec w' ρ'.S ρ'.foot bs1 vals u rfl hst (hr.holdOk hob) hfl hr.cells hvl hrd hu).mono ?_)
 rintro e u' w'' ⟨v,S'',foot'',bs'',rfl,hset,rfl,hl⟩
 simp only
 rw[hset]
 have hK:Keeps ρ'.S w' w'':=fun b o hs=>World.cell?_of_block (a:=⟨b,o,none⟩) (hl.old b (hr.cells b o hs) fun hf=>hst.nos b o hf hs)
 have hk':KeepRd w'' S'' a' keep kd:=⟨hk.1,fun i s d h1 h2=>(hk.2 i s d h1 h2).keep hK hl.le⟩
 obtain⟨rv,hrun,hrv⟩:=resOfE_rd hl.st hk' hres hev
 refine⟨rv,hrun,.ret d',rv,S'',foot'',bs'',hq,⟨rfl,hrv⟩,hl.st,Sets.le_trans hS1 (Sets.le_trans hr.sub hl.le),hl.os.trans hr.os,hl.tape.trans hr.tape,hl.output.trans hr.output,Nat.le_trans hr.grown hl.size,fun b hb hnf=>?_,fun b hb=>?_,fun b o hs=>?_,hl.lt⟩
 ·have hown:¬ρ'.foot b:=fun hf=>by
   rcases(hr.own HID _ b hob hf).1 with g | g | g
   ·exact hnf g.2
   ·exact absurd hb (Nat.not_lt.2 g)
   ·exact hnf g
  exact(hl.old b (Nat.lt_of_lt_of_le hb hr.grown) hown).trans (hr.old b hb hnf)
 ·obtain⟨g1,g2⟩:=hl.ft b hb
  refine⟨?_,g2⟩
  rcases g1 with g1 | g1
  ·rcases(hr.own HID _ b hob g1).1 with g | g | g
   ·exact .inl g.2
   ·exact .inr g
   ·exact .inl g
  ·exact .inr (Nat.le_trans hr.grown g1)
 ·have hgr:=hr.grown
  rcases hl.new b o hs with g | g | g
  ·rcases hr.new b o g with g | g | g
   ·rcases hS1n b o g with g | g | g
    ·exact .inl g
    ·exact .inr (.inr g)
    ·exact .inr (.inl g)
   ·exact .inr (.inr g)
   ·exact .inr (.inl g)
  ·rcases(hr.own HID _ b hob g).1 with g | g | g
   ·exact .inr (.inl g.2)
   ·exact .inr (.inr g)
   ·exact .inr (.inl g)
  ·exact .inr (.inr (Nat.le_trans hgr g))

theorem Rep.setCf {w0 w:World}{X:Ent}{a:Act}{σ:SState}{env:List D}{ρ:Rho}(h:Rep w0 X w a σ env ρ){cf cf':StCfg}{x:E}(hs:σ.hs=some (.store cf x))(hro:cf'.ro=cf.ro):Rep w0 X w a { σ with hs:=some (.store cf' x) } env ρ:=by
 have hob:σ.obj HID=some (.store cf x):=by rw[SState.obj_def,if_pos rfl];exact hs
 have hobj:∀o y,SState.obj { σ with hs:=some (.store cf' x) } o=some y→∃y',σ.obj o=some y'∧(∀b,objBlk ρ o y b↔objBlk ρ o y' b)∧y.ro=y'.ro∧(ObjOk w ρ env o y'→ObjOk w ρ env o y):=by
  intro o y hy
  by_cases ho:o=HID
  ·subst ho
   simp only[SState.obj_def,if_true,Option.some.injEq] at hy
   subst hy
   exact⟨_,hob,fun _=>Iff.rfl,hro,fun h=>h⟩
  ·refine⟨y,?_,fun _=>Iff.rfl,rfl,fun h=>h⟩
   simp only[SState.obj_def,if_neg ho] at hy ⊢
   exact hy
 refine⟨h.size,h.tmps,fun o y hy=>?_,fun o o' y y' b h1 h2 hb1 hb2=>?_,fun o y b hy hb=>?_,h.cells,h.os,h.tape,h.output,h.grown,h.old,h.sub,h.new,h.nod,h.hold⟩
 ·obtain⟨y',g1,_,_,g2⟩:=hobj o y hy
  exact g2 (h.objs o y' g1)
 ·obtain⟨z,g1,g2,_⟩:=hobj o y h1
  obtain⟨z',g3,g4,_⟩:=hobj o' y' h2
  exact h.inj o o' z z' b g1 g3 ((g2 b).1 hb1) ((g4 b).1 hb2)
 ·obtain⟨z,g1,g2,g3,_⟩:=hobj o y hy
  rw[g3]
  exact h.own o z b g1 ((g2 b).1 hb)

theorem compileD_sound {w:World}{S:Sets}{foot:Nat→Prop}{fn:Func}{keep:List Nat}{Qd Qp:D→D→Prop}:∀(c:Code) {σ:SState} {t:T} {env:List D} {a:Act} {w1:World} {ρ:Rho},compileD P fn keep c env.length σ=some t→den P t env (EndsAs Qd Qp)→Rep w ⟨foot,S,foot,[]⟩ w1 a σ env ρ→Lens fn.ntmps σ→c.wp P (bodyPostX P fn (EndR w S foot Qd Qp)) a w1
 | .seq x y,σ,t,env,a,w1,ρ,hc,hden,hr,hl=>by
  simp only[compileD] at hc
  split at hc
  ·rename_i f caps t0 hdo
   split at hc
   ·rename_i cs cf h res hcs hhs hres
    split at hc
    ·rename_i hcond
     obtain⟨hcl,ht0⟩:=hcond
     obtain⟨tB,hB,rfl⟩:=Option.map_eq_some_iff.1 hc
     obtain⟨cds,hcds,hloc,hdB⟩:=hden
     obtain⟨id,o0,o1,first,caps',as,ts,rfl,h00,h01,h02,h10,h11,h12,rfl,hf0,ha0⟩:∃id o0 o1 first caps' as ts,x=.region id #[o0,o1] false∧o0.op=.makeFunc (.func f) first caps'∧o0.guard=none∧o0.dst=some t0∧o1.op=.defer { callee:=.value (.tmp t0),args:=as,argTypes:=ts }∧o1.guard=none∧o1.dst=none∧caps=caps'.toList∧first.size=0∧as.size=0:=by
      unfold deferOps at hdo
      split at hdo
      ·rename_i id ops
       split at hdo
       ·rename_i o0 o1 hops
        split at hdo
        ·rename_i f' first caps' t1 t2 as ts g1 g2 g3 g4 g5 g6
         split at hdo
         ·rename_i hcc
          obtain⟨rfl,hf0,ha0⟩:=hcc
          cases hdo
          have hoa:ops=#[o0,o1]:=by rw[←Array.toArray_toList (xs:=ops),hops]
          exact⟨id,o0,o1,first,caps',as,ts,by rw[hoa],g1,g2,g3,g4,g5,g6,rfl,hf0,ha0⟩
         ·cases hdo
        ·cases hdo
       ·cases hdo
      ·cases hdo
     obtain rfl:first=#[]:=Array.eq_empty_of_size_eq_zero hf0
     obtain rfl:as=#[]:=Array.eq_empty_of_size_eq_zero ha0
     obtain⟨ds',hev',hdl,hrd⟩:=toEAll_rd (w:=w1) (ρ:=ρ) (env:=env) (vs:=(caps'.map a.eval).toList) hcs (by simp) (fun i v s hv' hs'=>by
      simp only[Array.toList_map,List.getElem?_map,Option.map_eq_some_iff] at hv' hs'
      obtain⟨x,hx',rfl⟩:=hv'
      obtain⟨y,hy',rfl⟩:=hs'
      rw[hx'] at hy'
      cases hy'
      exact opd_rd hr x)
     rw[hcds] at hev'
     cases hev'
     have hvl:(caps'.map a.eval).size=cds.length:=by simpa using hdl
     refine wp_seq (wp_region_list ?_)
     have hw0:∀tm,Region.wanted o0 tm=true:=fun tm=>by simp[Region.wanted,h01]
     have hw1:∀tm,Region.wanted o1 tm=true:=fun tm=>by simp[Region.wanted,h11]
     have hrun0:(execOp a.eval o0).run P w1=.ok (.value (.func (.func f) #[] (caps'.map a.eval))) w1:=by
      unfold execOp
      rw[h00]
      simp[Instr.makeFunc]
     have hta:t0<a.tmps.size:=by rw[hr.size];exact ht0
     have hev:(a.put (some t0) (.func (.func f) #[] (caps'.map a.eval))).eval (.tmp t0)=.func (.func f) #[] (caps'.map a.eval):=by
      show(a.put (some t0) (.func (.func f) #[] (caps'.map a.eval))).tmps.getD t0 undef=_
      rw[Act.getD_put _ _ _ hta,if_pos rfl]
     have hrun1:(execOp (a.put (some t0) (.func (.func f) #[] (caps'.map a.eval))).eval o1).run P w1=.ok (.defer { target:=.fn (.func f) (caps'.map a.eval),args:=#[] }) w1:=by
      unfold execOp
      rw[h10]
      simp only[resolve,hev,Deferred.ofValue,Sem.run_bind,Sem.run_pure,Result.andThen_ok]
      simp
     show wpList P #[o0,o1] _ [o0,o1] a w1
     unfold wpList
     rw[if_pos (hw0 _)]
     refine .inl ?_
     unfold Oper.wp
     rw[hrun0]
     simp only[Oper.upon_value,h02]
     unfold wpList
     rw[if_pos (hw1 _)]
     refine .inl ?_
     unfold Oper.wp
     rw[hrun1]
     simp only[Oper.upon_defer,h12]
     unfold wpList
     have hnod:a.defers=[]:=hr.nod
     have hro':({ cf with keep:=keep }:StCfg).ro=cf.ro:=rfl
     have hr1:=(hr.setCf (cf':={ cf with keep:=keep }) hhs hro').put (dst:=some t0) (v:=.func (.func f) #[] (caps'.map a.eval)) (sv:=.junk) (fun d e=>by cases e;exact ht0) .junk
     have hB1:Rep w ⟨foot,ρ.S,foot,[{ target:=.fn (.func f) (caps'.map a.eval),args:=#[] }]⟩ w1 (Act.put { (a.put (some t0) (.func (.func f) #[] (caps'.map a.eval))) with defers:={ target:=.fn (.func f) (caps'.map a.eval),args:=#[] } :: (a.put (some t0) (.func (.func f) #[] (caps'.map a.eval))).defers } none undef) (({ σ with hs:=some (.store { cf with keep:=keep } h) }:SState).put (some t0) .junk) env ρ:=by
      refine⟨hr1.size,hr1.tmps,hr1.objs,hr1.inj,hr1.own,hr1.cells,hr1.os,hr1.tape,hr1.output,hr1.grown,hr1.old,Sets.le_refl _,fun b o hs=>.inl hs,?_,fun l rec hl'=>hr1.hold l rec (by rw[←hr1.sub.hold];exact hl')⟩
      show _ :: a.defers=_
      rw[hnod]
     have hlB:Lens fn.ntmps (({ σ with hs:=some (.store { cf with keep:=keep } h) }:SState).put (some t0) .junk):=⟨by simpa[SState.put_def] using hl.1,by simpa[SState.put_def] using hl.2⟩
     have hcode:=compile_sound (P:=P) (N:=fn.ntmps) y (B:=fun wB XB=>Ext w ⟨foot,ρ.S,foot,[{ target:=.fn (.func f) (caps'.map a.eval),args:=#[] }]⟩ wB XB) (rd:=none) (nd:=0)
      (RetOk:=fun w' a' d'=>∃(wB:World) (XB:Ent) (σ':SState) (env':List D) (ρ':Rho) (kd bs1:List D),Ext w ⟨foot,ρ.S,foot,[{ target:=.fn (.func f) (caps'.map a.eval),args:=#[] }]⟩ wB XB∧Rep wB XB w' a' σ' env' ρ'∧StOk w' ρ'.S ρ'.foot bs1∧(∃cf x,σ'.obj HID=some (.store cf x))∧KeepRd w' ρ'.S a' keep kd∧d'=.tup [.tup kd,.st bs1])
      (rv:=rvB keep) (fun wB XB hBB σ' x hx env' ρ' a' w' d' hr' he=>by
       unfold rvB at hx
       split at hx
       ·rename_i ks cf1 h1 hks hhs1
        split at hx
        ·rename_i hko
         cases hx
         obtain⟨hh1,hob1,bs1,hb1,hst1⟩:=hsOf_eval hr' hhs1
         simp only[E.eval,Option.bind_eq_some_iff] at he
         obtain⟨d1,he1,d2,he2,he⟩:=he
         obtain⟨kd,hkd,rfl⟩:=tupE_eval he1
         obtain⟨d3,he3,d4,he4,he2⟩:=he2
         obtain⟨bs2,hb2,_⟩:=hr'.objs _ _ hob1
         rw[he3] at hb2
         cases hb2
         cases he4
         simp only[D.tcons] at he2
         cases he2
         simp only[D.tcons] at he
         cases he
         have hst2:StOk w' ρ'.S ρ'.foot bs2:=by
          obtain⟨bs3,hb3,hst3,_⟩:=hr'.objs _ _ hob1
          rw[he3] at hb3
          cases hb3
          exact hst3
         exact⟨wB,XB,σ',env',ρ',kd,bs2,hBB,hr',hst2,⟨_,_,hob1⟩,hko ▸ keepE_rd hr' hks hkd (List.prefix_refl _),rfl⟩
        ·cases hx
       ·cases hx) (fun l e=>by cases e) (.inr (.inr fun _ _ _ _ h k=>h.trans k)) 0 _ [] _ tB env hB _ _ w1 w _ _ (Ext.refl _ _) hdB hB1 hlB (fun id e he=>by simp[exOf] at he)
     have hcode:=wpIn_wide.1 hcode
     have hS1n:∀b o,ρ.S b o→S b o∨w.heap.size≤b∨foot b:=fun b o hs=>hr.new b o hs
     have hrdc:∀{w':World} {ρ':Rho},ρ.S≤ρ'.S→∀(i:Nat) (v:Value) (x:D),(caps'.map a.eval)[i]? = some v→cds[i]? = some x→RdD w' ρ'.S v x:=by
      intro w' ρ' hle i v x hv hx
      have hlx:=List.all_eq_true.1 hloc x (List.mem_of_getElem? hx)
      have:=hrd i v x (by simpa using hv) hx
      cases x <;> simp[D.isLoc] at hlx
      cases this with
      | loc hi=>rw[←hle.loc _ hi];exact .loc (Nat.lt_of_lt_of_le hi hle.n)
     have fin:∀{wB:World} {XB:Ent} {w':World} {a':Act} {σ':SState} {env':List D} {ρ':Rho} {kd bs1:List D} {m:Option D} {st' d':D} {u:FrameMode},Ext w ⟨foot,ρ.S,foot,[{ target:=.fn (.func f) (caps'.map a.eval),args:=#[] }]⟩ wB XB→Rep wB XB w' a' σ' env' ρ'→StOk w' ρ'.S ρ'.foot bs1→(∃cf x,σ'.obj HID=some (.store cf x))→KeepRd w' ρ'.S a' keep kd →
       (match m with | none=>u=.returning | some d=>∃v,RdD w' ρ'.S v d∧u=.panicking [{ v,recovered:=false }])→FSpecD P f (.st bs1) cds m st'→res.eval (kd++[st'])=some d'→Qd d' st'→LeavesX P fn a'.tmps (EndR w S foot Qd Qp) a'.defers u w':=by
      intro wB XB w' a' σ' env' ρ' kd bs1 m st' d' u hBB hr' hst' hob' hk' hu h1 h2 h3
      obtain⟨cs',g1,g2,g3⟩:=hBB.dfs
      have h0:=hBB.rep hr' hB1.hold
      have hur:u≠.run:=by
       cases m with
       | none=>have hu:u=.returning:=hu;rw[hu];simp
       | some d=>obtain⟨v,_,hu⟩:=hu;rw[hu];simp
      rw[hr'.nod,g1]
      refine leavesX_marks hur cs' w' g2 (fun D hD=>?_) fun w2 hm=>?_
      ·obtain⟨k1,k2,k3,k4⟩:=g3 D hD
       exact(hr'.old D (Array.getElem?_eq_some_iff.1 k1).1 k2).trans k1
      ·have hr2:=Rep.marked hr' h0 (fun D hD=>by
        obtain⟨k1,k2,k3,k4⟩:=g3 D hD
        exact⟨(Array.getElem?_eq_some_iff.1 k1).1,k2,k3,k4⟩) hm
       obtain⟨cf',x',hob⟩:=hob'
       have hblk:∀b,ρ'.foot b→w2.heap[b]? = w'.heap[b]?:=fun b hb=>hm.other b fun hD=>by
        obtain⟨k1,k2,k3,k4⟩:=g3 b hD
        have:=(Array.getElem?_eq_some_iff.1 k1).1
        rcases(hr'.own HID _ b hob hb).1 with g | g | g
        ·exact k3 g.2
        ·omega
        ·exact k2 g
       have hk:Keeps ρ'.S w' w2:=fun b o _=>hm.cell b o
       have hst2:StOk w2 ρ'.S ρ'.foot bs1:=hst'.to ⟨fun _ _ h=>h,rfl,fun _=>rfl,fun _=>rfl,fun _=>rfl⟩ (fun _ _ h=>h) hblk fun v d i x _ _ h=>h.keep hk (Sets.le_refl _)
       refine defer_end (m:=m) hr2 hst2 ⟨cf',x',hob⟩ (Sets.le_trans hr.sub (Sets.le_refl _)) hS1n hcl hvl (hrdc h0.sub) ⟨hk'.1,fun i s d e1 e2=>(hk'.2 i s d e1 e2).keep hk (Sets.le_refl _)⟩ ?_ h1 hres h2 h3
       cases m with
       | none=>exact hu
       | some d=>obtain⟨v,k1,k2⟩:=hu;exact⟨v,k1.keep hk (Sets.le_refl _),k2⟩
     have retq:∀{w':World} {a':Act} {d':D},DfrQ P f keep cds res (EndsAs Qd Qp) (.ret d')→(∃(wB:World) (XB:Ent) (σ':SState) (env':List D) (ρ':Rho) (kd bs1:List D),Ext w ⟨foot,ρ.S,foot,[{ target:=.fn (.func f) (caps'.map a.eval),args:=#[] }]⟩ wB XB∧Rep wB XB w' a' σ' env' ρ'∧StOk w' ρ'.S ρ'.foot bs1∧(∃cf x,σ'.obj HID=some (.store cf x))∧KeepRd w' ρ'.S a' keep kd∧d'=.tup [.tup kd,.st bs1]) →
       LeavesX P fn a'.tmps (EndR w S foot Qd Qp) a'.defers .returning w':=by
      rintro w' a' d' hq ⟨wB,XB,σ',env',ρ',kd,bs1,hBB,hr',hst',hob',hk',rfl⟩
      obtain⟨st',d'',h1,h2,h3⟩:=hq
      exact fin (m:=none) hBB hr' hst' hob' hk' rfl h1 h2 h3
     refine wp_mono hcode fun e a' w' hp=>?_
     cases e with
     | normal=>
      obtain⟨wB,XB,env',σ',ρ',t',hBB,_,hk,hd',hr',_⟩:=hp
      obtain⟨xr,hxr,rfl⟩:=Option.map_eq_some_iff.1 hk
      obtain⟨d1,he,hq⟩:=hd'
      refine retq hq ?_
      unfold rvB at hxr
      split at hxr
      ·rename_i ks cf1 h1 hks hhs1
       split at hxr
       ·rename_i hko
        cases hxr
        obtain⟨hh1,hob1,_⟩:=hsOf_eval hr' hhs1
        simp only[E.eval,Option.bind_eq_some_iff] at he
        obtain⟨d1,he1,d2,he2,he⟩:=he
        obtain⟨kd,hkd,rfl⟩:=tupE_eval he1
        obtain⟨d3,he3,d4,he4,he2⟩:=he2
        obtain⟨bs2,hb2,hst2,_⟩:=hr'.objs _ _ hob1
        rw[he3] at hb2
        cases hb2
        cases he4
        simp only[D.tcons] at he2
        cases he2
        simp only[D.tcons] at he
        cases he
        exact⟨wB,XB,σ',env',ρ',kd,bs2,hBB,hr',hst2,⟨_,_,hob1⟩,hko ▸ keepE_rd hr' hks hkd (List.prefix_refl _),rfl⟩
       ·cases hxr
      ·cases hxr
     | ret=>
      obtain⟨d1,hq,h1⟩:=hp
      exact retq hq h1
     | exit id=>obtain⟨_,_,e,_,_,_,he,_⟩:=hp;simp[exOf] at he
     | goto l=>exact hp.elim
     | panic c=>
      obtain⟨wB,XB,σ',env',ρ',v,d,bs',hBB,rfl,hr',hrd',hst',hob',kd,hk',hq⟩:=hp
      obtain⟨hko,st',d'',h1,h2,h3⟩:=hq
      rw[hko] at hk'
      exact fin (m:=some d) hBB hr' hst' hob' hk' ⟨v,hrd',rfl⟩ h1 h2 h3
     | outgrown=>exact hp.elim
    ·cases hc
   ·cases hc
  ·-- ahead of it
   split at hc
   ·cases hc
   rename_i hnr
   have hnr:noRange x=true:=by simpa using hnr
   refine wp_seq (wp_mono (wpIn_wide.1 (compile_sound (P:=P) (N:=fn.ntmps) x (B:=fun w1 X1=>w1=w∧X1=⟨foot,S,foot,[]⟩) (rd:=none) (nd:=0) (RetOk:=fun w' a' d'=>a'.defers=[]∧∃(v:Value) (d0:D) (bs':List D) (S':Sets) (foot':Nat→Prop),(results fn a'.tmps).run P w'=.ok v w'∧d'=.tup [d0,.st bs']∧RdD w' S' v d0∧Left w S foot foot w' S' foot' bs')
    (rv:=retAll P fn.results.toList) (fun wB XB hBB σ x hx env ρ a' w' d' hr he=>by rw[hBB.1,hBB.2] at hr;exact ret_end (fun _ h=>h) hx hr he) (fun l e=>by cases e) (.inl hnr) 0 _ [] _ t env hc _ a w1 w _ _ ⟨rfl,rfl⟩ hden hr hl (fun id e he=>by simp[exOf] at he))) fun e a' w' hp=>?_)
   cases e with
   | normal=>
    obtain⟨wB,XB,env',σ',ρ',t',hBB,hpre,hk,hd',hr',hl'⟩:=hp
    rw[hBB.1,hBB.2] at hr'
    exact compileD_sound y hk hd' hr' hl'
   | ret=>
    obtain⟨d',hq,g1,v,d0,bs',S',foot',h1,rfl,h3,h4⟩:=hp
    show LeavesX P fn a'.tmps _ a'.defers .returning w'
    rw[g1]
    exact⟨v,h1,.ret d0,v,S',foot',bs',hq,⟨rfl,h3⟩,h4⟩
   | exit id=>obtain⟨_,_,e,_,_,_,he,_⟩:=hp;simp[exOf] at he
   | goto l=>exact hp.elim
   | panic c=>
    obtain⟨wB,XB,σ',env',ρ',v,d,bs',hBB,rfl,hr',hrd',hst',hob',kd,_,hq⟩:=hp
    rw[hBB.1,hBB.2] at hr'
    have hnd:a'.defers=[]:=hr'.nod
    show LeavesX P fn a'.tmps _ a'.defers (.panicking _) w'
    rw[hnd]
    exact⟨.pan d,v,ρ'.S,ρ'.foot,bs',hq,⟨rfl,hrd'⟩,left_of_rep hr' hst' hob' fun _ h=>h⟩
   | outgrown=>exact hp.elim

theorem fspecDefer {cf:StCfg}{f:FuncId}{fn:Func}{keep:List Nat}{t:T}{ds:List D}{bs bs':List D}{o:Out}(hf:P.funcs[f]? = some fn)(hc:compileDefer P cf fn keep=some t)(hfit:argsFit (paramOnes P fn) ds=true)(hden:den P t (ds++[.st bs]) (EndsIn o (.st bs'))) :
  FSpecWO P f (.st bs) ds o (.st bs'):=by
 intro w S foot bs0 vs hb hst hhold hfl hS hvl hrd
 cases hb
 obtain⟨hbl,_⟩:=argsFit_spec hfit
 have hpl:(paramOnes P fn).length=nParams fn:=by simp[paramOnes,nParams]
 unfold compileDefer at hc
 split at hc
 ·cases hc
 rename_i c hbody
 split at hc
 ·cases hc
 rename_i hnt
 rw[not_or] at hnt
 have hstart:=start_rep (may:=foot) (cf:=cf) hfit hst hhold (fun _ h=>h) hfl hS hvl hrd fun _ h=>.inr h
 have hlens:Lens fn.ntmps (startState cf fn.ntmps (nParams fn) (paramOnes P fn)):=⟨by simp[startState,startTmps_length,hpl];omega,by simp[startState]⟩
 refine(calls_of_wpX hf hbody (compileD_sound (w:=w) (S:=S) (foot:=foot) c (env:=ds++[.st bs]) (by rw[List.length_append,←hbl,hpl];exact hc) (den_mono (fun s hs=>hs.as) hden) hstart hlens)).mono ?_
 rintro e w' ⟨o',v,S',foot',bs'',hq,hends,hl⟩
 have:o'=o∧bs''=bs':=by cases o' <;> (obtain⟨rfl,h2⟩:=hq;cases h2;exact⟨rfl,rfl⟩)
 obtain⟨rfl,rfl⟩:=this
 exact⟨v,S',foot',_,hends,rfl,hl.st,fun b o hs=>World.cell?_of_block (a:=⟨b,o,none⟩) (hl.old b (hS b o hs) fun hf=>hst.nos b o hf hs),hl.le,hl.os,hl.tape,hl.output,hl.size,hl.old,hl.ft,hl.new,hl.lt⟩

end
end
end Go.Am

/-
 How the arguments of a law read: as data,with the bounds of their types;and the contract of a law,out of a function's contract over data.
-/
namespace Go.Am
noncomputable section

inductive Sh where
 | int (k:IntKind)
 | bool
 | str
 | sl (e:Sh)
 | st (fs:List Sh)
 deriving Inhabited

mutual
def Sh.size:Sh→Nat
 | .st fs=>Sh.sizes fs
 | _=>1
def Sh.sizes:List Sh→Nat
 | []=>0
 | s :: r=>s.size+Sh.sizes r
end

def Sh.isSt:Sh→Bool
 | .st _=>true
 | _=>false

def shFields (P:Program)(sh:TypeId→Option Sh):List Field→Nat→Option (List Sh)
 | [],_=>some []
 | f :: r,off=>if f.offset=off then(sh f.type).bind fun s=>if P.cellsOf f.type=s.size then(shFields P sh r (off+s.size)).map (s :: ·) else none else none

def shOf (P:Program):Nat→TypeId→Option Sh
 | 0,_=>none
 | n+1,t=>match P.underlying t with
  | some (.int k)=>some (.int k)
  | some .bool=>some .bool
  | some .string=>some .str
  | some (.slice e)=>(shOf P n e).bind fun s=>if P.cellsOf e=s.size∧0<s.size then some (.sl s) else none
  | some (.struct fs)=>(shFields P (shOf P n) fs.toList 0).bind fun l=>if P.cellsOf t=Sh.sizes l then some (.st l) else none
  | _=>none

mutual
def OfSh:Sh→List D→Prop
 | .int k,ds=>∃n,ds=[.v (.int k n)]∧k.min≤n∧n≤k.max
 | .bool,ds=>∃b,ds=[.v (.bool b)]
 | .str,ds=>∃s,ds=[.v (.string s)]∧s.size≤maxLen
 | .sl e,ds=>∃es,ds=[.lst es]∧es.length≤maxLen∧∀x,x∈es→(e.isSt=true→∃cs,x=.agg cs∧OfSh e cs)∧(e.isSt=false→OfSh e [x])
 | .st fs,ds=>OfAll fs ds
def OfAll:List Sh→List D→Prop
 | [],ds=>ds=[]
 | s :: r,ds=>∃a b,ds=a++b∧OfSh s a∧OfAll r b
end

def Sall (w:World):Sets:={ mem:=fun b _=>b<w.heap.size,loc:=fun _=>0,n:=0,cap:=fun _=>0 }

mutual
theorem OfSh.length:∀{s:Sh} {ds:List D},OfSh s ds→ds.length=s.size
 | .int _,_,⟨_,h,_⟩=>by rw[h];rfl
 | .bool,_,⟨_,h⟩=>by rw[h];rfl
 | .str,_,⟨_,h,_⟩=>by rw[h];rfl
 | .sl _,_,⟨_,h,_⟩=>by rw[h];rfl
 | .st _,_,h=>by simp only[OfSh] at h;rw[OfAll.length h];rfl
theorem OfAll.length:∀{l:List Sh} {ds:List D},OfAll l ds→ds.length=Sh.sizes l
 | [],_,h=>by simp only[OfAll] at h;rw[h];rfl
 | s :: r,_,h=>by
  simp only[OfAll] at h
  obtain⟨a,b,rfl,h1,h2⟩:=h
  rw[List.length_append,OfSh.length h1,OfAll.length h2]
  rfl
end

theorem cells_size {P:Program}:∀{n:Nat} {t:TypeId} {s:Sh},shOf P n t=some s→s.isSt=false→s.size=1:=by
 intro n t s h hs
 cases s <;> first | rfl | simp[Sh.isSt] at hs

section
variable {H:Type} {enc:TypeId×Value→H} {P:Program} {w:World}

theorem lt_of_cell {w:World}{a:Addr}{v:Value}(h:w.cell? a=some v):a.block<w.heap.size∧a.spot=none:=by
 unfold World.cell? at h
 split at h
 ·rename_i c _ _ hc
  split at h
  ·cases h
  ·rename_i hs
   exact⟨(Array.getElem?_eq_some_iff.1 hc).1,by simpa using hs⟩
 ·cases h

theorem cells_get {w:World}{base n:Nat}{a:Addr}{cs:List Value}(h:w.cells? base a n=some cs):cs.length=n∧∀j,j<n→w.cell? (a.add j)=cs[j]?:=by
 unfold World.cells? at h
 split at h
 ·have key:∀{l:List Nat} {cs:List Value},l.mapM (fun i=>w.cell? (a.add i))=some cs→cs.length=l.length∧∀(j i:Nat),l[j]? = some i→w.cell? (a.add i)=cs[j]?:=by
   intro l
   induction l with
   | nil=>intro cs h;simp at h;subst h;exact⟨rfl,by simp⟩
   | cons i l ih=>
    intro cs h
    simp only[List.mapM_cons,Option.bind_eq_bind,Option.bind_eq_some_iff,Option.pure_def,Option.some.injEq] at h
    obtain⟨v,h1,vs,h2,rfl⟩:=h
    obtain⟨h3,h4⟩:=ih h2
    refine⟨by simp[h3],fun j i' hj=>?_⟩
    cases j with
    | zero=>simp at hj;subst hj;simpa using h1
    | succ j=>simpa using h4 j i' (by simpa using hj)
  obtain⟨h1,h2⟩:=key h
  exact⟨by simpa using h1,fun j hj=>h2 j j (by simp[hj])⟩
 ·cases h

theorem trod_sh:∀(fuel:Nat) {n:Nat} {t:TypeId} {cs:List Value} {x:DataW H×List MemPlace} {sh:Sh},DataW.trod enc P w 0 (fun _=>true) true fuel t cs=some x→shOf P n t=some sh →
  ∃ds:List D,ds.length=cs.length∧OfSh sh ds∧∀(i:Nat) (v:Value) (y:D),cs[i]? = some v→ds[i]? = some y→RdD w (Sall w) v y∧y.one=true:=by
 intro fuel
 induction fuel with
 | zero=>intro n t cs x sh h;simp[DataW.trod] at h
 | succ fuel ih=>
  intro n t cs x sh h hs
  have one:∀{v:Value} {y:D},RdD w (Sall w) v y→y.one=true→∀(i:Nat) (v':Value) (y':D),[v][i]? = some v'→[y][i]? = some y'→RdD w (Sall w) v' y'∧y'.one=true:=by
   intro v y h1 h2 i v' y' hv hy
   cases i with
   | zero=>simp at hv hy;subst hv hy;exact⟨h1,h2⟩
   | succ i=>simp at hv
  cases n with
  | zero=>simp[shOf] at hs
  | succ n=>
  simp only[shOf] at hs
  split at hs
  ·rename_i k ht
   cases hs
   obtain⟨m,rfl,_,hw⟩:=DataW.trod_int ht h
   simp only[Lit.wf,Bool.and_eq_true,decide_eq_true_eq] at hw
   exact⟨[.v (.int k m)],rfl,⟨m,rfl,hw⟩,one (.v rfl) rfl⟩
  ·rename_i ht
   cases hs
   obtain⟨b,rfl,_⟩:=DataW.trod_bool ht h
   exact⟨[.v (.bool b)],rfl,⟨b,rfl⟩,one (.v rfl) rfl⟩
  ·rename_i ht
   cases hs
   obtain⟨s,rfl,_,hw⟩:=DataW.trod_string ht h
   exact⟨[.v (.string s)],rfl,⟨s,rfl,hw⟩,one (.v rfl) rfl⟩
  ·rename_i e ht
   obtain⟨s,hse,hs⟩:=Option.bind_eq_some_iff.1 hs
   split at hs
   ·rename_i hc
    obtain⟨hc,hpos⟩:=hc
    cases hs
    rcases DataW.trod_slice ht h with⟨rfl,_⟩ | ⟨a,len,cap,elems,rest,m,hm,rfl,_,_,hl,hcap,hlen,hel,hsp,_⟩
    ·exact⟨[.lst []],rfl,⟨[],rfl,Nat.zero_le _,by simp⟩,one .nil rfl⟩
    ·cases hm
     have hel2:∀i,∃ds:List D,i<len→∃cs:List Value,w.cells? 0 (a.add (i*P.cellsOf e)) (P.cellsOf e)=some cs∧ds.length=cs.length∧OfSh s ds∧∀(j:Nat) (v:Value) (y:D),cs[j]? = some v→ds[j]? = some y→RdD w (Sall w) v y∧y.one=true:=by
      intro i
      by_cases hi:i<len
      ·have h1:=hel i hi
       rw[List.getElem?_eq_getElem (show i<elems.length by omega)] at h1
       obtain⟨cs,h2,h3⟩:=Option.bind_eq_some_iff.1 h1
       obtain⟨ds,h4,h5,h6⟩:=ih h3 hse
       exact⟨ds,fun _=>⟨cs,h2,h4,h5,h6⟩⟩
      ·exact⟨[],fun h=>absurd h hi⟩
     let mk:List D→D:=fun ds=>if s.isSt=true then .agg ds else ds.headD (.v .nilIface)
     obtain⟨f,hf⟩:=Classical.axiomOfChoice hel2
     have hmk:∀i,i<len→(mk (f i)).cells=f i∧((s.isSt=true→∃cs,mk (f i)=.agg cs∧OfSh s cs)∧(s.isSt=false→OfSh s [mk (f i)])):=by
      intro i hi
      obtain⟨cs,_,h4,h5,h6⟩:=hf i hi
      by_cases hst:s.isSt=true
      ·have:mk (f i)=.agg (f i):=by simp only[mk];rw[if_pos hst]
       rw[this]
       exact⟨rfl,(fun _=>⟨_,rfl,h5⟩),fun hh=>(by rw[hst] at hh;cases hh)⟩
      ·have hst:s.isSt=false:=by simpa using hst
       have h1:(f i).length=1:=by rw[h5.length,cells_size hse hst]
       match hfi:f i,h1 with
       | [d],_=>
        have:mk [d]=d:=by simp only[mk];rw[if_neg (by simp[hst])];rfl
        rw[this]
        have hcl:cs.length=1:=by rw[←h4,hfi];rfl
        rw[hfi] at h5 h6
        have hd1:d.one=true:=(h6 0 cs[0] d (by simp[hcl]) rfl).2
        exact⟨(by cases d <;> first | rfl | simp[D.one] at hd1),(fun hh=>(by rw[hst] at hh;cases hh)),fun _=>h5⟩
     have hes:∀(i:Nat) (y:D),((List.range len).map fun i=>mk (f i))[i]? = some y→i<len∧y=mk (f i):=by
      intro i y hy
      simp only[List.getElem?_map,Option.map_eq_some_iff] at hy
      obtain⟨q,hq,rfl⟩:=hy
      obtain⟨h1,rfl⟩:=List.getElem?_eq_some_iff.1 hq
      simp only[List.length_range] at h1
      simp only[List.getElem_range]
      exact⟨h1,trivial⟩
     refine⟨[.lst ((List.range len).map fun i=>mk (f i))],rfl,⟨_,rfl,by simp;omega,fun y hy=>?_⟩,one ?_ rfl⟩
     ·obtain⟨i,hi⟩:=List.mem_iff_getElem?.1 hy
      obtain⟨hil,rfl⟩:=hes i y hi
      exact(hmk i hil).2
     ·by_cases hlen0:len=0
      ·subst hlen0
       exact .emp hcap
      ·-- the address is plain
       have hspot:a.spot=none:=by
        obtain⟨cs,h2,h4,h5,_⟩:=hf 0 (by omega)
        obtain⟨h6,h7⟩:=cells_get h2
        have:=h7 0 (by omega)
        rw[List.getElem?_eq_getElem (show 0<cs.length by omega)] at this
        have:=(lt_of_cell this).2
        simpa[Addr.add] using this
       obtain⟨b,off,spot⟩:=a
       subst hspot
       have hcell:∀(i:Nat) (e':D) (j:Nat) (d:D),((List.range len).map fun i=>mk (f i))[i]? = some e'→e'.cells[j]? = some d→∃v,w.cell? ⟨b,off+i*s.size+j,none⟩=some v∧RdD w (Sall w) v d∧d.one=true:=by
        intro i e' j d he hd
        obtain⟨hil,rfl⟩:=hes i e' he
        rw[(hmk i hil).1] at hd
        obtain⟨cs,h2,h4,h5,h6⟩:=hf i hil
        obtain⟨h7,h8⟩:=cells_get h2
        have hj:j<(f i).length:=(List.getElem?_eq_some_iff.1 hd).1
        have h9:=h8 j (by omega)
        rw[addr_add,addr_add,hc,List.getElem?_eq_getElem (show j<cs.length by omega)] at h9
        exact⟨_,h9,h6 j _ d (List.getElem?_eq_getElem (by omega)) hd⟩
       refine .lst (size:=s.size) (val:=fun i j=>(w.cell? ⟨b,off+i*s.size+j,none⟩).getD undef) (by simp) hl hcap (fun i e' he=>?_) (fun i e' j d he hd=>?_) (fun i e' j d he hd=>?_) (fun i e' j d he hd=>?_) fun i e' j d he hd=>?_
       ·obtain⟨hil,rfl⟩:=hes i e' he
        obtain⟨cs,h2,h4,h5,h6⟩:=hf i hil
        rw[(hmk i hil).1,h5.length]
       ·obtain⟨v,_,_,h3⟩:=hcell i e' j d he hd;exact h3
       ·obtain⟨v,h1,_,_⟩:=hcell i e' j d he hd;exact(lt_of_cell h1).1
       ·obtain⟨v,h1,_,_⟩:=hcell i e' j d he hd;rw[h1];rfl
       ·obtain⟨v,h1,h2,_⟩:=hcell i e' j d he hd;rw[h1];exact h2
   ·cases hs
  ·rename_i fs ht
   obtain⟨l,hl,hs⟩:=Option.bind_eq_some_iff.1 hs
   split at hs
   ·rename_i hc
    cases hs
    obtain⟨xs,m,hm,_,hcl,hxl,hf⟩:=DataW.trod_struct ht h
    cases hm
    have key:∀(fl:List Field) (off:Nat) (l:List Sh),shFields P (shOf P n) fl off=some l→off+Sh.sizes l≤cs.length→(∀f,f∈fl→∃x,DataW.trod enc P w 0 (fun _=>true) true fuel f.type ((cs.drop f.offset).take (P.cellsOf f.type))=some x) →
      ∃ds:List D,OfAll l ds∧∀(i:Nat) (v:Value) (y:D),cs[off+i]? = some v→ds[i]? = some y→RdD w (Sall w) v y∧y.one=true:=by
     intro fl
     induction fl with
     | nil=>intro off l h1 _ _;simp[shFields] at h1;subst h1;exact⟨[],by simp[OfAll],by simp⟩
     | cons f fl ihf=>
      intro off l h1 h2 h3
      simp only[shFields] at h1
      split at h1
      ·rename_i hoff
       obtain⟨s,hs1,h1⟩:=Option.bind_eq_some_iff.1 h1
       split at h1
       ·rename_i hcs
        obtain⟨l',hl',rfl⟩:=Option.map_eq_some_iff.1 h1
        simp only[Sh.sizes] at h2
        obtain⟨ds2,g1,g2⟩:=ihf (off+s.size) l' hl' (by omega) fun f' hf'=>h3 f' (by simp[hf'])
        obtain⟨x,hx⟩:=h3 f (by simp)
        obtain⟨ds1,k1,k2,k3⟩:=ih hx hs1
        have hlen1:=k2.length
        refine⟨ds1++ds2,by simp only[OfAll];exact⟨ds1,ds2,rfl,k2,g1⟩,fun i v y hv hy=>?_⟩
        by_cases hi:i<ds1.length
        ·rw[List.getElem?_append_left hi] at hy
         refine k3 i v y ?_ hy
         rw[List.getElem?_take,if_pos (by omega),List.getElem?_drop,hoff]
         exact hv
        ·rw[List.getElem?_append_right (by omega)] at hy
         refine g2 (i-ds1.length) v y ?_ hy
         rw[←hv]
         congr 1
         omega
       ·cases h1
      ·cases h1
    obtain⟨ds,h1,h2⟩:=key fs.toList 0 l hl (by rw[hcl,hc];omega) fun f hf'=>by
     obtain⟨i,hi⟩:=List.mem_iff_getElem?.1 hf'
     have:=hf i f (by simpa using hi)
     have hil:i<xs.length:=by
      have:=(List.getElem?_eq_some_iff.1 hi).1
      simp at this
      omega
     rw[List.getElem?_eq_getElem hil] at this
     exact⟨_,this⟩
    refine⟨ds,by rw[h1.length,hcl,hc],by simp only[OfSh];exact h1,fun i v y hv hy=>h2 i v y (by simpa using hv) hy⟩
   ·cases hs
  ·cases hs

end
end
end Go.Am

/-
 A law's statement,out of the contract of its function over data.
-/
namespace Go.Am
noncomputable section
open Go.RowKit Go.ChangeShapes Go.WideShapes

def ArgSh (s:Sh)(x:D):Prop:=(s.isSt=true→∃cs,x=.agg cs∧OfSh s cs)∧(s.isSt=false→OfSh s [x])

def ArgsSh:List Sh→List D→Prop
 | [],ds=>ds=[]
 | s :: r,ds=>∃x ys,ds=x :: ys∧ArgSh s x∧ArgsSh r ys

section
variable {H:Type} {enc:TypeId×Value→H} {P:Program} {W:World}

theorem arg_rd {base n:Nat}{t:TypeId}{v:Value}{d:DataW H}{ps:List MemPlace}{sh:Sh}(hval:Value.okWide P W .any base t v)(h:DataW.Trod enc P W 0 (fun _=>true) true t v d ps)(hs:shOf P n t=some sh):∃x:D,RdD W (Sall W) v x∧ArgSh sh x:=by
 obtain⟨fuel,hf⟩:=h
 obtain⟨ds,h1,h2,h3⟩:=trod_sh fuel hf hs
 have one:v.cells=#[v]→sh.isSt=false→∃x:D,RdD W (Sall W) v x∧ArgSh sh x:=by
  intro hc hst
  rw[hc] at h1 h3
  match ds,h1 with
  | [x],_=>exact⟨x,(h3 0 v x rfl rfl).1,(fun hh=>(by rw[hst] at hh;cases hh)),fun _=>h2⟩
 cases n with
 | zero=>simp[shOf] at hs
 | succ n=>
  simp only[shOf] at hs
  split at hs
  ·rename_i k ht
   cases hs
   obtain⟨m,rfl⟩:=okWide_int ht hval
   exact one rfl rfl
  ·rename_i ht
   cases hs
   obtain⟨m,rfl⟩:=okWide_bool ht hval
   exact one rfl rfl
  ·rename_i ht
   cases hs
   obtain⟨m,rfl⟩:=okWide_string ht hval
   exact one rfl rfl
  ·rename_i e ht
   obtain⟨s,_,hs⟩:=Option.bind_eq_some_iff.1 hs
   split at hs
   ·cases hs
    obtain⟨a,len,cap,rfl⟩:=okWide_slice ht hval
    exact one rfl rfl
   ·cases hs
  ·rename_i fs ht
   obtain⟨l,_,hs⟩:=Option.bind_eq_some_iff.1 hs
   split at hs
   ·cases hs
    obtain⟨cs,rfl,_⟩:=okWide_struct ht hval
    have hc:(Value.agg cs).cells=cs:=rfl
    rw[hc] at h1 h3
    refine⟨.agg ds,.agg (by rw[h1];simp) (fun i y hy=>?_) fun i u y hu hy=>(h3 i u y (by simpa using hu) hy).1,fun _=>⟨ds,rfl,h2⟩,fun hh=>by simp[Sh.isSt] at hh⟩
    have hi:i<cs.size:=by
     have:=(List.getElem?_eq_some_iff.1 hy).1
     rw[h1] at this
     simpa using this
    exact(h3 i cs[i] y (by simp[hi]) hy).2
   ·cases hs
  ·cases hs

theorem args_rd {base n:Nat}:∀{ts:List TypeId} {vs:List Value} {ds:List (DataW H)} {ps:List MemPlace} {shs:List Sh},(∀(j:Nat) t v,ts[j]? = some t→vs[j]? = some v→Value.okWide P W .any base t v)→DataW.TrodAll enc P W 0 (fun _=>true) true ts vs ds ps→ts.mapM (shOf P n)=some shs →
  vs.length=ts.length∧ds.length=ts.length∧∃xs:List D,xs.length=vs.length∧ArgsSh shs xs∧∀(i:Nat) (v:Value) (x:D),vs[i]? = some v→xs[i]? = some x→RdD W (Sall W) v x
 | [],vs,ds,ps,shs,_,h,hs=>by
  obtain⟨rfl,rfl,rfl⟩:=trodAll_nil h
  simp at hs
  subst hs
  exact⟨rfl,rfl,[],rfl,rfl,by simp⟩
 | t :: ts,vs,ds,ps,shs,hv,h,hs=>by
  obtain⟨v,vs',d,ds',p,q,rfl,rfl,rfl,h0,h1⟩:=trodAll_cons h
  simp only[List.mapM_cons,Option.bind_eq_bind,Option.bind_eq_some_iff,Option.pure_def,Option.some.injEq] at hs
  obtain⟨s,hs1,r,hs2,rfl⟩:=hs
  obtain⟨x,k1,k2⟩:=arg_rd (hv 0 t v rfl rfl) h0 hs1
  obtain⟨g1,g1',xs,g2,g3,g4⟩:=args_rd (fun j t v ht hv'=>hv (j+1) t v (by simpa using ht) (by simpa using hv')) h1 hs2
  refine⟨by simp[g1],by simp[g1'],x :: xs,by simp[g2],⟨x,xs,rfl,k2,g3⟩,fun i v' x' hv' hx'=>?_⟩
  cases i with
  | zero=>simp at hv' hx';subst hv' hx';exact k1
  | succ i=>exact g4 i v' x' (by simpa using hv') (by simpa using hx')

theorem trodAll_below {W':World}(hl:laidOutB P=true)(hb:Below W.heap.size W W'):∀{ts:List TypeId} {vs:List Value} {ds:List (DataW H)} {ps:List MemPlace},(∀t,t∈ts→P.readableRec t=true∧t<P.types.size)→(∀p,p∈ps→p.block<W.heap.size)→DataW.TrodAll enc P W 0 (fun _=>true) true ts vs ds ps →
  DataW.TrodAll enc P W' 0 (fun b=>decide (b<W.heap.size)) true ts vs ds ps
 | [],vs,ds,ps,_,_,h=>by
  obtain⟨rfl,rfl,rfl⟩:=trodAll_nil h
  exact trodAll_mk0
 | t :: ts,vs,ds,ps,ht,hp,h=>by
  obtain⟨v,vs',d,ds',p,q,rfl,rfl,rfl,h0,h1⟩:=trodAll_cons h
  exact trodAll_cons_mk (Below.trod hl (ht t (by simp)).1 (ht t (by simp)).2 h0 hb fun x hx=>hp x (by simp[hx])) (trodAll_below hl hb (fun t' ht'=>ht t' (by simp[ht'])) (fun x hx=>hp x (by simp[hx])) h1)

end
end
end Go.Am

/-
 What a function has built in a store of its own becomes data.
-/
namespace Go.Am
noncomputable section

def meltL (f:D→Option D):List D→Option (List D)
 | []=>some []
 | x :: r=>(f x).bind fun y=>(meltL f r).map (y :: ·)

def melt (bs:List D):Nat→D→Option D
 | 0,_=>none
 | n+1,d=>match d with
  | .v x=>some (.v x)
  | .agg cs=>(meltL (melt bs n) cs).map .agg
  | .lst cs=>(meltL (melt bs n) cs).map .lst
  | .ptr cs=>(meltL (melt bs n) cs).map .ptr
  | .tup cs=>(meltL (melt bs n) cs).map .tup
  | .ifc t x=>(melt bs n x).map (.ifc t)
  | .fn f a b=>(meltL (melt bs n) a).bind fun a=>(meltL (melt bs n) b).map (.fn f a)
  | .snil=>some (.lst [])
  | .loc i off=>(match bs[i]? with
   | some (.blk _ _ cs)=>(meltL (melt bs n) (cs.drop off)).map .ptr
   | _=>none)
  | .sl i off len=>(match bs[i]? with
   | some (.blk _ sz cs)=>if off+len*sz≤cs.length then(meltL (melt bs n) ((cs.drop off).take (len*sz))).map fun l=>.lst (if sz=1 then l else(chunks sz len l).map .agg) else none
   | _=>none)
  | _=>none

theorem meltL_get {f:D→Option D}:∀{l l':List D},meltL f l=some l'→l'.length=l.length∧∀(i:Nat) (y:D),l'[i]? = some y→∃x,l[i]? = some x∧f x=some y
 | [],l',h=>by cases h;exact⟨rfl,fun i y hi=>by simp at hi⟩
 | x :: r,l',h=>by
  simp only[meltL,Option.bind_eq_some_iff,Option.map_eq_some_iff] at h
  obtain⟨y,h1,r',h2,rfl⟩:=h
  obtain⟨h3,h4⟩:=meltL_get h2
  refine⟨by simp[h3],fun i z hi=>?_⟩
  cases i with
  | zero=>simp at hi;subst hi;exact⟨x,rfl,h1⟩
  | succ i=>exact h4 i z (by simpa using hi)

section
variable {bs:List D}

theorem melt_one {n:Nat}{d d':D}(h:melt bs n d=some d')(hd:d.one=true):d'.one=true:=by
 cases n with
 | zero=>cases h
 | succ n=>
  cases d <;> simp only[melt] at h <;> try (simp[D.one] at hd;done)
  case v x=>cases h;rfl
  case lst cs=>obtain⟨l,_,rfl⟩:=Option.map_eq_some_iff.1 h;rfl
  case ptr cs=>obtain⟨l,_,rfl⟩:=Option.map_eq_some_iff.1 h;rfl
  case ifc t x=>obtain⟨l,_,rfl⟩:=Option.map_eq_some_iff.1 h;rfl
  case fn f a b=>
   obtain⟨a',_,h⟩:=Option.bind_eq_some_iff.1 h
   obtain⟨l,_,rfl⟩:=Option.map_eq_some_iff.1 h
   rfl
  case snil=>cases h;rfl
  case loc i off=>
   split at h
   ·obtain⟨l,_,rfl⟩:=Option.map_eq_some_iff.1 h;rfl
   ·cases h
  case sl i off len=>
   split at h
   ·split at h
    ·obtain⟨l,_,rfl⟩:=Option.map_eq_some_iff.1 h;rfl
    ·cases h
   ·cases h
  all_goals cases h

theorem cells_of_one {d:D}(h:d.one=true):d.cells=[d]:=by cases d <;> first | rfl | simp[D.one] at h

theorem melt_cells {n:Nat}{e e':D}(h:melt bs n e=some e'):e'.cells.length=e.cells.length∧∀(j:Nat) (d':D),e'.cells[j]? = some d'→∃m d,m≤n∧e.cells[j]? = some d∧melt bs m d=some d':=by
 by_cases ho:e.one=true
 ·rw[cells_of_one ho,cells_of_one (melt_one h ho)]
  refine⟨rfl,fun j d' hj=>?_⟩
  cases j with
  | zero=>simp at hj;subst hj;exact⟨n,e,Nat.le_refl _,rfl,h⟩
  | succ j=>simp at hj
 ·cases n with
  | zero=>cases h
  | succ n=>
   cases e <;> simp only[melt] at h <;> try (simp[D.one] at ho;done)
   case agg cs=>
    obtain⟨l,hl,rfl⟩:=Option.map_eq_some_iff.1 h
    obtain⟨h1,h2⟩:=meltL_get hl
    refine⟨h1,fun j d' hj=>?_⟩
    obtain⟨x,g1,g2⟩:=h2 j d' hj
    exact⟨n,x,Nat.le_succ _,g1,g2⟩
   case tup cs=>
    obtain⟨l,hl,rfl⟩:=Option.map_eq_some_iff.1 h
    refine⟨rfl,fun j d' hj=>?_⟩
    cases j with
    | zero=>simp[D.cells] at hj;subst hj;exact⟨n+1,_,Nat.le_refl _,rfl,by simp only[melt];exact h⟩
    | succ j=>simp[D.cells] at hj
   all_goals cases h

theorem meltL_noid {f:D→Option D}(hf:∀x y,f x=some y→y.noid=true):∀{l l':List D},meltL f l=some l'→noids l'=true
 | [],l',h=>by cases h;rfl
 | x :: r,l',h=>by
  simp only[meltL,Option.bind_eq_some_iff,Option.map_eq_some_iff] at h
  obtain⟨y,h1,r',h2,rfl⟩:=h
  simp[noids,hf x y h1,meltL_noid hf h2]

theorem noids_take:∀{l:List D} (k:Nat),noids l=true→noids (l.take k)=true
 | [],k,_=>by simp[noids]
 | x :: r,0,_=>rfl
 | x :: r,k+1,h=>by
  simp only[noids,Bool.and_eq_true] at h
  simp[noids,h.1,noids_take k h.2]

theorem noids_drop:∀{l:List D} (k:Nat),noids l=true→noids (l.drop k)=true
 | [],k,_=>by simp[noids]
 | x :: r,0,h=>h
 | x :: r,k+1,h=>by
  simp only[noids,Bool.and_eq_true] at h
  exact noids_drop k h.2

theorem noids_chunks {sz:Nat}:∀{n:Nat} {l:List D},noids l=true→noids ((chunks sz n l).map .agg)=true
 | 0,_,_=>rfl
 | n+1,l,h=>by simp[chunks,noids,D.noid,noids_take sz h,noids_chunks (noids_drop sz h)]

theorem melt_noid:∀{n:Nat} {d d':D},melt bs n d=some d'→d'.noid=true
 | 0,_,_,h=>by cases h
 | n+1,d,d',h=>by
  have hL:∀{l l':List D},meltL (melt bs n) l=some l'→noids l'=true:=fun h=>meltL_noid (fun x y h=>melt_noid h) h
  cases d <;> simp only[melt] at h
  case v x=>cases h;rfl
  case agg cs=>obtain⟨l,hl,rfl⟩:=Option.map_eq_some_iff.1 h;simpa[D.noid] using hL hl
  case lst cs=>obtain⟨l,hl,rfl⟩:=Option.map_eq_some_iff.1 h;simpa[D.noid] using hL hl
  case ptr cs=>obtain⟨l,hl,rfl⟩:=Option.map_eq_some_iff.1 h;simpa[D.noid] using hL hl
  case tup cs=>obtain⟨l,hl,rfl⟩:=Option.map_eq_some_iff.1 h;simpa[D.noid] using hL hl
  case ifc t x=>obtain⟨l,hl,rfl⟩:=Option.map_eq_some_iff.1 h;simpa[D.noid] using melt_noid hl
  case fn f a b=>
   obtain⟨a',ha,h⟩:=Option.bind_eq_some_iff.1 h
   obtain⟨l,hl,rfl⟩:=Option.map_eq_some_iff.1 h
   simp[D.noid,hL ha,hL hl]
  case snil=>cases h;rfl
  case loc i off=>
   split at h
   ·obtain⟨l,hl,rfl⟩:=Option.map_eq_some_iff.1 h;simpa[D.noid] using hL hl
   ·cases h
  case sl i off len=>
   split at h
   ·split at h
    ·obtain⟨l,hl,rfl⟩:=Option.map_eq_some_iff.1 h
     simp only[D.noid]
     split
     ·exact hL hl
     ·exact noids_chunks (hL hl)
    ·cases h
   ·cases h
  all_goals cases h

theorem melt_rdG {w:World}{S:Sets}{foot F:Nat→Prop}(hst:StOk w S foot bs)(hF:∀(i:Nat) (e:TypeId) (sz:Nat) (cs:List D),bs[i]? = some (.blk e sz cs)→F (S.loc i)):∀(n m:Nat),m≤n→∀{d d':D} {v:Value},RdD w S v d→melt bs m d=some d'→RdD w (S.or fun b _=>F b) v d'
 | 0,m,hm,d,d',v,_,h=>by
  have:m=0:=by omega
  subst this
  cases h
 | n+1,0,_,d,d',v,_,h=>by cases h
 | n+1,m+1,hm,d,d',v,hr,h=>by
  have ih:=@melt_rdG w S foot F hst hF n
  have hmn:m≤n:=by omega
  have ofBlk:∀{i off k:Nat} {e:TypeId} {sz:Nat} {cs l:List D},bs[i]? = some (.blk e sz cs)→off+k≤cs.length→meltL (melt bs m) ((cs.drop off).take k)=some l→l.length=k∧∃val:Nat→Value,∀(j:Nat) (y:D),l[j]? = some y→y.one=true∧w.cell? ⟨S.loc i,off+j,none⟩=some (val j)∧RdD w (S.or fun b _=>F b) (val j) y:=by
   intro i off k e sz cs l hb hk hl
   obtain⟨hf,vs,⟨e2,hh,_⟩,hvs,hcl,hone,hrd,hns⟩:=hst.cells i e sz cs hb
   obtain⟨h1,h2⟩:=meltL_get hl
   refine⟨by rw[h1];simp;omega,fun j=>vs.getD (off+j) undef,fun j y hj=>?_⟩
   obtain⟨x,g1,g2⟩:=h2 j y hj
   have hjk:j<k:=by
    have:=(List.getElem?_eq_some_iff.1 g1).1
    simp at this
    omega
   rw[List.getElem?_take_of_lt hjk,List.getElem?_drop] at g1
   have hlt:off+j<vs.size:=by omega
   have hv:vs[off+j]? = some (vs.getD (off+j) undef):=by simp[Array.getD_eq_getD_getElem?,hlt]
   exact⟨melt_one g2 (hone _ _ g1),by rw[cell_heap hh];exact hv,ih m hmn (hrd _ _ _ hv g1) g2⟩
  cases d <;> simp only[melt] at h
  case v x=>cases h;cases hr with | v hp=>exact .v hp
  case agg cs=>
   obtain⟨l,hl,rfl⟩:=Option.map_eq_some_iff.1 h
   obtain⟨h1,h2⟩:=meltL_get hl
   cases hr with
   | agg hs ho hh=>
    refine .agg (by rw[hs,h1]) (fun i y hi=>?_) fun i u y hu hi=>?_
    ·obtain⟨x,g1,g2⟩:=h2 i y hi
     exact melt_one g2 (ho i x g1)
    ·obtain⟨x,g1,g2⟩:=h2 i y hi
     exact ih m hmn (hh i u x hu g1) g2
  case lst cs=>
   obtain⟨l,hl,rfl⟩:=Option.map_eq_some_iff.1 h
   obtain⟨h1,h2⟩:=meltL_get hl
   cases hr with
   | nil=>cases hl;exact .nil
   | emp hm'=>cases hl;exact .emp hm'
   | @lst b off len cap size es val hs hc hx hz ho hS hw hh=>
    have hc':∀(i:Nat) (e':D) (j:Nat) (d':D),l[i]? = some e'→e'.cells[j]? = some d'→∃e k d,cs[i]? = some e∧e.cells[j]? = some d∧k≤n∧melt bs k d=some d':=by
     intro i e' j d' hi hj
     obtain⟨e,g1,g2⟩:=h2 i e' hi
     obtain⟨_,g3⟩:=melt_cells g2
     obtain⟨k,d,g4,g5,g6⟩:=g3 j d' hj
     exact⟨e,k,d,g1,g5,by omega,g6⟩
    refine .lst (size:=size) (val:=val) (by rw[hs,h1]) hc hx (fun i e' hi=>?_) (fun i e' j d' hi hj=>?_) (fun i e' j d' hi hj=>?_) (fun i e' j d' hi hj=>?_) fun i e' j d' hi hj=>?_
    ·obtain⟨e,g1,g2⟩:=h2 i e' hi
     rw[(melt_cells g2).1]
     exact hz i e g1
    ·obtain⟨e,k,d,g1,g2,g3,g4⟩:=hc' i e' j d' hi hj
     exact melt_one g4 (ho i e j d g1 g2)
    ·obtain⟨e,k,d,g1,g2,g3,g4⟩:=hc' i e' j d' hi hj
     exact .inl (hS i e j d g1 g2)
    ·obtain⟨e,k,d,g1,g2,g3,g4⟩:=hc' i e' j d' hi hj
     exact hw i e j d g1 g2
    ·obtain⟨e,k,d,g1,g2,g3,g4⟩:=hc' i e' j d' hi hj
     exact ih k g3 (hh i e j d g1 g2) g4
  case ptr cs=>
   obtain⟨l,hl,rfl⟩:=Option.map_eq_some_iff.1 h
   obtain⟨h1,h2⟩:=meltL_get hl
   cases hr with
   | @ptr b off cs val ho hS hw hh=>
    refine .ptr (val:=val) (fun j y hj=>?_) (fun j y hj=>?_) (fun j y hj=>?_) fun j y hj=>?_
    ·obtain⟨x,g1,g2⟩:=h2 j y hj
     exact melt_one g2 (ho j x g1)
    ·obtain⟨x,g1,g2⟩:=h2 j y hj
     exact .inl (hS j x g1)
    ·obtain⟨x,g1,g2⟩:=h2 j y hj
     exact hw j x g1
    ·obtain⟨x,g1,g2⟩:=h2 j y hj
     exact ih m hmn (hh j x g1) g2
  case tup cs=>
   obtain⟨l,hl,rfl⟩:=Option.map_eq_some_iff.1 h
   obtain⟨h1,h2⟩:=meltL_get hl
   cases hr with
   | tup hs hh=>
    refine .tup (by rw[hs,h1]) fun i u y hu hi=>?_
    obtain⟨x,g1,g2⟩:=h2 i y hi
    exact ih m hmn (hh i u x hu g1) g2
  case ifc t x=>
   obtain⟨y,hy,rfl⟩:=Option.map_eq_some_iff.1 h
   cases hr with
   | ifc hh=>exact .ifc (ih m hmn hh hy)
  case fn f a b=>
   obtain⟨a',ha,h⟩:=Option.bind_eq_some_iff.1 h
   obtain⟨b',hb,rfl⟩:=Option.map_eq_some_iff.1 h
   obtain⟨a1,a2⟩:=meltL_get ha
   obtain⟨b1,b2⟩:=meltL_get hb
   cases hr with
   | fn hs hs' hh hh'=>
    refine .fn (by rw[hs,a1]) (by rw[hs',b1]) (fun i u y hu hi=>?_) fun i u y hu hi=>?_
    ·obtain⟨x,g1,g2⟩:=a2 i y hi
     exact ih m hmn (hh i u x hu g1) g2
    ·obtain⟨x,g1,g2⟩:=b2 i y hi
     exact ih m hmn (hh' i u x hu g1) g2
  case snil=>cases h;cases hr with | snil=>exact .nil
  case loc i off=>
   split at h
   ·rename_i e sz cs hb
    obtain⟨l,hl,rfl⟩:=Option.map_eq_some_iff.1 h
    cases hr with
    | loc hi=>
     by_cases ho:off≤cs.length
     ·have hl':meltL (melt bs m) ((cs.drop off).take (cs.length-off))=some l:=by rw[List.take_of_length_le (by simp)];exact hl
      obtain⟨_,val,hv⟩:=ofBlk hb (by omega) hl'
      have hf:=hF i e sz cs hb
      exact .ptr (val:=val) (fun j y hj=>(hv j y hj).1) (fun j y hj=>.inr hf) (fun j y hj=>(hv j y hj).2.1) fun j y hj=>(hv j y hj).2.2
     ·rw[List.drop_of_length_le (by omega)] at hl
      cases hl
      exact .ptr (val:=fun _=>undef) (fun j y hj=>by simp at hj) (fun j y hj=>by simp at hj) (fun j y hj=>by simp at hj) fun j y hj=>by simp at hj
   ·cases h
  case sl i off len=>
   split at h
   ·rename_i e sz cs hb
    split at h
    ·rename_i hle
     obtain⟨l,hl,rfl⟩:=Option.map_eq_some_iff.1 h
     obtain⟨hll,val,hv⟩:=ofBlk hb hle hl
     have hf:=hF i e sz cs hb
     have hel:∀(k:Nat) (x:D),(if sz=1 then l else(chunks sz len l).map .agg)[k]? = some x→x.cells.length=sz∧∀(j:Nat) (y:D),x.cells[j]? = some y→l[k*sz+j]? = some y:=by
      intro k x hx
      split at hx
      ·rename_i h1
       subst h1
       have ho:=(hv k x hx).1
       rw[cells_of_one ho]
       refine⟨rfl,fun j y hy=>?_⟩
       cases j with
       | zero=>simp at hy;subst hy;rw[Nat.mul_one];exact hx
       | succ j=>simp at hy
      ·have hk:k<len:=by
        have:=(List.getElem?_eq_some_iff.1 hx).1
        simpa[chunks_len] using this
       rw[List.getElem?_map,chunks_get hk] at hx
       cases hx
       have hks:k*sz+sz≤len*sz:=by
        have:=Nat.mul_le_mul_right sz (Nat.succ_le_of_lt hk)
        rw[Nat.succ_mul] at this
        exact this
       refine⟨by simp[D.cells];omega,fun j y hy=>?_⟩
       simp only[D.cells] at hy
       have hjs:j<sz:=by
        have:=(List.getElem?_eq_some_iff.1 hy).1
        simp at this
        omega
       rw[List.getElem?_take_of_lt hjs,List.getElem?_drop] at hy
       exact hy
     have hlen:(if sz=1 then l else(chunks sz len l).map D.agg).length=len:=by
      split
      ·rename_i h1;rw[hll,h1,Nat.mul_one]
      ·simp[chunks_len]
     cases hr with
     | sl hi hlc hcm h0=>
      refine .lst (size:=sz) (val:=fun k j=>val (k*sz+j)) hlen.symm hlc hcm (fun k x hx=>(hel k x hx).1) (fun k x j y hx hy=>(hv _ y ((hel k x hx).2 j y hy)).1) (fun k x j y hx hy=>.inr hf) (fun k x j y hx hy=>?_) fun k x j y hx hy=>(hv _ y ((hel k x hx).2 j y hy)).2.2
      have:=(hv _ y ((hel k x hx).2 j y hy)).2.1
      rw[Nat.add_assoc]
      exact this
    ·cases h
   ·cases h
  all_goals cases h

theorem melt_rd {w:World}{S:Sets}{foot:Nat→Prop}(hst:StOk w S foot bs)(n m:Nat)(hm:m≤n){d d':D}{v:Value}(hr:RdD w S v d)(h:melt bs m d=some d'):RdD w (S.or fun b _=>foot b) v d':=
 melt_rdG hst (fun i e sz cs hi=>(hst.cells i e sz cs hi).1) n m hm hr h

end

theorem FSpecWO.melt {P:Program}{f:FuncId}{ds bs':List D}{d d':D}{n:Nat}(h:FSpecWO P f (.st []) ds (.ret d) (.st bs'))(hds:noids ds=true)(hm:Go.Am.melt bs' n d=some d')(bs:List D):FSpecR P f (.st bs) ds d':=by
 intro w S foot bs0 vs hb hst hhold hfl hS hvl hrd
 let S0:Sets:={ mem:=S.mem,loc:=fun _=>0,n:=0,cap:=fun _=>0 }
 have hst0:StOk w S0 (fun _=>False) []:=⟨rfl,fun i e sz cs hi=>by simp at hi,fun b off hf=>hf.elim,fun i kvs hi=>by simp at hi,fun i j x y hi=>by simp at hi,fun i z hi=>by simp at hi⟩
 refine(h w S0 (fun _=>False) [] vs rfl hst0 (fun l rec hl=>by cases hl) (fun _ hf=>hf.elim) hS hvl fun i v x hv hx=>(hrd i v x hv hx).free (fun _ _ h=>h) (noids_get hds hx)).mono ?_
 rintro e w' ⟨v,S',foot',bs1,hends,hbs,hst',hK,hle,hos,htape,hout,hsz,hold,hft,hnew,hlt⟩
 cases hbs
 refine⟨v,{ S with mem:=(S'.or fun b _=>foot' b).mem },⟨hends.1,(melt_rd hst' n n (Nat.le_refl _) hends.2 hm).free (fun _ _ h=>h) (melt_noid hm)⟩,⟨⟨hos,htape.tape,hout,hsz,fun b hb=>hold b hb fun hf=>hf⟩,htape.dr⟩,⟨fun b o h=>.inl (hle.mem b o h),Nat.le_refl _,fun _ _=>rfl,fun _ _=>rfl,rfl,fun _ _=>rfl⟩,rfl,fun b o hs=>?_,fun b o hs=>?_⟩
 ·rcases hs with hs | hs
  ·rcases hnew b o hs with g | g | g
   ·exact .inl g
   ·exact g.elim
   ·exact .inr g
  ·exact .inr ((hft b hs).1.elim (fun h=>h.elim) id)
 ·rcases hs with hs | hs
  ·exact hlt b o hs
  ·exact(hft b hs).2

def isBase:List D→Bool
 | []=>true
 | [.glb _ _ _]=>true
 | _=>false

theorem base_st {w:World}{S:Sets}{foot:Nat→Prop}{g:Nat}{t:TypeId}{vs:List Value}{bs:List D}(hst:StOk w S foot (.glb g t vs :: bs))(hfl:∀b,foot b→b<w.heap.size) :
  S.loc 0=g∧foot g∧g<w.heap.size∧w.heap[g]? = some (.cells vs.toArray t (0,0))∧(∀off,¬S g off)∧StOk w { mem:=S.mem,loc:=fun _=>g,n:=1,cap:=fun _=>0 } (fun b=>b=g) [.glb g t vs]:=by
 obtain⟨hf,⟨hloc,hh,hpl⟩,hns⟩:=hst.its 0 _ rfl rfl
 rw[hloc] at hf hh hns
 refine⟨hloc,hf,hfl g hf,hh,hns,rfl,fun i e sz cs hi=>?_,fun b off hb hs=>?_,fun i kvs hi=>?_,fun i j x y hi hj _ _ _=>?_,fun i z hi hz=>?_⟩
 ·cases i <;> simp at hi
 ·subst hb;exact hns off hs
 ·cases i <;> simp at hi
 ·have:=(List.getElem?_eq_some_iff.1 hi).1
  have:=(List.getElem?_eq_some_iff.1 hj).1
  simp at *
  omega
 ·cases i with
  | zero=>simp at hi;subst hi;exact⟨rfl,⟨rfl,hh,hpl⟩,hns⟩
  | succ i=>simp at hi

theorem FSpecWO.meltB {P:Program}{f:FuncId}{ds bs':List D}{d d':D}{n:Nat}{g:Nat}{t:TypeId}{vs:List Value}(h:FSpecWO P f (.st [.glb g t vs]) ds (.ret d) (.st (.glb g t vs :: bs')))(hds:noids ds=true)(hm:Go.Am.melt (.glb g t vs :: bs') n d=some d')(bs:List D):FSpecR P f (.st (.glb g t vs :: bs)) ds d':=by
 intro w S foot bs0 ws hb hst hhold hfl hS hvl hrd
 cases hb
 obtain⟨hloc,hfg,hgl,hhg,hns,hst0⟩:=base_st hst hfl
 refine(h w _ _ _ ws rfl hst0 (fun l rec hl=>by cases hl) (fun b hb=>hb ▸ hgl) hS hvl fun i v x hv hx=>(hrd i v x hv hx).free (fun _ _ h=>h) (noids_get hds hx)).mono ?_
 rintro e w' ⟨v,S',foot',bs1,hends,hbs,hst',hK,hle,hos,htape,hout,hsz,hold,hft,hnew,hlt⟩
 cases hbs
 obtain⟨hf0,⟨hloc',hh',_⟩,_⟩:=hst'.its 0 _ rfl rfl
 rw[hloc'] at hh' hf0
 have hF:∀(i:Nat) (e:TypeId) (sz:Nat) (cs:List D),(D.glb g t vs :: bs')[i]? = some (.blk e sz cs)→foot' (S'.loc i)∧S'.loc i≠g:=by
  intro i e sz cs hi
  refine⟨(hst'.cells i e sz cs hi).1,fun he=>?_⟩
  have:=hst'.inj i 0 _ _ hi rfl rfl rfl (he.trans hloc'.symm)
  subst this
  simp at hi
 have hold':∀b,b<w.heap.size→w'.heap[b]? = w.heap[b]?:=by
  intro b hb
  by_cases hbg:b=g
  ·rw[hbg,hh',hhg]
  ·exact hold b hb hbg
 refine⟨v,{ S with mem:=(S'.or fun b _=>foot' b∧b≠g).mem },⟨hends.1,(melt_rdG hst' hF n n (Nat.le_refl _) hends.2 hm).free (fun _ _ h=>h) (melt_noid hm)⟩,⟨⟨hos,htape.tape,hout,hsz,fun b hb=>hold' b hb⟩,htape.dr⟩,⟨fun b o h=>.inl (hle.mem b o h),Nat.le_refl _,fun _ _=>rfl,fun _ _=>rfl,rfl,fun _ _=>rfl⟩,rfl,fun b o hs=>?_,fun b o hs=>?_⟩
 ·rcases hs with hs | hs
  ·rcases hnew b o hs with k | k | k
   ·exact .inl k
   ·exfalso
    subst k
    exact hst'.nos _ o hf0 hs
   ·exact .inr k
  ·rcases(hft b hs.1).1 with k | k
   ·exact absurd k hs.2
   ·exact .inr k
 ·rcases hs with hs | hs
  ·exact hlt b o hs
  ·exact(hft b hs.1).2

theorem FSpecWO.localizeB {P:Program}{f:FuncId}{ds bs':List D}{o:Out}{g:Nat}{t:TypeId}{vs:List Value}(h:FSpecWO P f (.st [.glb g t vs]) ds o (.st (.glb g t vs :: bs')))(hds:noids ds=true)(ho:o.noid=true)(bs:List D):FSpecO P f (.st (.glb g t vs :: bs)) ds o:=by
 intro w S foot bs0 ws hb hst hhold hfl hS hvl hrd
 cases hb
 obtain⟨hloc,hfg,hgl,hhg,hns,hst0⟩:=base_st hst hfl
 refine(h w _ _ _ ws rfl hst0 (fun l rec hl=>by cases hl) (fun b hb=>hb ▸ hgl) hS hvl fun i v x hv hx=>(hrd i v x hv hx).free (fun _ _ h=>h) (noids_get hds hx)).mono ?_
 rintro e w' ⟨v,S',foot',bs1,hends,hbs,hst',hK,hle,hos,htape,hout,hsz,hold,hft,hnew,hlt⟩
 cases hbs
 obtain⟨hf0,⟨hloc',hh',_⟩,_⟩:=hst'.its 0 _ rfl rfl
 rw[hloc'] at hh' hf0
 have hold':∀b,b<w.heap.size→w'.heap[b]? = w.heap[b]?:=by
  intro b hb
  by_cases hbg:b=g
  ·rw[hbg,hh',hhg]
  ·exact hold b hb hbg
 refine⟨v,{ S with mem:=S'.mem },?_,⟨⟨hos,htape.tape,hout,hsz,hold'⟩,htape.dr⟩,⟨hle.mem,Nat.le_refl _,fun _ _=>rfl,fun _ _=>rfl,rfl,fun _ _=>rfl⟩,rfl,fun b o hs=>?_,hlt⟩
 ·cases o with
  | ret d=>exact⟨hends.1,hends.2.free (fun _ _ h=>h) ho⟩
  | pan d=>exact⟨hends.1,hends.2.free (fun _ _ h=>h) ho⟩
 ·rcases hnew b o hs with k | k | k
  ·exact .inl k
  ·exfalso
   subst k
   exact hst'.nos _ o hf0 hs
  ·exact .inr k

theorem FSpecO.ofBase {P:Program}{f:FuncId}{ds:List D}{o:Out}{g:Nat}{t:TypeId}{vs:List Value}(h:FSpecO P f (.st [.glb g t vs]) ds o)(hds:noids ds=true)(ho:o.noid=true)(bs:List D):FSpecO P f (.st (.glb g t vs :: bs)) ds o:=by
 intro w S foot bs0 ws hb hst hhold hfl hS hvl hrd
 cases hb
 obtain⟨hloc,hfg,hgl,hhg,hns,hst0⟩:=base_st hst hfl
 refine(h w _ _ _ ws rfl hst0 (fun l rec hl=>by cases hl) (fun b hb=>hb ▸ hgl) hS hvl fun i v x hv hx=>(hrd i v x hv hx).free (fun _ _ h=>h) (noids_get hds hx)).mono ?_
 rintro e w' ⟨v,S',hends,hb,hle,hsn,hnew,hlt⟩
 refine⟨v,{ S with mem:=S'.mem },?_,hb,⟨hle.mem,Nat.le_refl _,fun _ _=>rfl,fun _ _=>rfl,rfl,fun _ _=>rfl⟩,rfl,hnew,hlt⟩
 cases o with
 | ret d=>exact⟨hends.1,hends.2.free (fun _ _ h=>h) ho⟩
 | pan d=>exact⟨hends.1,hends.2.free (fun _ _ h=>h) ho⟩

def begins (b0 bs:List D):Bool:=D.sames (bs.take b0.length) b0

theorem begins_eq {b0 bs:List D}(h:begins b0 bs=true):∃r,bs=b0++r:=⟨bs.drop b0.length,by
 have:=D.sames_eq h
 conv=>lhs;rw[←List.take_append_drop b0.length bs,this]⟩

theorem base_cases {b0:List D}(h:isBase b0=true):b0=[]∨∃g t vs,b0=[.glb g t vs]:=by
 unfold isBase at h
 split at h
 ·exact .inl rfl
 ·exact .inr ⟨_,_,_,rfl⟩
 ·cases h

theorem FSpecWO.meltA {P:Program}{f:FuncId}{b0 ds r:List D}{d d':D}{n:Nat}(h0:isBase b0=true)(h:FSpecWO P f (.st b0) ds (.ret d) (.st (b0++r)))(hds:noids ds=true)(hm:Go.Am.melt (b0++r) n d=some d')(bs:List D):FSpecR P f (.st (b0++bs)) ds d':=by
 rcases base_cases h0 with rfl | ⟨g,t,vs,rfl⟩
 ·exact FSpecWO.melt h hds hm bs
 ·exact FSpecWO.meltB h hds hm bs

theorem FSpecWO.localizeA {P:Program}{f:FuncId}{b0 ds r:List D}{o:Out}(h0:isBase b0=true)(h:FSpecWO P f (.st b0) ds o (.st (b0++r)))(hds:noids ds=true)(ho:o.noid=true)(bs:List D):FSpecO P f (.st (b0++bs)) ds o:=by
 rcases base_cases h0 with rfl | ⟨g,t,vs,rfl⟩
 ·exact h.localize hds ho bs
 ·exact h.localizeB hds ho bs

theorem FSpecO.ofA {P:Program}{f:FuncId}{b0 ds:List D}{o:Out}(h0:isBase b0=true)(h:FSpecO P f (.st b0) ds o)(hds:noids ds=true)(ho:o.noid=true)(bs:List D):FSpecO P f (.st (b0++bs)) ds o:=by
 rcases base_cases h0 with rfl | ⟨g,t,vs,rfl⟩
 ·exact h.ofNone hds bs
 ·exact h.ofBase hds ho bs

end
end Go.Am

/-
 An evaluator of the small language: what closed texts come to,by reckoning;and that it is right.
-/
namespace Go.Am
noncomputable section

/-! ## expressions that do not name one of the data -/

def E.noSym (k:Nat):E→Bool
 | .sym j=>j != k
 | .const _ | .nil | .tnil=>true
 | .un _ a | .conv _ a | .lenL a | .lenS a | .scal a | .cell _ a | .cells _ _ a | .aggN _ a | .one a | .mkptr a | .tget _ a | .rep _ a _ | .deref a | .ifc _ a | .padd _ a | .nn a | .fstid a=>a.noSym k
 | .bin _ _ a b | .idx a b | .idxN _ a b | .cons a b | .app _ _ a b | .lcons a b | .mkfn _ a b | .tcons a b | .mm _ a b | .eaddr _ a b | .ld _ _ a b | .newb _ _ a b | .newv _ _ a b | .fstsl a b | .frzv _ a b | .frzh a b | .guard a _ b=>a.noSym k&&b.noSym k
 | .sub _ a b c | .set a b _ c | .ite a b c | .sto _ a b c | .apph _ _ _ a b c | .apps a b c=>a.noSym k&&b.noSym k&&c.noSym k
 | .m4 _ a b c d=>a.noSym k&&b.noSym k&&c.noSym k&&d.noSym k

theorem E.eval_noSym {k : Nat} {env env' : List D} (he : ∀ j, j ≠ k → env'[j]? = env[j]?) : ∀ (x : E), x.noSym k = true → x.eval env' = x.eval env := by
  intro x
  induction x <;> intro h <;> simp only [E.noSym, Bool.and_eq_true, bne_iff_ne, ne_eq] at h <;> simp only [E.eval]
  case sym j => exact he j h
  case ite c a b hc ha hb => rw [hc h.1.1, ha h.1.2, hb h.2]
  case guard c w a hc ha => rw [hc h.1, ha h.2]
  all_goals first
    | rfl
    | (rename_i ha; rw [ha h])
    | (rename_i ha hb; rw [ha h.1, hb h.2])
    | (rename_i ha hb hc; rw [ha h.1.1, hb h.1.2, hc h.2])
    | (rename_i ha hb hc hd; rw [ha h.1.1.1, hb h.1.1.2, hc h.1.2, hd h.2])

/-! ## the evaluator -/

def isLpb:Option D→Option Bool
 | some (.lpb b)=>some b
 | _=>none

def isDead:Option D→Bool
 | some (.tup [])=>true
 | _=>false

theorem isLpb_eq {x:Option D}{b:Bool}(h:isLpb x=some b):x=some (.lpb b):=by
 unfold isLpb at h
 split at h
 ·cases h;rfl
 ·cases h

theorem isDead_eq {x:Option D}(h:isDead x=true):x=some (.tup []):=by
 unfold isDead at h
 split at h
 ·rfl
 ·cases h

structure Orc where
 R:FuncId→D→List D→Option Out
 W:FuncId→D→List D→Option (Out×D)
 F:FuncId→D→List D→Option D→Option D
 I:FuncId→D→List D→List D→(D→List D→Option (Bool×D))→Option (D×D)

abbrev Hand:=D→List D→Option (Bool×D)

def stepX (l:Nat)(q:Option Nat)(i:Nat):Sig→Option (Bool×D)
 | .jump l' [.st bs]=>if isDead bs[i]? = true then(if l'=l then some (true,.st (bs.set i (.lpb false))) else if l'=l+1∧q.isSome=true then some (false,.st (bs.set i (.lpb true))) else none) else none
 | .ret (.st bs)=>if isDead bs[i]? = true∧q=none then some (false,.st (bs.set i (.lpb true))) else none
 | _=>none

def evE (yk:Option (Nat×Hand))(env:List D)(x:E):Option D:=
 match yk with
 | none=>x.eval env
 | some (k,_)=>if x.noSym k=true then x.eval env else none

def evAll (yk:Option (Nat×Hand))(env:List D):List E→Option (List D)
 | []=>some []
 | x :: r=>(evE yk env x).bind fun d=>(evAll yk env r).map (d :: ·)

def evAct (yk:Option (Nat×Hand))(env:List D):List (E×Bool)→Option Bool
 | []=>some true
 | p :: r=>(evE yk env p.1).bind fun d=>(evAct yk env r).map fun b=>D.same d (.v (.bool p.2))&&b

def sigSame:Sig→Sig→Bool
 | .jump l a,.jump m b=>decide (l=m)&&D.sames a b
 | .ret a,.ret b=>D.same a b
 | .pan a b s c,.pan a' b' s' c'=>D.same a a'&&D.same b b'&&decide (s=s')&&D.sames c c'
 | _,_=>false

def evRounds (l:Nat)(body:List D→Option Sig):Nat→List D→Option Sig
 | 0,_=>none
 | n+1,ds=>(body ds).bind fun s=>match s with
  | .jump l' ds'=>if l'=l then evRounds l body n ds' else some s
  | _=>some s

def isYk (yk:Option (Nat×Hand))(x:E):Option Hand:=
 match yk,x with
 | some (k,hd),.sym j=>if j=k then some hd else none
 | _,_=>none

def evT (P : Program) (o : Orc) (n : Nat) (yk : Option (Nat × Hand)) : T → List D → Option Sig
  | .bind (.ev x) t, env => (evE yk env x).bind fun d => evT P o n yk t (env ++ [d])
  | .bind (.call act f h args rs) t, env => (evAct yk env act).bind fun b =>
      if b = true then (evE yk env h).bind fun st => (evAll yk env args).bind fun ds => (o.R f st ds).bind fun r => match r with
        | .ret d => if d.fits rs = true then evT P o n yk t (env ++ [d]) else none
        | .pan _ => none
      else evT P o n yk t (env ++ [D.undef])
  | .bind (.wcall act f h args rs) t, env => (evAct yk env act).bind fun b => (evE yk env h).bind fun st =>
      if b = true then (evAll yk env args).bind fun ds => (o.W f st ds).bind fun r => match r with
        | (.ret d, h') => if d.fits rs = true then evT P o n yk t (env ++ [.tup [d, h']]) else none
        | _ => none
      else evT P o n yk t (env ++ [.tup [D.undef, st]])
  | .bind (.callv act x h args rs) t, env => (evAct yk env act).bind fun b =>
      if b = true then (evE yk env x).bind fun xd => (evE yk env h).bind fun st => (evAll yk env args).bind fun ds => match xd with
        | .fn f us cs => if callable P f = true then (o.R f st (us ++ ds ++ cs)).bind fun r => match r with
          | .ret d => if d.fits rs = true then evT P o n yk t (env ++ [d]) else none
          | .pan _ => none
          else none
        | _ => none
      else evT P o n yk t (env ++ [D.undef])
  | .bind (.wcallv act x h args rs) t, env => (evAct yk env act).bind fun b => (evE yk env h).bind fun st =>
      if b = true then (evAll yk env args).bind fun ds => match isYk yk x with
        | some hd => (hd st ds).bind fun r => if (D.bool r.1).fits rs = true then evT P o n yk t (env ++ [.tup [.bool r.1, r.2]]) else none
        | none => (evE yk env x).bind fun xd => match xd with
          | .fn f us cs => if callable P f = true then (o.W f st (us ++ ds ++ cs)).bind fun r => match r with
            | (.ret d, h') => if d.fits rs = true then evT P o n yk t (env ++ [.tup [d, h']]) else none
            | _ => none
            else none
          | _ => none
      else evT P o n yk t (env ++ [.tup [D.undef, st]])
  | .ite c a b, env => (evE yk env c).bind fun d => match d with
    | .v (.bool true) => evT P o n yk a env
    | .v (.bool false) => evT P o n yk b env
    | _ => none
  | .loop l inits body, env => (evAll yk env inits).bind fun ds => evRounds l (fun ds => if ds.length = inits.length then evT P o n yk body (env ++ ds) else none) n ds
  | .join l m body rest, env => (evT P o n yk body env).bind fun s => match s with
    | .jump l' ds => if l' = l then (if ds.length = m then evT P o n yk rest (env ++ ds) else none) else some s
    | _ => some s
  | .jump l vals, env => (evAll yk env vals).map (.jump l)
  | .ret x, env => (evE yk env x).map .ret
  | .pan x h sl ks, env => (evE yk env x).bind fun d => (evE yk env h).bind fun st => (evAll yk env ks).map fun kd => .pan d st sl kd
  | .nilq x neg t, env => (evE yk env x).bind fun d => match d.isNil with
    | some [b] => evT P o n yk t (env ++ [.v (.bool (b != neg))])
    | some [b, c] => (evT P o n yk t (env ++ [.v (.bool (b != neg))])).bind fun s => (evT P o n yk t (env ++ [.v (.bool (c != neg))])).bind fun s' => if sigSame s s' = true then some s else none
    | _ => none
  | .pick _ _, _ => none
  | .dfr f keep caps res t, env => (evAll yk env caps).bind fun cds => if cds.all D.isLoc = true then (evT P o n yk t env).bind fun s => match s with
      | .ret (.tup [.tup kd, st]) => (o.F f st cds none).bind fun st' => (res.eval (kd ++ [st'])).map fun d' => .ret (.tup [d', st'])
      | .pan d st sl kd => if sl = keep then (o.F f st cds (some d)).bind fun st' => (res.eval (kd ++ [st'])).map fun d' => .ret (.tup [d', st']) else none
      | _ => none
    else none
  | .pcall f h args rs sl ks t, env => (evE yk env h).bind fun st => (evAll yk env args).bind fun ds => (o.R f st ds).bind fun r => match r with
    | .ret d => if d.fits rs = true then evT P o n yk t (env ++ [d]) else none
    | .pan d => (evAll yk env ks).map fun kd => .pan d st sl kd
  | .wpcall f h args rs sl ks t, env => (evE yk env h).bind fun st => (evAll yk env args).bind fun ds => (o.W f st ds).bind fun r => match r with
    | (.ret d, h') => if d.fits rs = true then evT P o n yk t (env ++ [.tup [d, h']]) else none
    | (.pan d, h') => (evAll yk env ks).map fun kd => .pan d h' sl kd
  | .wpcallv x h args rs sl ks t, env => (evE yk env x).bind fun xd => (evE yk env h).bind fun st => (evAll yk env args).bind fun ds => match xd with
    | .fn f us cs => if callable P f = true then (o.W f st (us ++ ds ++ cs)).bind fun r => match r with
      | (.ret d, h') => if d.fits rs = true then evT P o n yk t (env ++ [.tup [d, h']]) else none
      | (.pan d, h') => (evAll yk env ks).map fun kd => .pan d h' sl kd
      else none
    | _ => none
  | .rfor x h _ caps m l body rest, env => match yk with
    | some _ => none
    | none => (x.eval env).bind fun xd => (h.eval env).bind fun st => (evalAll env caps).bind fun cds => match xd with
      | .fn f us cs => if callable P f = true ∧ noyls cds = true then
          (o.I f st us cs fun st1 ds => if st1.noyl = true ∧ noyls ds = true ∧ ds.length = m then (match evT P o n none body (env ++ [st1] ++ ds) with
            | some (.jump l' [st2]) => if l' = l then some (true, st2) else none
            | _ => none) else none).bind fun r => if r.2.noyl = true then evT P o n none rest (env ++ [r.2]) else none
        else none
      | _ => none
  | .rforx x h _ caps m l q body rest quit, env => match yk with
    | some _ => none
    | none => (x.eval env).bind fun xd => (h.eval env).bind fun st => (evalAll env caps).bind fun _ => match xd, st with
      | .fn f us cs, .st bs => if callable P f = true then
          (o.I f (.st (bs ++ [.lpb false])) us cs fun st1 ds => match st1 with
            | .st bs1 => if isLpb bs1[bs.length]? = some false ∧ ds.length = m then (evT P o n none body (env ++ [.st (bs1.set bs.length (.tup []))] ++ ds)).bind (stepX l q bs.length) else none
            | _ => none).bind fun r => match r.2 with
            | .st bs2 => (isLpb bs2[bs.length]?).bind fun b => bif b then evT P o n none quit (env ++ [.st (bs2.set bs.length (.tup []))]) else evT P o n none rest (env ++ [.st (bs2.set bs.length (.tup []))])
            | _ => none
        else none
      | _, _ => none

theorem stepX_some {l i:Nat}{q:Option Nat}{s:Sig}{b:Bool}{st:D}(h:stepX l q i s=some (b,st)):∃bs,s=rsig l q b (.st bs)∧st=.st (bs.set i (.lpb !b))∧bs[i]? = some (.tup []):=by
 unfold stepX at h
 split at h
 ·rename_i l' bs
  split at h
  ·rename_i hd
   split at h
   ·rename_i hl
    cases h
    exact⟨bs,by rw[hl];rfl,rfl,isDead_eq hd⟩
   ·split at h
    ·rename_i hq
     cases h
     obtain⟨hl,hq⟩:=hq
     cases q with
     | none=>cases hq
     | some id=>exact⟨bs,by rw[hl];rfl,rfl,isDead_eq hd⟩
    ·cases h
  ·cases h
 ·rename_i bs
  split at h
  ·rename_i hd
   cases h
   exact⟨bs,by rw[hd.2];rfl,rfl,isDead_eq hd.1⟩
  ·cases h
 ·cases h

structure OrcOk (P:Program)(o:Orc):Prop where
 R:∀f st ds r,o.R f st ds=some r→FSpecO P f st ds r
 W:∀f st ds r h',o.W f st ds=some (r,h')→FSpecWO P f st ds r h'
 F:∀f st cs m st',o.F f st cs m=some st'→FSpecD P f st cs m st'
 I:∀f st us cs hd d st',o.I f st us cs hd=some (d,st')→∀y:D,y.one=true→(∀st ds b st',hd st ds=some (b,st')→CallV P y st ds (.bool b) st')→FSpecW P f st (us++[y]++cs) d st'

def YkOk (P:Program)(yk:Option (Nat×Hand))(env env':List D):Prop:=
 match yk with
 | none=>env'=env
 | some (k,hd)=>k<env.length∧env'.length=env.length∧(∀j,j≠k→env'[j]? = env[j]?)∧∃y:D,env'[k]? = some y∧y.one=true∧∀st ds b st',hd st ds=some (b,st')→CallV P y st ds (.bool b) st'

section
variable {P:Program} {o:Orc} {n:Nat} {yk:Option (Nat×Hand)}

theorem YkOk.more {env env':List D}(h:YkOk P yk env env')(ds:List D):YkOk P yk (env++ds) (env'++ds):=by
 unfold YkOk at h ⊢
 split
 ·rw[h]
 ·rename_i k hd
  obtain⟨h1,h2,h3,y,h4,h5,h6⟩:=h
  refine⟨by simp;omega,by simp[h2],fun j hj=>?_,y,by rw[List.getElem?_append_left (by omega)];exact h4,h5,h6⟩
  rcases Nat.lt_or_ge j env.length with hl | hl
  ·rw[List.getElem?_append_left (by omega),List.getElem?_append_left hl]
   exact h3 j hj
  ·rw[List.getElem?_append_right (by omega),List.getElem?_append_right hl,h2]

theorem evE_sound {env env':List D}(h:YkOk P yk env env'){x:E}{d:D}(hx:evE yk env x=some d):x.eval env'=some d:=by
 unfold evE at hx
 unfold YkOk at h
 split at hx
 ·rw[h];exact hx
 ·rename_i k hd
  split at hx
  ·rename_i hn
   rw[E.eval_noSym h.2.2.1 x hn]
   exact hx
  ·cases hx

theorem evAll_sound {env env':List D}(h:YkOk P yk env env'):∀{l:List E} {ds:List D},evAll yk env l=some ds→evalAll env' l=some ds
 | [],ds,hd=>by simpa[evAll,evalAll] using hd
 | x :: r,ds,hd=>by
  simp only[evAll,Option.bind_eq_some_iff,Option.map_eq_some_iff] at hd
  obtain⟨d,h1,ds',h2,rfl⟩:=hd
  simp only[evalAll,evE_sound h h1,evAll_sound h h2,Option.bind_some,Option.map_some]

theorem evAct_sound {env env':List D}(h:YkOk P yk env env'):∀{act:List (E×Bool)} {b:Bool},evAct yk env act=some b→(∀p,p∈act→∃d,p.1.eval env'=some d)∧(b=true↔actHolds env' act)
 | [],b,hb=>by
  simp only[evAct,Option.some.injEq] at hb
  subst hb
  exact⟨by simp,by simp[actHolds_nil]⟩
 | p :: r,b,hb=>by
  simp only[evAct,Option.bind_eq_some_iff,Option.map_eq_some_iff] at hb
  obtain⟨d,h1,b',h2,rfl⟩:=hb
  obtain⟨h3,h4⟩:=evAct_sound h h2
  have hx:=evE_sound h h1
  refine⟨fun q hq=>?_,?_⟩
  ·cases hq with
   | head=>exact⟨d,hx⟩
   | tail _ hq=>exact h3 q hq
  ·rw[Bool.and_eq_true,h4]
   constructor
   ·rintro⟨g1,g2⟩ q hq
    cases hq with
    | head=>rw[hx,D.same_eq g1]
    | tail _ hq=>exact g2 q hq
   ·intro g
    refine⟨?_,fun q hq=>g q (by simp[hq])⟩
    have:=g p (by simp)
    rw[hx] at this
    cases this
    simp[D.same,Value.same]

theorem sigSame_eq {s s':Sig}(h:sigSame s s'=true):s=s':=by
 unfold sigSame at h
 split at h
 ·simp only[Bool.and_eq_true,decide_eq_true_eq] at h;rw[h.1,D.sames_eq h.2]
 ·rw[D.same_eq h]
 ·simp only[Bool.and_eq_true,decide_eq_true_eq] at h;rw[D.same_eq h.1.1.1,D.same_eq h.1.1.2,h.1.2,D.sames_eq h.2]
 ·cases h

theorem evRounds_sound {l:Nat}{ev:List D→Option Sig}{body:List D→(Sig→Prop)→Prop}{s:Sig}(hb:∀ds s',ev ds=some s'→∀Q:Sig→Prop,Q s'→body ds Q):∀(n:Nat) (ds:List D),evRounds l ev n ds=some s→rounds l body (fun s'=>s'=s) n ds
 | 0,ds,h=>by simp[evRounds] at h
 | n+1,ds,h=>by
  simp only[evRounds,Option.bind_eq_some_iff] at h
  obtain⟨s1,h1,h2⟩:=h
  refine hb ds s1 h1 _ ?_
  cases s1 with
  | jump l' ds'=>
   simp only[catchL] at h2 ⊢
   split at h2
   ·rename_i e;rw[if_pos e];exact evRounds_sound hb n ds' h2
   ·rename_i e;rw[if_neg e];cases h2;rfl
  | ret d=>cases h2;rfl
  | pan d st sl kd=>cases h2;rfl

theorem isYk_sound {env env':List D}(h:YkOk P yk env env'){x:E}{hd:Hand}(hx:isYk yk x=some hd):∃y:D,x.eval env'=some y∧y.one=true∧∀st ds b st',hd st ds=some (b,st')→CallV P y st ds (.bool b) st':=by
 unfold isYk at hx
 split at hx
 ·rename_i k hd' j
  split at hx
  ·rename_i e
   cases hx
   subst e
   obtain⟨_,_,_,y,h4,h5,h6⟩:=h
   exact⟨y,h4,h5,h6⟩
  ·cases hx
 ·cases hx

theorem evT_sound (ho : OrcOk P o) : ∀ {t : T} {yk : Option (Nat × Hand)} {env env' : List D} {s : Sig}, YkOk P yk env env' → evT P o n yk t env = some s → den P t env' fun s' => s' = s := by
  intro t
  induction t with
  | bind b t ih =>
    intro yk env env' s hy h
    cases b with
    | ev x =>
      simp only [evT, Option.bind_eq_some_iff] at h
      obtain ⟨d, h1, h2⟩ := h
      exact ⟨d, evE_sound hy h1, ih (hy.more [d]) h2⟩
    | call act f hE args rs =>
      simp only [evT, Option.bind_eq_some_iff] at h
      obtain ⟨b, h1, h2⟩ := h
      obtain ⟨g1, g2⟩ := evAct_sound hy h1
      split at h2
      · obtain ⟨st, k1, ds, k2, r, k3, k4⟩ := (by simpa only [Option.bind_eq_some_iff] using h2 : ∃ st, evE yk env hE = some st ∧ ∃ ds, evAll yk env args = some ds ∧ ∃ r, o.R f st ds = some r ∧ _)
        split at k4
        · rename_i d
          split at k4
          · rename_i hf
            exact ⟨g1, d, fun _ => ⟨st, ds, evE_sound hy k1, evAll_sound hy k2, ho.R _ _ _ _ k3, hf⟩, ih (hy.more [d]) k4⟩
          · cases k4
        · cases k4
      · rename_i hb
        exact ⟨g1, D.undef, fun ha => absurd (g2.2 ha) hb, ih (hy.more _) h2⟩
    | wcall act f hE args rs =>
      simp only [evT, Option.bind_eq_some_iff] at h
      obtain ⟨b, h1, st, k1, h2⟩ := h
      obtain ⟨g1, g2⟩ := evAct_sound hy h1
      split at h2
      · rename_i hb
        obtain ⟨ds, k2, r, k3, k4⟩ := (by simpa only [Option.bind_eq_some_iff] using h2 : ∃ ds, evAll yk env args = some ds ∧ ∃ r, o.W f st ds = some r ∧ _)
        split at k4
        · rename_i d h'
          split at k4
          · rename_i hf
            exact ⟨g1, st, d, h', evE_sound hy k1, fun _ => ⟨ds, evAll_sound hy k2, ho.W _ _ _ _ _ k3, hf⟩, fun hn => absurd (g2.1 hb) hn, ih (hy.more _) k4⟩
          · cases k4
        · cases k4
      · rename_i hb
        exact ⟨g1, st, D.undef, st, evE_sound hy k1, fun ha => absurd (g2.2 ha) hb, fun _ => rfl, ih (hy.more _) h2⟩
    | callv act x hE args rs =>
      simp only [evT, Option.bind_eq_some_iff] at h
      obtain ⟨b, h1, h2⟩ := h
      obtain ⟨g1, g2⟩ := evAct_sound hy h1
      split at h2
      · obtain ⟨xd, k0, st, k1, ds, k2, k3⟩ := (by simpa only [Option.bind_eq_some_iff] using h2 : ∃ xd, evE yk env x = some xd ∧ ∃ st, evE yk env hE = some st ∧ ∃ ds, evAll yk env args = some ds ∧ _)
        split at k3
        · rename_i f us cs
          split at k3
          · rename_i hcl
            obtain ⟨r, k3, k4⟩ := Option.bind_eq_some_iff.1 k3
            split at k4
            · rename_i d
              split at k4
              · rename_i hf
                exact ⟨g1, d, fun _ => ⟨f, us, cs, st, ds, evE_sound hy k0, hcl, evE_sound hy k1, evAll_sound hy k2, ho.R _ _ _ _ k3, hf⟩, ih (hy.more [d]) k4⟩
              · cases k4
            · cases k4
          · cases k3
        · cases k3
      · rename_i hb
        exact ⟨g1, D.undef, fun ha => absurd (g2.2 ha) hb, ih (hy.more _) h2⟩
    | wcallv act x hE args rs =>
      simp only [evT, Option.bind_eq_some_iff] at h
      obtain ⟨b, h1, st, k1, h2⟩ := h
      obtain ⟨g1, g2⟩ := evAct_sound hy h1
      split at h2
      · rename_i hb
        obtain ⟨ds, k2, h2⟩ := Option.bind_eq_some_iff.1 h2
        split at h2
        · rename_i hd hyk
          obtain ⟨y, y1, y2, y3⟩ := isYk_sound hy hyk
          obtain ⟨⟨b', h'⟩, k3, k4⟩ := Option.bind_eq_some_iff.1 h2
          split at k4
          · rename_i hf
            exact ⟨g1, st, .bool b', h', evE_sound hy k1, fun _ => ⟨y, ds, y1, evAll_sound hy k2, y3 _ _ _ _ k3, hf⟩, fun hn => absurd (g2.1 hb) hn, ih (hy.more _) k4⟩
          · cases k4
        · obtain ⟨xd, k0, h2⟩ := Option.bind_eq_some_iff.1 h2
          split at h2
          · rename_i f us cs
            split at h2
            · rename_i hcl
              obtain ⟨r, k3, k4⟩ := Option.bind_eq_some_iff.1 h2
              split at k4
              · rename_i d h'
                split at k4
                · rename_i hf
                  exact ⟨g1, st, d, h', evE_sound hy k1, fun _ => ⟨_, ds, evE_sound hy k0, evAll_sound hy k2, ⟨hcl, ho.W _ _ _ _ _ k3⟩, hf⟩, fun hn => absurd (g2.1 hb) hn, ih (hy.more _) k4⟩
                · cases k4
              · cases k4
            · cases h2
          · cases h2
      · rename_i hb
        exact ⟨g1, st, D.undef, st, evE_sound hy k1, fun ha => absurd (g2.2 ha) hb, fun _ => rfl, ih (hy.more _) h2⟩
  | ite c a b iha ihb =>
    intro yk env env' s hy h
    simp only [evT, Option.bind_eq_some_iff] at h
    obtain ⟨d, h1, h2⟩ := h
    have hx := evE_sound hy h1
    split at h2
    · exact ⟨true, hx, (fun _ => iha hy h2), fun e => (by cases e)⟩
    · exact ⟨false, hx, (fun e => (by cases e)), fun _ => ihb hy h2⟩
    · cases h2
  | loop l inits body ih =>
    intro yk env env' s hy h
    simp only [evT, Option.bind_eq_some_iff] at h
    obtain ⟨ds, h1, h2⟩ := h
    refine ⟨ds, evAll_sound hy h1, n, evRounds_sound (fun ds s' hs Q hq => ?_) n ds h2⟩
    split at hs
    · rename_i hl
      exact ⟨hl, den_mono (fun s1 e => by rw [e]; exact hq) (ih (hy.more ds) hs)⟩
    · cases hs
  | join l m body rest ihb ihr =>
    intro yk env env' s hy h
    simp only [evT, Option.bind_eq_some_iff] at h
    obtain ⟨s1, h1, h2⟩ := h
    show den P body env' _
    refine den_mono (fun s' e => ?_) (ihb hy h1)
    subst e
    cases s' with
    | jump l' ds =>
      simp only [catchL] at h2 ⊢
      split at h2
      · rename_i e
        rw [if_pos e]
        split at h2
        · rename_i hl
          exact ⟨hl, ihr (hy.more ds) h2⟩
        · cases h2
      · rename_i e; rw [if_neg e]; cases h2; rfl
    | ret d => cases h2; rfl
    | pan d st sl kd => cases h2; rfl
  | jump l vals =>
    intro yk env env' s hy h
    simp only [evT, Option.map_eq_some_iff] at h
    obtain ⟨ds, h1, rfl⟩ := h
    exact ⟨ds, evAll_sound hy h1, rfl⟩
  | ret x =>
    intro yk env env' s hy h
    simp only [evT, Option.map_eq_some_iff] at h
    obtain ⟨d, h1, rfl⟩ := h
    exact ⟨d, evE_sound hy h1, rfl⟩
  | pan x hE sl ks =>
    intro yk env env' s hy h
    simp only [evT, Option.bind_eq_some_iff, Option.map_eq_some_iff] at h
    obtain ⟨d, h1, st, h2, kd, h3, rfl⟩ := h
    exact ⟨d, st, kd, evE_sound hy h1, evE_sound hy h2, evAll_sound hy h3, rfl⟩
  | pick x t ih =>
    intro yk env env' s hy h
    simp [evT] at h
  | nilq x neg t ih =>
    intro yk env env' s hy h
    simp only [evT, Option.bind_eq_some_iff] at h
    obtain ⟨d, h1, h2⟩ := h
    split at h2
    · rename_i b hb
      refine ⟨d, [b], evE_sound hy h1, hb, fun b' hb' => ?_⟩
      simp at hb'
      subst hb'
      exact ih (hy.more _) h2
    · rename_i b c hb
      obtain ⟨s1, k1, h2⟩ := Option.bind_eq_some_iff.1 h2
      obtain ⟨s2, k2, h2⟩ := Option.bind_eq_some_iff.1 h2
      split at h2
      · rename_i hs
        cases h2
        have := sigSame_eq hs
        subst this
        refine ⟨d, [b, c], evE_sound hy h1, hb, fun b' hb' => ?_⟩
        simp at hb'
        rcases hb' with rfl | rfl
        · exact ih (hy.more _) k1
        · exact ih (hy.more _) k2
      · cases h2
    · cases h2
  | dfr f keep caps res t ih =>
    intro yk env env' s hy h
    simp only [evT, Option.bind_eq_some_iff] at h
    obtain ⟨cds, h1, h2⟩ := h
    split at h2
    · rename_i hloc
      obtain ⟨s1, k1, h2⟩ := Option.bind_eq_some_iff.1 h2
      refine ⟨cds, evAll_sound hy h1, hloc, den_mono (fun s' e => ?_) (ih hy k1)⟩
      subst e
      split at h2
      · rename_i kd st
        obtain ⟨st', k2, h2⟩ := Option.bind_eq_some_iff.1 h2
        obtain ⟨d', k3, rfl⟩ := Option.map_eq_some_iff.1 h2
        exact ⟨st', d', ho.F _ _ _ _ _ k2, k3, rfl⟩
      · rename_i d st sl kd
        split at h2
        · rename_i hk
          obtain ⟨st', k2, h2⟩ := Option.bind_eq_some_iff.1 h2
          obtain ⟨d', k3, rfl⟩ := Option.map_eq_some_iff.1 h2
          exact ⟨hk, st', d', ho.F _ _ _ _ _ k2, k3, rfl⟩
        · cases h2
      · cases h2
    · cases h2
  | pcall f hE args rs sl ks t ih =>
    intro yk env env' s hy h
    simp only [evT, Option.bind_eq_some_iff] at h
    obtain ⟨st, h1, ds, h2, r, h3, h4⟩ := h
    refine ⟨st, ds, r, evE_sound hy h1, evAll_sound hy h2, ho.R _ _ _ _ h3, ?_⟩
    cases r with
    | ret d =>
      simp only at h4
      split at h4
      · rename_i hf; exact ⟨hf, ih (hy.more _) h4⟩
      · cases h4
    | pan d =>
      simp only at h4
      obtain ⟨kd, k1, rfl⟩ := Option.map_eq_some_iff.1 h4
      exact ⟨kd, evAll_sound hy k1, rfl⟩
  | wpcall f hE args rs sl ks t ih =>
    intro yk env env' s hy h
    simp only [evT, Option.bind_eq_some_iff] at h
    obtain ⟨st, h1, ds, h2, ⟨r, h'⟩, h3, h4⟩ := h
    refine ⟨st, ds, r, h', evE_sound hy h1, evAll_sound hy h2, ho.W _ _ _ _ _ h3, ?_⟩
    cases r with
    | ret d =>
      simp only at h4
      split at h4
      · rename_i hf; exact ⟨hf, ih (hy.more _) h4⟩
      · cases h4
    | pan d =>
      simp only at h4
      obtain ⟨kd, k1, rfl⟩ := Option.map_eq_some_iff.1 h4
      exact ⟨kd, evAll_sound hy k1, rfl⟩
  | wpcallv x hE args rs sl ks t ih =>
    intro yk env env' s hy h
    simp only [evT, Option.bind_eq_some_iff] at h
    obtain ⟨xd, h0, st, h1, ds, h2, h3⟩ := h
    split at h3
    · rename_i f us cs
      split at h3
      · rename_i hcl
        obtain ⟨⟨r, h'⟩, h3, h4⟩ := Option.bind_eq_some_iff.1 h3
        refine ⟨f, us, cs, st, ds, r, h', evE_sound hy h0, hcl, evE_sound hy h1, evAll_sound hy h2, ho.W _ _ _ _ _ h3, ?_⟩
        cases r with
        | ret d =>
          simp only at h4
          split at h4
          · rename_i hf; exact ⟨hf, ih (hy.more _) h4⟩
          · cases h4
        | pan d =>
          simp only at h4
          obtain ⟨kd, k1, rfl⟩ := Option.map_eq_some_iff.1 h4
          exact ⟨kd, evAll_sound hy k1, rfl⟩
      · cases h3
    · cases h3
  | rfor x hE sl caps m l body rest ihb ihr =>
    intro yk env env' s hy h
    cases yk with
    | some _ => simp [evT] at h
    | none =>
    have hy' : env' = env := hy
    subst hy'
    simp only [evT, Option.bind_eq_some_iff] at h
    obtain ⟨xd, h1, st, h2, cds, h3, h4⟩ := h
    split at h4
    · rename_i f us cs
      split at h4
      · rename_i hc
        obtain ⟨⟨d, st'⟩, k1, k2⟩ := Option.bind_eq_some_iff.1 h4
        split at k2
        · rename_i hn
          refine ⟨f, us, cs, st, cds, d, st', h1, hc.1, h2, h3, hc.2, hn, fun mm rec hspec => ho.I _ _ _ _ _ _ _ k1 _ rfl fun st1 ds b st2 hh => ?_, ihr (yk := none) rfl k2⟩
          split at hh
          · rename_i hcc
            split at hh
            · rename_i l' st3 hev
              split at hh
              · rename_i hl
                cases hh
                subst hl
                exact ⟨rfl, hspec st1 ds st2 hcc.1 hcc.2.1 hcc.2.2 (ihb (yk := none) rfl hev)⟩
              · cases hh
            · cases hh
          · cases hh
        · cases k2
      · cases h4
    · cases h4
  | rforx x hE sl caps m l q body rest quit ihb ihr ihq =>
    intro yk env env' s hy h
    cases yk with
    | some _ => simp [evT] at h
    | none =>
    have hy' : env' = env := hy
    subst hy'
    simp only [evT, Option.bind_eq_some_iff] at h
    obtain ⟨xd, h1, st, h2, cds, h3, h4⟩ := h
    split at h4
    · rename_i f us cs bs
      split at h4
      · rename_i hc
        obtain ⟨⟨d, st'⟩, k1, k2⟩ := Option.bind_eq_some_iff.1 h4
        split at k2
        · rename_i bs2 hst
          obtain ⟨b, k3, k4⟩ := Option.bind_eq_some_iff.1 k2
          have k3 := isLpb_eq k3
          have hlt := (List.getElem?_eq_some_iff.1 k3).1
          refine ⟨f, us, cs, bs, cds, d, bs2.set bs.length (.tup []), b, h1, hc, h2, h3, by rw [List.getElem?_set, if_pos rfl, if_pos hlt], fun rec hspec => ?_, fun e => ?_, fun e => ?_⟩
          · have e : (bs2.set bs.length (.tup [])).set bs.length (.lpb b) = bs2 := by
              rw [List.set_set]
              apply List.ext_getElem?
              intro j
              rw [List.getElem?_set]
              split
              · rename_i e; subst e; first | rw [if_pos hlt, k3] | exact k3.symm
              · rfl
            rw [e]
            simp only at hst
            subst hst
            refine ho.I _ _ _ _ _ _ _ k1 _ rfl fun st1 ds b' st2 hh => ?_
            try simp only at hh
            split at hh
            · split at hh
              · rename_i hcc
                obtain ⟨s', g1, g2⟩ := Option.bind_eq_some_iff.1 hh
                obtain ⟨bs3, e1, e2, e3⟩ := stepX_some g2
                subst e2
                exact ⟨b', rfl, hspec _ ds b' bs3 (isLpb_eq hcc.1) hcc.2 e3 (by rw [← e1]; exact ihb (yk := none) rfl g1)⟩
              · cases hh
            · cases hh
          · subst e; exact ihr (yk := none) rfl k4
          · subst e; exact ihq (yk := none) rfl k4
        · cases k2
      · cases h4
    · cases h4

end

/-! ## a table of functions -/

inductive Kn where
 | plain | defers (keep:List Nat) | recovers
 deriving Inhabited

structure Entry where
 f:FuncId
 kn:Kn
 cf:StCfg
 own:Bool
 ones:List Bool
 t:T
 nd:Bool:=false

def EntOk (P:Program)(e:Entry):Prop:=
 ∃fn,P.funcs[e.f]? = some fn∧paramOnes P fn=e.ones∧match e.kn with
  | .plain=>compileFn P e.cf fn=some e.t
  | .defers keep=>compileDefer P e.cf fn keep=some e.t
  | .recovers=>compileR P e.cf fn=some e.t

theorem EntOk.ofPlain {P:Program}{f:FuncId}{cf:StCfg}{own:Bool}{ones:List Bool}{t:T}{fn:Func}(hf:P.funcs[f]? = some fn)(h1:paramOnes P fn=ones)(h2:compileFn P cf fn=some t):EntOk P { f:=f,kn:=.plain,cf:=cf,own:=own,ones:=ones,t:=t }:=⟨fn,hf,h1,h2⟩

theorem EntOk.ofDefers {P:Program}{f:FuncId}{cf:StCfg}{own:Bool}{ones:List Bool}{t:T}{fn:Func}{keep:List Nat}(hf:P.funcs[f]? = some fn)(h1:paramOnes P fn=ones)(h2:compileDefer P cf fn keep=some t):EntOk P { f:=f,kn:=.defers keep,cf:=cf,own:=own,ones:=ones,t:=t }:=⟨fn,hf,h1,h2⟩

theorem EntOk.ofRecovers {P:Program}{f:FuncId}{cf:StCfg}{own:Bool}{ones:List Bool}{t:T}{fn:Func}(hf:P.funcs[f]? = some fn)(h1:paramOnes P fn=ones)(h2:compileR P cf fn=some t):EntOk P { f:=f,kn:=.recovers,cf:=cf,own:=own,ones:=ones,t:=t }:=⟨fn,hf,h1,h2⟩

abbrev Tab:=List Entry

def tabAt:Tab→FuncId→Option Entry
 | [],_=>none
 | e :: r,f=>if e.f=f then some e else tabAt r f

theorem tabAt_some:∀{tb:Tab} {f:FuncId} {e:Entry},tabAt tb f=some e→e∈tb∧e.f=f
 | [],_,_,h=>by simp[tabAt] at h
 | e' :: r,f,e,h=>by
  simp only[tabAt] at h
  split at h
  ·rename_i hf;cases h;exact⟨by simp,hf⟩
  ·obtain⟨h1,h2⟩:=tabAt_some h;exact⟨by simp[h1],h2⟩

def tabR:Tab→FuncId→Option Entry
 | [],_=>none
 | e :: r,f=>if e.f=f then(if e.own||e.cf.ro then some e else tabR r f) else tabR r f

theorem tabR_some:∀{tb:Tab} {f:FuncId} {e:Entry},tabR tb f=some e→e∈tb∧e.f=f
 | [],_,_,h=>by simp[tabR] at h
 | e' :: r,f,e,h=>by
  simp only[tabR] at h
  split at h
  ·rename_i hf
   split at h
   ·cases h;exact⟨by simp,hf⟩
   ·obtain⟨h1,h2⟩:=tabR_some h;exact⟨by simp[h1],h2⟩
  ·obtain⟨h1,h2⟩:=tabR_some h;exact⟨by simp[h1],h2⟩

def tabW:Tab→FuncId→Option Entry
 | [],_=>none
 | e :: r,f=>if e.f=f then(if e.own then tabW r f else some e) else tabW r f

theorem tabW_some:∀{tb:Tab} {f:FuncId} {e:Entry},tabW tb f=some e→e∈tb∧e.f=f
 | [],_,_,h=>by simp[tabW] at h
 | e' :: r,f,e,h=>by
  simp only[tabW] at h
  split at h
  ·rename_i hf
   split at h
   ·obtain⟨h1,h2⟩:=tabW_some h;exact⟨by simp[h1],h2⟩
   ·cases h;exact⟨by simp,hf⟩
  ·obtain⟨h1,h2⟩:=tabW_some h;exact⟨by simp[h1],h2⟩

def Kn.calls:Kn→Bool
 | .recovers=>false
 | _=>true

def evFn (P:Program)(o:Orc)(n:Nat)(e:Entry)(bs ds:List D):Option (Out×List D):=
 if e.kn.calls=true∧argsFit e.ones ds=true then match evT P o n none e.t (ds++[.st bs]) with
  | some (.ret (.tup [d,.st bs']))=>some (.ret d,bs')
  | some (.pan d (.st bs') _ _)=>some (.pan d,bs')
  | _=>none
 else none

def Kn.isPlain:Kn→Bool
 | .plain=>true
 | _=>false

/-! ## functions whose runs differ,as a map's entries come in any order -/

def allO {α β:Type}(f:α→Option (List β)):List α→Option (List β)
 | []=>some []
 | x :: r=>(f x).bind fun a=>(allO f r).map (a++·)

theorem allO_mem {α β:Type}{f:α→Option (List β)}:∀{l:List α} {ys:List β},allO f l=some ys→∀x,x∈l→∃zs,f x=some zs∧∀z,z∈zs→z∈ys
 | [],ys,_,x,hx=>by simp at hx
 | a :: r,ys,h,x,hx=>by
  simp only[allO,Option.bind_eq_some_iff,Option.map_eq_some_iff] at h
  obtain⟨zs,h1,ws,h2,rfl⟩:=h
  rcases List.mem_cons.1 hx with rfl | hx
  ·exact⟨zs,h1,fun z hz=>List.mem_append_left _ hz⟩
  ·obtain⟨vs,g1,g2⟩:=allO_mem h2 x hx
   exact⟨vs,g1,fun z hz=>List.mem_append_right _ (g2 z hz)⟩

def roundsN (l:Nat)(body:List D→Option (List Sig)):Nat→List D→Option (List Sig)
 | 0,_=>none
 | n+1,ds=>(body ds).bind (allO fun s=>match s with
  | .jump l' ds'=>if l'=l then roundsN l body n ds' else some [s]
  | _=>some [s])

def evN (P:Program)(o:Orc)(n:Nat):T→List D→Option (List Sig)
 | .bind (.ev x) t,env=>(x.eval env).bind fun d=>evN P o n t (env++[d])
 | .bind (.call [] f h args rs) t,env=>(h.eval env).bind fun st=>(evalAll env args).bind fun ds=>(o.R f st ds).bind fun r=>match r with
   | .ret d=>if d.fits rs=true then evN P o n t (env++[d]) else none
   | .pan _=>none
 | .bind (.wcall [] f h args rs) t,env=>(h.eval env).bind fun st=>(evalAll env args).bind fun ds=>(o.W f st ds).bind fun r=>match r with
  |(.ret d,h')=>if d.fits rs=true then evN P o n t (env++[.tup [d,h']]) else none
   | _=>none
 | .ite c a b,env=>(c.eval env).bind fun d=>match d with
  | .v (.bool true)=>evN P o n a env
  | .v (.bool false)=>evN P o n b env
  | _=>none
 | .loop l inits body,env=>(evalAll env inits).bind fun ds=>roundsN l (fun ds=>if ds.length=inits.length then evN P o n body (env++ds) else none) n ds
 | .join l m body rest,env=>(evN P o n body env).bind (allO fun s=>match s with
  | .jump l' ds=>if l'=l then(if ds.length=m then evN P o n rest (env++ds) else none) else some [s]
  | _=>some [s])
 | .jump l vals,env=>(evalAll env vals).map fun ds=>[.jump l ds]
 | .ret x,env=>(x.eval env).map fun d=>[.ret d]
 | .pick x t,env=>(x.eval env).bind fun d=>match d with
  | .lst ys=>allO (fun y=>match y with
   | .tup [d,st]=>evN P o n t (env++[.tup [d,st]])
   | _=>some []) ys
  | _=>none
 | _,_=>none

theorem roundsN_sound {l:Nat}{body:List D→Option (List Sig)}{bd:List D→(Sig→Prop)→Prop}{Q:Sig→Prop}(hb:∀ds ss,body ds=some ss→∀Q:Sig→Prop,(∀s,s∈ss→Q s)→bd ds Q) :
  ∀(n:Nat) (ds:List D) (ss:List Sig),roundsN l body n ds=some ss→(∀s,s∈ss→Q s)→rounds l bd Q n ds
 | 0,ds,ss,h,_=>by cases h
 | n+1,ds,ss,h,hq=>by
  simp only[roundsN,Option.bind_eq_some_iff] at h
  obtain⟨s1,h1,h2⟩:=h
  refine hb ds s1 h1 _ fun s hs=>?_
  obtain⟨zs,g1,g2⟩:=allO_mem h2 s hs
  cases s with
  | jump l' ds'=>
   simp only[catchL] at g1 ⊢
   split at g1
   ·rename_i e;rw[if_pos e];exact roundsN_sound hb n ds' zs g1 fun s hs=>hq s (g2 s hs)
   ·rename_i e;rw[if_neg e];cases g1;exact hq _ (g2 _ (by simp))
  | ret d=>cases g1;exact hq _ (g2 _ (by simp))
  | pan d st sl kd=>cases g1;exact hq _ (g2 _ (by simp))

theorem evN_sound {P:Program}{o:Orc}{n:Nat}(ho:OrcOk P o):∀{t:T} {env:List D} {ss:List Sig} {Q:Sig→Prop},evN P o n t env=some ss→(∀s,s∈ss→Q s)→den P t env Q:=by
 intro t
 induction t with
 | bind b t ih=>
  intro env ss Q h hq
  cases b with
  | ev x=>
   simp only[evN,Option.bind_eq_some_iff] at h
   obtain⟨d,h1,h2⟩:=h
   exact⟨d,h1,ih h2 hq⟩
  | call act f hE args rs=>
   cases act with
   | cons _ _=>simp[evN] at h
   | nil=>
   simp only[evN,Option.bind_eq_some_iff] at h
   obtain⟨st,h1,ds,h2,r,h3,h4⟩:=h
   cases r with
   | pan _=>cases h4
   | ret d=>
    simp only at h4
    split at h4
    ·rename_i hf
     exact⟨by simp,d,fun _=>⟨st,ds,h1,h2,ho.R _ _ _ _ h3,hf⟩,ih h4 hq⟩
    ·cases h4
  | wcall act f hE args rs=>
   cases act with
   | cons _ _=>simp[evN] at h
   | nil=>
   simp only[evN,Option.bind_eq_some_iff] at h
   obtain⟨st,h1,ds,h2,⟨r,h'⟩,h3,h4⟩:=h
   cases r with
   | pan _=>cases h4
   | ret d=>
    simp only at h4
    split at h4
    ·rename_i hf
     exact⟨by simp,st,d,h',h1,fun _=>⟨ds,h2,ho.W _ _ _ _ _ h3,hf⟩,fun hn=>absurd (fun p hp=>by cases hp) hn,ih h4 hq⟩
    ·cases h4
  | callv act x hE args rs=>simp[evN] at h
  | wcallv act x hE args rs=>simp[evN] at h
 | ite c a b iha ihb=>
  intro env ss Q h hq
  simp only[evN,Option.bind_eq_some_iff] at h
  obtain⟨d,h1,h2⟩:=h
  split at h2
  ·exact⟨true,h1,(fun _=>iha h2 hq),fun e=>(by cases e)⟩
  ·exact⟨false,h1,(fun e=>(by cases e)),fun _=>ihb h2 hq⟩
  ·cases h2
 | loop l inits body ih=>
  intro env ss Q h hq
  simp only[evN,Option.bind_eq_some_iff] at h
  obtain⟨ds,h1,h2⟩:=h
  refine⟨ds,h1,n,roundsN_sound (fun ds s1 hs Q hQ=>?_) n ds ss h2 hq⟩
  split at hs
  ·rename_i hl
   exact⟨hl,ih hs hQ⟩
  ·cases hs
 | join l m body rest ihb ihr=>
  intro env ss Q h hq
  simp only[evN,Option.bind_eq_some_iff] at h
  obtain⟨s1,h1,h2⟩:=h
  show den P body env _
  refine ihb h1 fun s hs=>?_
  obtain⟨zs,g1,g2⟩:=allO_mem h2 s hs
  cases s with
  | jump l' ds=>
   simp only[catchL] at g1 ⊢
   split at g1
   ·rename_i e
    rw[if_pos e]
    split at g1
    ·rename_i hl
     exact⟨hl,ihr g1 fun s hs=>hq s (g2 s hs)⟩
    ·cases g1
   ·rename_i e;rw[if_neg e];cases g1;exact hq _ (g2 _ (by simp))
  | ret d=>cases g1;exact hq _ (g2 _ (by simp))
  | pan d st sl kd=>cases g1;exact hq _ (g2 _ (by simp))
 | jump l vals=>
  intro env ss Q h hq
  simp only[evN,Option.map_eq_some_iff] at h
  obtain⟨ds,h1,rfl⟩:=h
  exact⟨ds,h1,hq _ (by simp)⟩
 | ret x=>
  intro env ss Q h hq
  simp only[evN,Option.map_eq_some_iff] at h
  obtain⟨d,h1,rfl⟩:=h
  exact⟨d,h1,hq _ (by simp)⟩
 | pick x t ih=>
  intro env ss Q h hq
  simp only[evN,Option.bind_eq_some_iff] at h
  obtain⟨d,h1,h2⟩:=h
  split at h2
  ·rename_i ys
   refine⟨ys,h1,fun d st hy=>?_⟩
   obtain⟨zs,g1,g2⟩:=allO_mem h2 _ hy
   exact ih g1 fun s hs=>hq s (g2 s hs)
  ·cases h2
 | _=>intro env ss Q h hq;simp[evN] at h

def killB:Nat→List D→List D
 | _,[]=>[]
 | 0,x :: r=>(match x with | .itb _ _ _ | .sit _ _ | .lpb _=>.tup [] | x=>x) :: killB 0 r
 | k+1,x :: r=>x :: killB k r

theorem killB_wk:∀(k:Nat) (bs:List D),(killB k bs).length=bs.length∧∀(i:Nat) (x:D),(killB k bs)[i]? = some x→x.live=true→bs[i]? = some x
 | _,[]=>by simp[killB]
 | 0,y :: r=>by
  obtain⟨h1,h2⟩:=killB_wk 0 r
  refine⟨by simp[killB,h1],fun i x hx hl=>?_⟩
  cases i with
  | zero=>
   simp only[killB,List.getElem?_cons_zero,Option.some.injEq] at hx
   subst hx
   split at hl <;> first | (cases hl;done) | rfl
  | succ i=>simp only[killB,List.getElem?_cons_succ] at hx ⊢;exact h2 i x hx hl
 | k+1,y :: r=>by
  obtain⟨h1,h2⟩:=killB_wk k r
  refine⟨by simp[killB,h1],fun i x hx hl=>?_⟩
  cases i with
  | zero=>simpa[killB] using hx
  | succ i=>simp only[killB,List.getElem?_cons_succ] at hx ⊢;exact h2 i x hx hl

def oneOut (k:Nat):List Sig→Option (D×List D)
 | []=>none
 | [.ret (.tup [d,.st bs])]=>some (d,killB k bs)
 | .ret (.tup [d,.st bs]) :: r=>(oneOut k r).bind fun x=>if D.same x.1 d=true∧D.sames x.2 (killB k bs)=true then some x else none
 | _=>none

theorem oneOut_all {k:Nat}:∀{ss:List Sig} {d:D} {bs:List D},oneOut k ss=some (d,bs)→∀s,s∈ss→∃bs1,s=.ret (.tup [d,.st bs1])∧bs=killB k bs1
 | [],_,_,h,s,hs=>by simp at hs
 | s0 :: r,d,bs,h,s,hs=>by
  unfold oneOut at h
  split at h
  ·cases h
  ·rename_i d0 bs0 e
   cases e
   cases h
   simp at hs
   exact⟨bs0,hs,rfl⟩
  ·rename_i d0 bs0 r' _ e
   cases e
   obtain⟨⟨d1,bs1⟩,h1,h2⟩:=Option.bind_eq_some_iff.1 h
   split at h2
   ·rename_i hc
    cases h2
    obtain⟨g1,g2⟩:=hc
    have g1:=D.same_eq g1
    have g2:=D.sames_eq g2
    simp only at g1 g2
    subst g1
    rcases List.mem_cons.1 hs with rfl | hs
    ·exact⟨bs0,rfl,g2⟩
    ·exact oneOut_all h1 s hs
   ·cases h2
  ·cases h

def evFnN (P:Program)(o:Orc)(n:Nat)(e:Entry)(bs ds:List D):Option (Out×List D):=
 if e.kn.isPlain=true∧argsFit e.ones ds=true then(evN P o n e.t (ds++[.st bs])).bind fun ss=>(oneOut bs.length ss).map fun x=>(.ret x.1,x.2) else none

theorem StOk.weakB {w:World}{S:Sets}{foot:Nat→Prop}{bs bs':List D}(h:StOk w S foot bs)(h1:bs'.length=bs.length)(h2:∀(i:Nat) (x:D),bs'[i]? = some x→x.live=true→bs[i]? = some x):StOk w S foot bs' where
 n:=h.n.trans h1.symm
 cells i e sz cs hi:=h.cells i e sz cs (h2 i _ hi rfl)
 nos:=h.nos
 maps i kvs hi:=h.maps i kvs (h2 i _ hi rfl)
 inj i j x y hi hj hx hy:=h.inj i j x y (h2 i x hi hx) (h2 j y hj hy) hx hy
 its i z hi hz:=h.its i z (h2 i _ hi (D.isIt_live hz)) hz

theorem evFnN_sound {P:Program}{o:Orc}{n:Nat}(ho:OrcOk P o){e:Entry}(he:EntOk P e){bs ds bs':List D}{r:Out}(h:evFnN P o n e bs ds=some (r,bs')):FSpecWO P e.f (.st bs) ds r (.st bs'):=by
 unfold evFnN at h
 split at h
 ·rename_i hc
  obtain⟨hk,hfit⟩:=hc
  obtain⟨ss,h1,h2⟩:=Option.bind_eq_some_iff.1 h
  obtain⟨⟨d,bs2⟩,h3,h4⟩:=Option.map_eq_some_iff.1 h2
  cases h4
  obtain⟨fn,hf,hones,hcomp⟩:=he
  rw[←hones] at hfit
  have hkp:e.kn=.plain:=by
   cases hkn:e.kn with
   | plain=>rfl
   | defers _=>rw[hkn] at hk;cases hk
   | recovers=>rw[hkn] at hk;cases hk
  rw[hkp] at hcomp
  have hden:=evN_sound (Q:=EndsAs (fun d' st=>d'=d∧∃bs1,st=.st bs1∧bs2=killB bs.length bs1) (fun _ _=>False)) ho h1 fun s hs=>by
   obtain⟨bs1,rfl,hb⟩:=oneOut_all h3 s hs
   exact⟨rfl,bs1,rfl,hb⟩
  intro w S foot bs0 vs hb hst hhold hfl hS hvl hrd
  cases hb
  refine(calls_of_den (may:=foot) hf hcomp hfit hden hst hhold hfl hS hvl hrd (fun _ h=>.inr h) fun _ h=>h).mono ?_
  rintro x w' ⟨o',v,S',foot',bs3,hq,hends,hl⟩
  cases o' with
  | pan x=>exact hq.elim
  | ret x=>
   obtain⟨rfl,bs1,e1,rfl⟩:=hq
   cases e1
   obtain⟨k1,k2⟩:=killB_wk bs.length bs3
   exact⟨v,S',foot',_,hends,rfl,hl.st.weakB k1 k2,fun b o hs=>World.cell?_of_block (a:=⟨b,o,none⟩) (hl.old b (hS b o hs) fun hf=>hst.nos b o hf hs),hl.le,hl.os,hl.tape,hl.output,hl.size,hl.old,hl.ft,hl.new,hl.lt⟩
 ·cases h

def sameOut (bs:List D):Option (Out×List D)→Option Out
 | some (r,bs')=>if D.sames bs' bs=true then some r else none
 | none=>none

def ownOut (b0:List D):Option (Out×List D)→Option Out
 | some (.ret d,bs)=>if begins b0 bs=true then(melt bs 50 d).map .ret else none
 | some (.pan d,bs)=>if begins b0 bs=true∧d.noid=true then some (.pan d) else none
 | none=>none

theorem sameOut_some {bs:List D}{x:Option (Out×List D)}{r:Out}(h:sameOut bs x=some r):x=some (r,bs):=by
 unfold sameOut at h
 split at h
 ·split at h
  ·rename_i hs;cases h;rw[D.sames_eq hs]
  ·cases h
 ·cases h

theorem ownOut_some {P:Program}{f:FuncId}{b0 ds:List D}{x:Option (Out×List D)}{r:Out}(h0:isBase b0=true)(h:ownOut b0 x=some r)(hx:∀r' bs',x=some (r',bs')→FSpecWO P f (.st b0) ds r' (.st bs'))(hds:noids ds=true)(bs:List D):FSpecO P f (.st (b0++bs)) ds r:=by
 unfold ownOut at h
 split at h
 ·rename_i d bs'
  split at h
  ·rename_i hb
   obtain⟨q,rfl⟩:=begins_eq hb
   obtain⟨d',h1,rfl⟩:=Option.map_eq_some_iff.1 h
   exact FSpecWO.meltA h0 (hx _ _ rfl) hds h1 bs
  ·cases h
 ·split at h
  ·rename_i hb
   obtain⟨q,rfl⟩:=begins_eq hb.1
   cases h;exact(hx _ _ rfl).localizeA h0 hds hb.2 bs
  ·cases h
 ·cases h

def nextOrc (P:Program)(tb:Tab)(n:Nat)(b0:List D)(o:Orc):Orc where
 R:=fun f st ds=>match st,tabR tb f with
  | .st bs,some e=>if e.own=true then(if noids ds=true∧isBase b0=true∧begins b0 bs=true then ownOut b0 (evFn P o n e b0 ds) else none)
   else if e.cf.ro=true∧e.kn.isPlain=true then sameOut bs (evFn P o n e bs ds) else none
  | _,_=>none
 W:=fun f st ds=>match st,tabW tb f with
  | .st bs,some e=>(bif e.nd then evFnN P o n e bs ds else evFn P o n e bs ds).map fun x=>(x.1,.st x.2)
  | _,_=>none
 F:=fun f st cs m=>match st,tabAt tb f with
  | .st bs,some e=>(match e.kn with
   | .recovers=>if argsFit e.ones cs=true∧(recD m).one=true then(match evT P o n none e.t (cs++[.st bs,recD m]) with
    | some (.ret (.tup [_,.st bs']))=>some (.st bs')
    | _=>none) else none
   | _=>none)
  | _,_=>none
 I:=fun f st us cs hd=>match st,tabAt tb f with
  | .st bs,some e=>(match e.kn with
   | .plain=>if argsFit e.ones (us++[D.undef]++cs)=true∨argsFit e.ones (us++[.snil]++cs)=true then(match evT P o n (some (us.length,hd)) e.t (us++[.snil]++cs++[.st bs]) with
    | some (.ret (.tup [d,.st bs']))=>some (d,.st bs')
    | _=>none) else none
   | _=>none)
  | _,_=>none

section
variable {P:Program} {o:Orc} {n:Nat} {tb:Tab} {b0:List D}

theorem evFn_sound (ho:OrcOk P o){e:Entry}(he:EntOk P e){bs ds bs':List D}{r:Out}(h:evFn P o n e bs ds=some (r,bs')):FSpecWO P e.f (.st bs) ds r (.st bs')∧(e.cf.ro=true→e.kn.isPlain=true→bs'=bs→FSpecO P e.f (.st bs) ds r):=by
 unfold evFn at h
 split at h
 ·rename_i hc
  obtain⟨hk,hfit⟩:=hc
  obtain⟨fn,hf,hones,hcomp⟩:=he
  rw[←hones] at hfit
  have key:∀s,evT P o n none e.t (ds++[.st bs])=some s→(∀s',s'=s→EndsIn r (.st bs') s')→FSpecWO P e.f (.st bs) ds r (.st bs')∧(e.cf.ro=true→e.kn.isPlain=true→bs'=bs→FSpecO P e.f (.st bs) ds r):=by
   intro s hs hend
   have hden:=den_mono hend (evT_sound ho (yk:=none) rfl hs)
   cases hkn:e.kn with
   | plain=>
    rw[hkn] at hcomp
    exact⟨fspecWO hf hcomp hfit hden,fun hro _ hb=>by subst hb;exact fspecO hro hf hcomp hfit hden⟩
   | defers keep=>
    rw[hkn] at hcomp
    exact⟨fspecDefer hf hcomp hfit hden,fun _ h=>(by simp[Kn.isPlain] at h)⟩
   | recovers=>
    rw[hkn] at hk
    simp[Kn.calls] at hk
  split at h
  ·rename_i d bs1 hs
   cases h
   exact key _ hs fun s' e=>e
  ·rename_i d bs1 sl kd hs
   cases h
   exact key _ hs fun s' e=>⟨sl,kd,e⟩
  ·cases h
 ·cases h

theorem nextOrc_ok (htb:∀e,e∈tb→EntOk P e)(ho:OrcOk P o):OrcOk P (nextOrc P tb n b0 o):=by
 refine⟨fun f st ds r h=>?_,fun f st ds r h' h=>?_,fun f st cs m st' h=>?_,fun f st us cs hd d st' h y hy hsp=>?_⟩
 ·simp only[nextOrc] at h
  split at h
  ·rename_i bs e he
   obtain⟨h1,rfl⟩:=tabR_some he
   split at h
   ·split at h
    ·rename_i hn
     obtain⟨q,rfl⟩:=begins_eq hn.2.2
     exact ownOut_some hn.2.1 h (fun r' bs' hev=>(evFn_sound ho (htb e h1) hev).1) hn.1 q
    ·cases h
   ·split at h
    ·rename_i hro
     exact(evFn_sound ho (htb e h1) (sameOut_some h)).2 hro.1 hro.2 rfl
    ·cases h
  ·cases h
 ·simp only[nextOrc] at h
  split at h
  ·rename_i bs e he
   obtain⟨h1,rfl⟩:=tabW_some he
   obtain⟨⟨r',bs'⟩,h2,h3⟩:=Option.map_eq_some_iff.1 h
   cases h3
   cases hnd:e.nd with
   | true=>rw[hnd] at h2;exact evFnN_sound ho (htb e h1) h2
   | false=>rw[hnd] at h2;exact(evFn_sound ho (htb e h1) h2).1
  ·cases h
 ·simp only[nextOrc] at h
  split at h
  ·rename_i bs e he
   obtain⟨h1,rfl⟩:=tabAt_some he
   obtain⟨fn,hf,hones,hcomp⟩:=htb e h1
   split at h
   ·rename_i hkn
    rw[hkn] at hcomp
    split at h
    ·rename_i hc
     split at h
     ·rename_i d0 bs' hs
      cases h
      exact fspecD hf hcomp (by rw[hones];exact hc.1) hc.2 (evT_sound ho (yk:=none) rfl hs)
     ·cases h
    ·cases h
   ·cases h
  ·cases h
 ·simp only[nextOrc] at h
  split at h
  ·rename_i bs e he
   obtain⟨h1,rfl⟩:=tabAt_some he
   obtain⟨fn,hf,hones,hcomp⟩:=htb e h1
   split at h
   ·rename_i hkn
    rw[hkn] at hcomp
    split at h
    ·rename_i hc
     split at h
     ·rename_i d0 bs' hs
      cases h
      have hy1:y.one=true:=hy
      have hfit:∀(z:D),z.one=true∨z.one=false→∀(ones:List Bool) (us:List D),argsFit ones (us++[z]++cs)=true→argsFit ones (us++[y]++cs)=true:=by
       intro z _ ones
       induction ones with
       | nil=>intro us hh;cases us <;> simp[argsFit] at hh
       | cons b ones ih=>
        intro us hh
        cases us with
        | nil=>
         simp only[List.nil_append,List.cons_append,argsFit,Bool.and_eq_true,Bool.or_eq_true,Bool.not_eq_true'] at hh ⊢
         exact⟨.inr hy1,hh.2⟩
        | cons u us=>
         simp only[List.cons_append,argsFit,Bool.and_eq_true] at hh ⊢
         exact⟨hh.1,ih us hh.2⟩
      refine fspecWO hf hcomp (by rw[hones];exact hc.elim (hfit _ (by simp[D.one]) _ _) (hfit _ (by simp[D.one]) _ _)) (evT_sound ho (yk:=some (us.length,hd)) (env:=us++[.snil]++cs++[.st bs]) ⟨by simp,by simp,fun j hj=>?_,y,by simp,hy,hsp⟩ hs)
      rcases Nat.lt_trichotomy j us.length with hl | hl | hl
      ·simp only[List.append_assoc]
       rw[List.getElem?_append_left hl,List.getElem?_append_left hl]
      ·exact absurd hl hj
      ·simp only[List.append_assoc]
       rw[List.getElem?_append_right (Nat.le_of_lt hl),List.getElem?_append_right (Nat.le_of_lt hl)]
       obtain⟨m,hm⟩:∃m,j-us.length=m+1:=⟨j-us.length-1,by omega⟩
       rw[hm]
       simp
     ·cases h
    ·cases h
   ·cases h
  ·cases h

end

def Orc.or (a b:Orc):Orc where
 R:=fun f st ds=>match a.R f st ds with | some r=>some r | none=>b.R f st ds
 W:=fun f st ds=>match a.W f st ds with | some r=>some r | none=>b.W f st ds
 F:=fun f st cs m=>match a.F f st cs m with | some r=>some r | none=>b.F f st cs m
 I:=fun f st us cs hd=>match a.I f st us cs hd with | some r=>some r | none=>b.I f st us cs hd

theorem OrcOk.or {P:Program}{a b:Orc}(ha:OrcOk P a)(hb:OrcOk P b):OrcOk P (a.or b):=by
 refine⟨fun f st ds r h=>?_,fun f st ds r h' h=>?_,fun f st cs m st' h=>?_,fun f st us cs hd d st' h=>?_⟩ <;> simp only[Orc.or] at h <;> split at h
 ·rename_i e;cases h;exact ha.R _ _ _ _ e
 ·exact hb.R _ _ _ _ h
 ·rename_i e;cases h;exact ha.W _ _ _ _ _ e
 ·exact hb.W _ _ _ _ _ h
 ·rename_i e;cases h;exact ha.F _ _ _ _ _ e
 ·exact hb.F _ _ _ _ _ h
 ·rename_i e;cases h;exact ha.I _ _ _ _ _ _ _ e
 ·exact hb.I _ _ _ _ _ _ _ h

def runOrcB (P:Program)(tb:Tab)(n:Nat)(b0:List D)(o:Orc):Nat→Orc
 | 0=>o
 | k+1=>(nextOrc P tb n b0 (runOrcB P tb n b0 o k)).or o

theorem runOrcB_ok {P:Program}{tb:Tab}{n:Nat}{b0:List D}{o:Orc}(htb:∀e,e∈tb→EntOk P e)(ho:OrcOk P o):∀k,OrcOk P (runOrcB P tb n b0 o k)
 | 0=>ho
 | k+1=>(nextOrc_ok htb (runOrcB_ok htb ho k)).or ho

end
end Go.Am

/-
 Steps for proofs about texts.
-/
namespace Go.Am

section
variable {P:Program} {t a b:T} {bs:List Bind} {env:List D} {Q:Sig→Prop} {x g:E} {d:D}

theorem at_jump {l:Nat}{K:List D→Prop}{ds:List D}(k:K ds):catchL l K Q (.jump l ds):=by simp only[catchL,if_pos];exact k

theorem over_jump {l m:Nat}{K:List D→Prop}{ds:List D}(h:m≠l)(k:Q (.jump m ds)):catchL l K Q (.jump m ds):=by simp only[catchL,if_neg h];exact k

theorem rounds_succ {l:Nat}{body:List D→(Sig→Prop)→Prop}(hm:∀ds (R R':Sig→Prop),(∀s,R s→R' s)→body ds R→body ds R'):∀(n:Nat) (ds:List D),rounds l body Q n ds→rounds l body Q (n+1) ds
 | 0,_,h=>h.elim
 | n+1,ds,h=>hm ds _ _ (fun s hs=>by
   cases s with
   | jump l' ds'=>
    simp only[catchL] at hs ⊢
    split
    ·rename_i e;rw[if_pos e] at hs;exact rounds_succ hm n ds' hs
    ·rename_i e;rw[if_neg e] at hs;exact hs
   | ret d=>exact hs
   | pan d st sl kd=>exact hs) h

theorem rounds_le {l:Nat}{body:List D→(Sig→Prop)→Prop}(hm:∀ds (R R':Sig→Prop),(∀s,R s→R' s)→body ds R→body ds R'){n m:Nat}(h:n≤m){ds:List D}(hr:rounds l body Q n ds):rounds l body Q m ds:=by
 induction h with
 | refl=>exact hr
 | step _ ih=>exact rounds_succ hm _ _ ih

theorem rounds_inv {l:Nat}{body:List D→(Sig→Prop)→Prop}(hm:∀ds (R R':Sig→Prop),(∀s,R s→R' s)→body ds R→body ds R')(I:Nat→List D→Prop)(hb:∀k ds,I k ds→∀R:List D→Prop,(∀k' ds',k'<k→I k' ds'→R ds')→body ds (catchL l R Q)):∀(k:Nat) (ds:List D),I k ds→rounds l body Q (k+1) ds:=by
 intro k
 induction k using Nat.strongRecOn with
 | _ k ih=>
  intro ds hI
  cases k with
  | zero=>exact hb 0 ds hI _ fun k' _ h=>absurd h (Nat.not_lt_zero _)
  | succ k=>
   refine hb (k+1) ds hI _ fun k' ds' hk' hI'=>?_
   exact rounds_le hm (by omega) (ih k' hk' ds' hI')

end
end Go.Am

/-
 More steps for proofs about texts: chains of conditions,loops over a range,the store.
-/
namespace Go.Am

/-! ## chains -/

def E.beqG:E→E→Bool
 | .sym i,.sym j=>i==j
 | .tget i a,.tget j b=>i==j&&a.beqG b
 | .cell i a,.cell j b=>i==j&&a.beqG b
 | _,_=>false

theorem E.beqG_eq:∀{a b:E},a.beqG b=true→a=b
 | .sym i,b,h=>by cases b <;> simp[E.beqG] at h;rw[h]
 | .tget i a,b,h=>by
  cases b <;> simp[E.beqG] at h
  rw[h.1,E.beqG_eq h.2]
 | .cell i a,b,h=>by
  cases b <;> simp[E.beqG] at h
  rw[h.1,E.beqG_eq h.2]
 | .const _,b,h | .nil,b,h | .tnil,b,h | .un _ _,b,h | .conv _ _,b,h | .lenL _,b,h | .lenS _,b,h | .scal _,b,h | .cells _ _ _,b,h | .aggN _ _,b,h | .one _,b,h | .mkptr _,b,h | .rep _ _ _,b,h | .deref _,b,h | .ifc _ _,b,h | .padd _ _,b,h | .nn _,b,h | .fstid _,b,h
 | .bin _ _ _ _,b,h | .idx _ _,b,h | .idxN _ _ _,b,h | .cons _ _,b,h | .app _ _ _ _,b,h | .lcons _ _,b,h | .mkfn _ _ _,b,h | .tcons _ _,b,h | .mm _ _ _,b,h | .eaddr _ _ _,b,h | .ld _ _ _ _,b,h | .newb _ _ _ _,b,h | .newv _ _ _ _,b,h | .fstsl _ _,b,h | .frzv _ _ _,b,h | .frzh _ _,b,h | .guard _ _ _,b,h
 | .sub _ _ _ _,b,h | .set _ _ _ _,b,h | .ite _ _ _,b,h | .sto _ _ _ _,b,h | .apph _ _ _ _ _ _,b,h | .apps _ _ _,b,h | .m4 _ _ _ _ _,b,h=>by cases b <;> simp[E.beqG] at h

def symLt (n : Nat) : List (E × Bool) → Bool
 | [] => true
 | (.sym k, _) :: r => decide (k < n) && symLt n r
 | _ :: _ => false

def stripB (n:Nat)(g:E)(w:Bool):Bind→Option Bind
 | .ev (.guard g' w' x)=>if g.beqG g'=true∧w=w' then some (.ev x) else none
 | .call ((g',w') :: act) f h args rs=>if g.beqG g'=true∧w=w'∧symLt n act=true then some (.call act f h args rs) else none
 | .callv ((g',w') :: act) x h args rs=>if g.beqG g'=true∧w=w'∧symLt n act=true then some (.callv act x h args rs) else none
 | _=>none

def headG:List Bind→Option (E×Bool)
 | .ev (.guard g w _) :: _=>some (g,w)
 | .call ((g,w) :: _) _ _ _ _ :: _=>some (g,w)
 | .callv ((g,w) :: _) _ _ _ _ :: _=>some (g,w)
 | _=>none

section
variable {P:Program} {env:List D} {g:E} {w p:Bool}

theorem stripB_pos {b b':Bind}(hs:stripB env.length g w b=some b')(hg:g.eval env=some (.v (.bool w))){t:T}{Q:Sig→Prop}(h:den P (.bind b' t) env Q):den P (.bind b t) env Q:=by
 unfold stripB at hs
 split at hs
 ·split at hs
  ·rename_i hc
   cases hs
   rw[←E.beqG_eq hc.1,←hc.2]
   obtain⟨d,h1,h2⟩:=h
   exact⟨d,by simp only[E.eval,hg,if_true];exact h1,h2⟩
  ·cases hs
 ·split at hs
  ·rename_i hc
   cases hs
   obtain⟨h0,d,h1,h2⟩:=h
   refine⟨fun q hq=>?_,d,fun ha=>h1 fun q hq=>ha q (by simp[hq]),h2⟩
   rcases List.mem_cons.1 hq with rfl | hq
   ·exact⟨_,by rw[←E.beqG_eq hc.1];exact hg⟩
   ·exact h0 q hq
  ·cases hs
 ·split at hs
  ·rename_i hc
   cases hs
   obtain⟨h0,d,h1,h2⟩:=h
   refine⟨fun q hq=>?_,d,fun ha=>h1 fun q hq=>ha q (by simp[hq]),h2⟩
   rcases List.mem_cons.1 hq with rfl | hq
   ·exact⟨_,by rw[←E.beqG_eq hc.1];exact hg⟩
   ·exact h0 q hq
  ·cases hs
 ·cases hs

theorem symLt_ok : ∀ {act : List (E × Bool)}, symLt env.length act = true → ∀ q, q ∈ act → ∃ d, q.1.eval env = some d
 | [], _, q, hq => by cases hq
 | (x, b) :: r, h, q, hq => by
  cases x <;> simp only [symLt, Bool.and_eq_true, decide_eq_true_eq] at h
  case sym k =>
   rcases List.mem_cons.1 hq with rfl | hq
   ·exact ⟨_, List.getElem?_eq_getElem h.1⟩
   ·exact symLt_ok h.2 q hq
  all_goals cases h

theorem stripB_neg {b b':Bind}(hs:stripB env.length g w b=some b')(hg:g.eval env=some (.v (.bool p)))(hp:p≠w){t:T}{Q:Sig→Prop}(h:den P t (env++[D.undef]) Q):den P (.bind b t) env Q:=by
 have hno:∀{act:List (E×Bool)} {g':E} {w':Bool},g.beqG g'=true∧w=w'∧symLt env.length act=true→¬actHolds env ((g',w') :: act):=by
  intro act g' w' hc ha
  have:=ha (g',w') (by simp)
  rw[←E.beqG_eq hc.1,←hc.2.1,hg] at this
  cases this
  exact hp rfl
 have hdef:∀{act:List (E×Bool)} {g':E} {w':Bool},g.beqG g'=true∧w=w'∧symLt env.length act=true→∀q,q∈(g',w') :: act→∃d,q.1.eval env=some d:=by
  intro act g' w' hc q hq
  rcases List.mem_cons.1 hq with rfl | hq
  ·exact⟨_,by rw[←E.beqG_eq hc.1];exact hg⟩
  ·exact symLt_ok hc.2.2 q hq
 unfold stripB at hs
 split at hs
 ·split at hs
  ·rename_i hc
   rw[←E.beqG_eq hc.1,←hc.2]
   exact⟨_,by simp only[E.eval,hg,if_neg hp],h⟩
  ·cases hs
 ·split at hs
  ·rename_i hc
   exact⟨hdef hc,D.undef,fun ha=>absurd ha (hno hc),h⟩
  ·cases hs
 ·split at hs
  ·rename_i hc
   exact⟨hdef hc,D.undef,fun ha=>absurd ha (hno hc),h⟩
  ·cases hs
 ·cases hs

theorem bind_any {b:Bind}{t:T}{Q:Sig→Prop}(h:den P (.bind b t) env Q):∃d,den P t (env++[d]) Q∧∀(t':T) (Q':Sig→Prop),den P t' (env++[d]) Q'→den P (.bind b t') env Q':=by
 cases b with
 | ev x=>obtain⟨d,h1,h2⟩:=h;exact⟨d,h2,fun t' Q' h'=>⟨d,h1,h'⟩⟩
 | call act f hx args rs=>obtain⟨h0,d,h1,h2⟩:=h;exact⟨d,h2,fun t' Q' h'=>⟨h0,d,h1,h'⟩⟩
 | wcall act f hx args rs=>obtain⟨h0,st,d,h',h1,h2,h3,h4⟩:=h;exact⟨_,h4,fun t' Q' k=>⟨h0,st,d,h',h1,h2,h3,k⟩⟩
 | callv act x hx args rs=>obtain⟨h0,d,h1,h2⟩:=h;exact⟨d,h2,fun t' Q' h'=>⟨h0,d,h1,h'⟩⟩
 | wcallv act x hx args rs=>obtain⟨h0,st,d,h',h1,h2,h3,h4⟩:=h;exact⟨_,h4,fun t' Q' k=>⟨h0,st,d,h',h1,h2,h3,k⟩⟩

end

/-! ## loops over a range -/

section
variable {P:Program} {t a b:T} {bs:List Bind} {env env2:List D} {Q:Sig→Prop} {x y z g:E} {d:D}

theorem wrap64 {n:Int}(h:-9223372036854775808≤n∧n<9223372036854775808):IntKind.i64.wrap n=n:=by
 simp[IntKind.wrap,IntKind.bits,IntKind.signed];omega

end
end Go.Am

/-
 Texts made shorter: conditions joined to chains,values that nobody reads left out. What is shown of the shorter text holds of the longer one.
-/
namespace Go.Am

inductive U where
 | ev (x:E) (u:U)
 | chk (x:E) (u:U)
 | call (f:FuncId) (h:E) (args:List E) (rs:List Bool) (u:U)
 | wcall (f:FuncId) (h:E) (args:List E) (rs:List Bool) (u:U)
 | callv (x h:E) (args:List E) (rs:List Bool) (u:U)
 | gen (b:Bind) (u:U)
 | chain (or:Bool) (g:E) (v u:U)
 | ite (c:E) (a b:U)
 | loop (l:Nat) (inits:List E) (body:U)
 | join (l n:Nat) (body rest:U)
 | phi (c:E) (as bs:List E) (rest:U)
 | jump (l:Nat) (vals chks:List E)
 | ret (x:E)
 | pan (x h:E) (sl:List Nat) (ks:List E)
 | nilq (x:E) (neg:Bool) (u:U)
 | pick (x:E) (u:U)
 | dfr (f:FuncId) (keep:List Nat) (caps:List E) (res:E) (u:U)
 | pcall (f:FuncId) (h:E) (args:List E) (rs:List Bool) (sl:List Nat) (ks:List E) (u:U)
 | wpcall (f:FuncId) (h:E) (args:List E) (rs:List Bool) (sl:List Nat) (ks:List E) (u:U)
 | wpcallv (x h:E) (args:List E) (rs:List Bool) (sl:List Nat) (ks:List E) (u:U)
 | rfor (x h:E) (sl:List Nat) (caps:List E) (n l:Nat) (body rest:U)
 | rforx (x h:E) (sl:List Nat) (caps:List E) (n l:Nat) (q:Option Nat) (body rest quit:U)
 deriving Inhabited

def denU (P:Program):U→List D→(Sig→Prop)→Prop
 | .ev x u,env,Q=>∃d,x.eval env=some d∧denU P u (env++[d]) Q
 | .chk x u,env,Q=>(∃d,x.eval env=some d)∧denU P u env Q
 | .call f h args rs u,env,Q=>∃st ds d,h.eval env=some st∧evalAll env args=some ds∧FSpecR P f st ds d∧d.fits rs=true∧denU P u (env++[d]) Q
 | .wcall f h args rs u,env,Q=>∃st ds d h',h.eval env=some st∧evalAll env args=some ds∧FSpecW P f st ds d h'∧d.fits rs=true∧denU P u (env++[d,h']) Q
 | .callv x h args rs u,env,Q=>∃f us cs st ds d,x.eval env=some (.fn f us cs)∧callable P f=true∧h.eval env=some st∧evalAll env args=some ds∧FSpecR P f st (us++ds++cs) d∧d.fits rs=true∧denU P u (env++[d]) Q
 | .gen b u,env,Q=>∃d,den P (.bind b (.ret (.sym env.length))) env (fun s=>s=.ret d)∧denU P u (env++[d]) Q
 | .chain or g v u,env,Q=>∃p q,g.eval env=some (.v (.bool p))∧(p=!or→denU P v env (fun s=>s=.ret (.v (.bool q))))∧denU P u (env++[.v (.bool (bif or then p||q else p&&q))]) Q
 | .ite c a b,env,Q=>∃v,c.eval env=some (.v (.bool v))∧(v=true→denU P a env Q)∧(v=false→denU P b env Q)
 | .loop l inits body,env,Q=>∃ds,evalAll env inits=some ds∧∃n,rounds l (fun ds Q=>ds.length=inits.length∧denU P body (env++ds) Q) Q n ds
 | .join l n body rest,env,Q=>denU P body env (catchL l (fun ds=>ds.length=n∧denU P rest (env++ds) Q) Q)
 | .phi c as bs rest,env,Q=>∃v ds,c.eval env=some (.v (.bool v))∧(v=true→evalAll env as=some ds)∧(v=false→evalAll env bs=some ds)∧denU P rest (env++ds) Q
 | .jump l vals chks,env,Q=>(∃cs,evalAll env chks=some cs)∧∃ds,evalAll env vals=some ds∧Q (.jump l ds)
 | .ret x,env,Q=>∃d,x.eval env=some d∧Q (.ret d)
 | .pan x h sl ks,env,Q=>∃d st kd,x.eval env=some d∧h.eval env=some st∧evalAll env ks=some kd∧Q (.pan d st sl kd)
 | .nilq x neg u,env,Q=>∃d bs,x.eval env=some d∧d.isNil=some bs∧∀b,b∈bs→denU P u (env++[.v (.bool (b != neg))]) Q
 | .pick x u,env,Q=>∃ys,x.eval env=some (.lst ys)∧∀d st,.tup [d,st]∈ys→denU P u (env++[d,st]) Q
 | .dfr f keep caps res u,env,Q=>∃cds,evalAll env caps=some cds∧cds.all D.isLoc=true∧denU P u env (DfrQ P f keep cds res Q)
 | .pcall f h args rs sl ks u,env,Q=>∃st ds o,h.eval env=some st∧evalAll env args=some ds∧FSpecO P f st ds o∧match o with
  | .ret d=>d.fits rs=true∧denU P u (env++[d]) Q
  | .pan d=>∃kd,evalAll env ks=some kd∧Q (.pan d st sl kd)
 | .wpcall f h args rs sl ks u,env,Q=>∃st ds o h',h.eval env=some st∧evalAll env args=some ds∧FSpecWO P f st ds o h'∧match o with
  | .ret d=>d.fits rs=true∧denU P u (env++[d,h']) Q
  | .pan d=>∃kd,evalAll env ks=some kd∧Q (.pan d h' sl kd)
 | .wpcallv x h args rs sl ks u,env,Q=>∃f us cs st ds o h',x.eval env=some (.fn f us cs)∧callable P f=true∧h.eval env=some st∧evalAll env args=some ds∧FSpecWO P f st (us++ds++cs) o h'∧match o with
  | .ret d=>d.fits rs=true∧denU P u (env++[d,h']) Q
  | .pan d=>∃kd,evalAll env ks=some kd∧Q (.pan d h' sl kd)
 | .rfor x h sl caps n l body rest,env,Q=>∃f us cs st cds d st',x.eval env=some (.fn f us cs)∧callable P f=true∧h.eval env=some st∧evalAll env caps=some cds∧noyls cds=true∧st'.noyl=true ∧
   (∀(m:Nat) (rec:Loop),(∀st1 ds st2,st1.noyl=true→noyls ds=true→ds.length=n→denU P body (env++[st1]++ds) (fun s=>s=.jump l [st2])→YSpec P (.yl m rec sl cds) st1 ds st2)→FSpecW P f st (us++[.yl m rec sl cds]++cs) d st')∧denU P rest (env++[st']) Q
 | .rforx x h sl caps n l q body rest quit,env,Q=>∃f us cs bs cds d bs' stop,x.eval env=some (.fn f us cs)∧callable P f=true∧h.eval env=some (.st bs)∧evalAll env caps=some cds∧bs'[bs.length]? = some (.tup []) ∧
   (∀(rec:Loop×Code),(∀bs1 ds b bs2,bs1[bs.length]? = some (.lpb false)→ds.length=n→bs2[bs.length]? = some (.tup [])→denU P body (env++[.st (bs1.set bs.length (.tup []))]++ds) (fun s=>s=rsig l q b (.st bs2))→YSpecB P (.ylb bs.length rec sl cds) (.st bs1) ds b (.st (bs2.set bs.length (.lpb !b)))) →
    FSpecW P f (.st (bs++[.lpb false])) (us++[.ylb bs.length rec sl cds]++cs) d (.st (bs'.set bs.length (.lpb stop))))∧(stop=false→denU P rest (env++[.st bs']) Q)∧(stop=true→denU P quit (env++[.st bs']) Q)

theorem denU_mono {P:Program}:∀{t:U} {env:List D} {Q Q':Sig→Prop},(∀s,Q s→Q' s)→denU P t env Q→denU P t env Q'
 | .ev x t,env,Q,Q',hq,⟨d,h1,h2⟩=>⟨d,h1,denU_mono hq h2⟩
 | .chk x t,env,Q,Q',hq,⟨h1,h2⟩=>⟨h1,denU_mono hq h2⟩
 | .call f h args rs t,env,Q,Q',hq,⟨st,ds,d,h1,h2,h3,h4,h5⟩=>⟨st,ds,d,h1,h2,h3,h4,denU_mono hq h5⟩
 | .wcall f h args rs t,env,Q,Q',hq,⟨st,ds,d,h',h1,h2,h3,h4,h5⟩=>⟨st,ds,d,h',h1,h2,h3,h4,denU_mono hq h5⟩
 | .callv x h args rs t,env,Q,Q',hq,⟨f,us,cs,st,ds,d,g1,g2,h1,h2,h3,h4,h5⟩=>⟨f,us,cs,st,ds,d,g1,g2,h1,h2,h3,h4,denU_mono hq h5⟩
 | .gen b t,env,Q,Q',hq,⟨d,h1,h2⟩=>⟨d,h1,denU_mono hq h2⟩
 | .chain or g v u,env,Q,Q',hq,⟨p,q,h1,h2,h3⟩=>⟨p,q,h1,h2,denU_mono hq h3⟩
 | .ite c a b,env,Q,Q',hq,⟨v,h1,h2,h3⟩=>⟨v,h1,fun e=>denU_mono hq (h2 e),fun e=>denU_mono hq (h3 e)⟩
 | .loop l inits body,env,Q,Q',hq,⟨ds,h1,n,h2⟩=>⟨ds,h1,n,rounds_mono (fun _ _ _ hR h=>⟨h.1,denU_mono hR h.2⟩) hq n ds h2⟩
 | .join l n body rest,env,Q,Q',hq,h=>denU_mono (t:=body) (fun s hs=>by
   cases s with
   | jump l' ds'=>
    simp only[catchL] at hs ⊢
    split
    ·rename_i e;rw[if_pos e] at hs;exact⟨hs.1,denU_mono hq hs.2⟩
    ·rename_i e;rw[if_neg e] at hs;exact hq _ hs
   | ret d=>exact hq _ hs
   | pan d st sl kd=>exact hq _ hs) h
 | .phi c as bs rest,env,Q,Q',hq,⟨v,ds,h1,h2,h3,h4⟩=>⟨v,ds,h1,h2,h3,denU_mono hq h4⟩
 | .jump l vals chks,env,Q,Q',hq,⟨h0,ds,h1,h2⟩=>⟨h0,ds,h1,hq _ h2⟩
 | .ret x,env,Q,Q',hq,⟨d,h1,h2⟩=>⟨d,h1,hq _ h2⟩
 | .pan x h sl ks,env,Q,Q',hq,⟨d,st,kd,h1,h2,h3,h4⟩=>⟨d,st,kd,h1,h2,h3,hq _ h4⟩
 | .nilq x neg t,env,Q,Q',hq,⟨d,bs,h1,h2,h3⟩=>⟨d,bs,h1,h2,fun b hb=>denU_mono hq (h3 b hb)⟩
 | .pick x t,env,Q,Q',hq,⟨ys,h1,h2⟩=>⟨ys,h1,fun d st hy=>denU_mono hq (h2 d st hy)⟩
 | .dfr f keep caps res t,env,Q,Q',hq,⟨cds,h1,h2,h3⟩=>⟨cds,h1,h2,denU_mono (fun _=>DfrQ_mono hq) h3⟩
 | .pcall f h args rs sl ks t,env,Q,Q',hq,⟨st,ds,.ret d,h1,h2,h3,h4,h5⟩=>⟨st,ds,.ret d,h1,h2,h3,h4,denU_mono hq h5⟩
 | .pcall f h args rs sl ks t,env,Q,Q',hq,⟨st,ds,.pan d,h1,h2,h3,kd,h4,h5⟩=>⟨st,ds,.pan d,h1,h2,h3,kd,h4,hq _ h5⟩
 | .wpcall f h args rs sl ks t,env,Q,Q',hq,⟨st,ds,.ret d,h',h1,h2,h3,h4,h5⟩=>⟨st,ds,.ret d,h',h1,h2,h3,h4,denU_mono hq h5⟩
 | .wpcall f h args rs sl ks t,env,Q,Q',hq,⟨st,ds,.pan d,h',h1,h2,h3,kd,h4,h5⟩=>⟨st,ds,.pan d,h',h1,h2,h3,kd,h4,hq _ h5⟩
 | .wpcallv x h args rs sl ks t,env,Q,Q',hq,⟨f,us,cs,st,ds,.ret d,h',g1,g2,h1,h2,h3,h4,h5⟩=>⟨f,us,cs,st,ds,.ret d,h',g1,g2,h1,h2,h3,h4,denU_mono hq h5⟩
 | .wpcallv x h args rs sl ks t,env,Q,Q',hq,⟨f,us,cs,st,ds,.pan d,h',g1,g2,h1,h2,h3,kd,h4,h5⟩=>⟨f,us,cs,st,ds,.pan d,h',g1,g2,h1,h2,h3,kd,h4,hq _ h5⟩
 | .rfor x h sl caps n l body rest,env,Q,Q',hq,⟨f,us,cs,st,cds,d,st',h1,h2,h3,h4,h5,h6,h7,h8⟩=>⟨f,us,cs,st,cds,d,st',h1,h2,h3,h4,h5,h6,h7,denU_mono hq h8⟩
 | .rforx x h sl caps n l q body rest quit,env,Q,Q',hq,⟨f,us,cs,bs,cds,d,bs',stop,h1,h2,h3,h4,h5,h6,h7,h8⟩=>⟨f,us,cs,bs,cds,d,bs',stop,h1,h2,h3,h4,h5,h6,fun e=>denU_mono hq (h7 e),fun e=>denU_mono hq (h8 e)⟩

/-! ## expressions over other data -/

inductive SE where
 | no
 | e (x:E)
 | pair (i j:Nat)
 deriving Inhabited

def tgetS (n i:Nat):E→E
 | .tcons (.sym p) (.tcons (.sym q) .tnil)=>if p<n∧q<n then(if i=0 then .sym p else if i=1 then .sym q else .tget i (.tcons (.sym p) (.tcons (.sym q) .tnil))) else .tget i (.tcons (.sym p) (.tcons (.sym q) .tnil))
 | x=>.tget i x

def E.sb (n:Nat)(σ:List SE):E→Option E
 | .sym k=>match σ[k]? with
  | some (.e x)=>some x
  | some (.pair i j)=>some (.tcons (.sym i) (.tcons (.sym j) .tnil))
  | _=>none
 | .const d=>some (.const d)
 | .nil=>some .nil
 | .tnil=>some .tnil
 | .un o a=>(a.sb n σ).map (.un o)
 | .conv k a=>(a.sb n σ).map (.conv k)
 | .lenL a=>(a.sb n σ).map .lenL
 | .lenS a=>(a.sb n σ).map .lenS
 | .scal a=>(a.sb n σ).map .scal
 | .cell i a=>(a.sb n σ).map (.cell i)
 | .cells i m a=>(a.sb n σ).map (.cells i m)
 | .aggN m a=>(a.sb n σ).map (.aggN m)
 | .one a=>(a.sb n σ).map .one
 | .mkptr a=>(a.sb n σ).map .mkptr
 | .tget i a=>(a.sb n σ).map (tgetS n i)
 | .rep b a d=>(a.sb n σ).map fun x=>.rep b x d
 | .deref a=>(a.sb n σ).map .deref
 | .ifc t a=>(a.sb n σ).map (.ifc t)
 | .padd k a=>(a.sb n σ).map (.padd k)
 | .nn a=>(a.sb n σ).map .nn
 | .fstid a=>(a.sb n σ).map .fstid
 | .bin o k a b=>(a.sb n σ).bind fun x=>(b.sb n σ).map (.bin o k x)
 | .idx a b=>(a.sb n σ).bind fun x=>(b.sb n σ).map (.idx x)
 | .idxN m a b=>(a.sb n σ).bind fun x=>(b.sb n σ).map (.idxN m x)
 | .cons a b=>(a.sb n σ).bind fun x=>(b.sb n σ).map (.cons x)
 | .app m k a b=>(a.sb n σ).bind fun x=>(b.sb n σ).map (.app m k x)
 | .lcons a b=>(a.sb n σ).bind fun x=>(b.sb n σ).map (.lcons x)
 | .mkfn f a b=>(a.sb n σ).bind fun x=>(b.sb n σ).map (.mkfn f x)
 | .tcons a b=>(a.sb n σ).bind fun x=>(b.sb n σ).map (.tcons x)
 | .mm m a b=>(a.sb n σ).bind fun x=>(b.sb n σ).map (.mm m x)
 | .eaddr m a b=>(a.sb n σ).bind fun x=>(b.sb n σ).map (.eaddr m x)
 | .ld g m a b=>(a.sb n σ).bind fun x=>(b.sb n σ).map (.ld g m x)
 | .newb e m a b=>(a.sb n σ).bind fun x=>(b.sb n σ).map (.newb e m x)
 | .newv e m a b=>(a.sb n σ).bind fun x=>(b.sb n σ).map (.newv e m x)
 | .fstsl a b=>(a.sb n σ).bind fun x=>(b.sb n σ).map (.fstsl x)
 | .frzv g a b=>(a.sb n σ).bind fun x=>(b.sb n σ).map (.frzv g x)
 | .frzh a b=>(a.sb n σ).bind fun x=>(b.sb n σ).map (.frzh x)
 | .guard a w b=>(a.sb n σ).bind fun x=>(b.sb n σ).map (.guard x w)
 | .sub m a b c=>(a.sb n σ).bind fun x=>(b.sb n σ).bind fun y=>(c.sb n σ).map (.sub m x y)
 | .set a b k c=>(a.sb n σ).bind fun x=>(b.sb n σ).bind fun y=>(c.sb n σ).map (.set x y k)
 | .ite a b c=>(a.sb n σ).bind fun x=>(b.sb n σ).bind fun y=>(c.sb n σ).map (.ite x y)
 | .sto m a b c=>(a.sb n σ).bind fun x=>(b.sb n σ).bind fun y=>(c.sb n σ).map (.sto m x y)
 | .apph e m k a b c=>(a.sb n σ).bind fun x=>(b.sb n σ).bind fun y=>(c.sb n σ).map (.apph e m k x y)
 | .apps a b c=>(a.sb n σ).bind fun x=>(b.sb n σ).bind fun y=>(c.sb n σ).map (.apps x y)
 | .m4 o a b c d=>(a.sb n σ).bind fun x=>(b.sb n σ).bind fun y=>(c.sb n σ).bind fun z=>(d.sb n σ).map (.m4 o x y z)

def SEOk (env':List D)(x:Option D):SE→Prop
 | .no=>True
 | .e y=>y.eval env'=x
 | .pair i j=>∃d1 d2,env'[i]? = some d1∧env'[j]? = some d2∧x=some (.tup [d1,d2])

def SOk (σ:List SE)(env env':List D):Prop:=∀(k:Nat) (s:SE),σ[k]? = some s→SEOk env' env[k]? s

theorem tgetS_eval {env:List D}{i:Nat}(x:E):(tgetS env.length i x).eval env=(E.tget i x).eval env:=by
 unfold tgetS
 split
 ·rename_i p q
  split
  ·rename_i h
   have e1:=List.getElem?_eq_getElem h.1
   have e2:=List.getElem?_eq_getElem h.2
   split
   ·rename_i e;subst e
    simp only[E.eval,e1,e2,Option.bind_some,D.tcons,D.tget]
    rfl
   ·split
    ·rename_i e;subst e
     simp only[E.eval,e1,e2,Option.bind_some,D.tcons,D.tget]
     rfl
    ·rfl
  ·rfl
 ·rfl

theorem E.sb_eval {σ:List SE}{env env':List D}(hσ:SOk σ env env'):∀{x x':E},x.sb env'.length σ=some x'→x'.eval env'=x.eval env:=by
 intro x
 induction x <;> intro x' h <;> simp only[E.sb,Option.map_eq_some_iff,Option.bind_eq_some_iff] at h
 case sym k=>
  split at h
  ·rename_i y hk
   cases h
   exact hσ k _ hk
  ·rename_i i j hk
   cases h
   obtain⟨d1,d2,h1,h2,h3⟩:=hσ k _ hk
   show _=env[k]?
   rw[h3]
   simp only[E.eval,h1,h2,Option.bind_some,D.tcons]
  ·cases h
 case tget i a ih=>
  obtain⟨y,h1,rfl⟩:=h
  rw[tgetS_eval]
  simp only[E.eval,ih h1]
 case const d=>cases h;rfl
 case nil=>cases h;rfl
 case tnil=>cases h;rfl
 case ite a b c iha ihb ihc=>
  obtain⟨y,h1,z,h2,u,h3,rfl⟩:=h
  simp only[E.eval,iha h1,ihb h2,ihc h3]
 case guard a w b iha ihb=>
  obtain⟨y,h1,z,h2,rfl⟩:=h
  simp only[E.eval,iha h1,ihb h2]
 all_goals first
 |(rename_i ih;obtain⟨y,h1,rfl⟩:=h;simp only[E.eval,ih h1])
 |(rename_i iha ihb;obtain⟨y,h1,z,h2,rfl⟩:=h;simp only[E.eval,iha h1,ihb h2])
 |(rename_i iha ihb ihc;obtain⟨y,h1,z,h2,u,h3,rfl⟩:=h;simp only[E.eval,iha h1,ihb h2,ihc h3])
 |(rename_i iha ihb ihc ihd;obtain⟨y,h1,z,h2,u,h3,v,h4,rfl⟩:=h;simp only[E.eval,iha h1,ihb h2,ihc h3,ihd h4])

def sbAll (n:Nat)(σ:List SE):List E→Option (List E)
 | []=>some []
 | x :: r=>(x.sb n σ).bind fun y=>(sbAll n σ r).map (y :: ·)

theorem sbAll_eval {σ:List SE}{env env':List D}(hσ:SOk σ env env'):∀{l l':List E},sbAll env'.length σ l=some l'→evalAll env' l'=evalAll env l
 | [],l',h=>by cases h;rfl
 | x :: r,l',h=>by
  simp only[sbAll,Option.bind_eq_some_iff,Option.map_eq_some_iff] at h
  obtain⟨y,h1,z,h2,rfl⟩:=h
  simp only[evalAll,E.sb_eval hσ h1,sbAll_eval hσ h2]

def sbAct (n:Nat)(σ:List SE):List (E×Bool)→Option (List (E×Bool))
 | []=>some []
 | p :: r=>(p.1.sb n σ).bind fun y=>(sbAct n σ r).map ((y,p.2) :: ·)

theorem sbAct_eval {σ:List SE}{env env':List D}(hσ:SOk σ env env'):∀{l l':List (E×Bool)},sbAct env'.length σ l=some l'→((∀p,p∈l'→∃d,p.1.eval env'=some d)→∀p,p∈l→∃d,p.1.eval env=some d)∧(actHolds env' l'↔actHolds env l)
 | [],l',h=>by cases h;exact⟨fun _ p hp=>(by cases hp),(by simp[actHolds])⟩
 | x :: r,l',h=>by
  simp only[sbAct,Option.bind_eq_some_iff,Option.map_eq_some_iff] at h
  obtain⟨y,h1,z,h2,rfl⟩:=h
  have e:=E.sb_eval hσ h1
  obtain⟨g1,g2⟩:=sbAct_eval hσ h2
  refine⟨fun h p hp=>?_,?_⟩
  ·rcases List.mem_cons.1 hp with rfl | hp
   ·rw[←e];exact h (y,p.2) (by simp)
   ·exact g1 (fun q hq=>h q (by simp[hq])) p hp
  ·unfold actHolds at g2 ⊢
   simp only[List.forall_mem_cons,e,g2]

theorem SOk.append {σ σ2:List SE}{env env' env2 ds:List D}(h:SOk σ env env')(hl:env.length=σ.length)(h2:∀(k:Nat) (s:SE),σ2[k]? = some s→SEOk env2 ds[k]? s)(he:env' <+: env2):SOk (σ++σ2) (env++ds) env2:=by
 intro k s hk
 rcases Nat.lt_or_ge k σ.length with hlt | hge
 ·rw[List.getElem?_append_left hlt] at hk
  rw[List.getElem?_append_left (by omega)]
  have:=h k s hk
  cases s with
  | no=>exact trivial
  | e y=>
   have hd:=List.getElem?_eq_getElem (show k<env.length by omega)
   simp only[SEOk] at this ⊢
   rw[hd] at this ⊢
   exact E.eval_mono he _ this
  | pair i j=>
   obtain⟨d1,d2,g1,g2,g3⟩:=this
   obtain⟨r,rfl⟩:=he
   exact⟨d1,d2,by rw[List.getElem?_append_left (List.getElem?_eq_some_iff.1 g1).1];exact g1,by rw[List.getElem?_append_left (List.getElem?_eq_some_iff.1 g2).1];exact g2,g3⟩
 ·rw[List.getElem?_append_right hge] at hk
  rw[List.getElem?_append_right (by omega),hl]
  exact h2 _ s hk

/-! ## the shorter text -/

def E.bits:E→Nat
 | .sym k=>1 <<< k
 | .const _ | .nil | .tnil=>0
 | .un _ a | .conv _ a | .lenL a | .lenS a | .scal a | .cell _ a | .cells _ _ a | .aggN _ a | .one a | .mkptr a | .tget _ a | .rep _ a _ | .deref a | .ifc _ a | .padd _ a | .nn a | .fstid a=>a.bits
 | .bin _ _ a b | .idx a b | .idxN _ a b | .cons a b | .app _ _ a b | .lcons a b | .mkfn _ a b | .tcons a b | .mm _ a b | .eaddr _ a b | .ld _ _ a b | .newb _ _ a b | .newv _ _ a b | .fstsl a b | .frzv _ a b | .frzh a b | .guard a _ b=>a.bits ||| b.bits
 | .sub _ a b c | .set a b _ c | .ite a b c | .sto _ a b c | .apph _ _ _ a b c | .apps a b c=>a.bits ||| (b.bits ||| c.bits)
 | .m4 _ a b c d=>a.bits ||| (b.bits ||| (c.bits ||| d.bits))

def bitsAll:List E→Nat
 | []=>0
 | x :: r=>x.bits ||| bitsAll r

def bitsAct:List (E×Bool)→Nat
 | []=>0
 | x :: r=>x.1.bits ||| bitsAct r

def Bind.bits:Bind→Nat
 | .ev x=>x.bits
 | .call act _ h args _ | .wcall act _ h args _=>bitsAct act ||| (h.bits ||| bitsAll args)
 | .callv act x h args _ | .wcallv act x h args _=>bitsAct act ||| (x.bits ||| (h.bits ||| bitsAll args))

def T.bits:T→Nat
 | .bind b t=>b.bits ||| t.bits
 | .ite c a b=>c.bits ||| (a.bits ||| b.bits)
 | .loop _ inits body=>bitsAll inits ||| body.bits
 | .join _ _ body rest=>body.bits ||| rest.bits
 | .jump _ vals=>bitsAll vals
 | .ret x=>x.bits
 | .pan x h _ ks=>x.bits ||| (h.bits ||| bitsAll ks)
 | .nilq x _ t=>x.bits ||| t.bits
 | .pick x t=>x.bits ||| t.bits
 | .dfr _ _ caps _ t=>bitsAll caps ||| t.bits
 | .pcall _ h args _ _ ks t | .wpcall _ h args _ _ ks t=>h.bits ||| (bitsAll args ||| (bitsAll ks ||| t.bits))
 | .wpcallv x h args _ _ ks t=>x.bits ||| (h.bits ||| (bitsAll args ||| (bitsAll ks ||| t.bits)))
 | .rfor x h _ caps _ _ body rest=>x.bits ||| (h.bits ||| (bitsAll caps ||| (body.bits ||| rest.bits)))
 | .rforx x h _ caps _ _ _ body rest quit=>x.bits ||| (h.bits ||| (bitsAll caps ||| (body.bits ||| (rest.bits ||| quit.bits))))

def bitAt (m k:Nat):Bool:=(m >>> k) % 2==1

def takeT (g:E)(w:Bool):Nat→T→List Bind×Nat×T
 | n,.bind b t=>match stripB n g w b with
  | some b'=>let r:=takeT g w (n+1) t;(b' :: r.1,r.2.1+1,r.2.2)
  | none=>([],0,.bind b t)
 | _,t=>([],0,t)

def isBoolC (b:Bool):E→Bool
 | .const (.v (.bool c))=>b==c
 | _=>false

def chainOf (n : Nat) (b : Bind) (t : T) : Option (Bool × E × T × Nat × T) :=
  match headG [b] with
  | some (g, w) => match takeT g w n (.bind b t) with
    | (bs, k, .bind (.ev (.ite g' y z)) rest) =>
      if g.beqG g' = true ∧ (rest.bits >>> n) % (1 <<< k) = 0 then
        if w = false ∧ isBoolC true y = true then some (true, g, wrapBinds bs (.ret z), k, rest)
        else if w = true ∧ isBoolC false z = true then some (false, g, wrapBinds bs (.ret y), k, rest)
        else none
      else none
    | _ => none
  | none => none

def simpleE:E→Bool
 | .sym _=>true
 | .cell _ x | .tget _ x | .padd _ x | .aggN _ x | .nn x=>simpleE x
 | _=>false

def cheap (n:Nat):E→Option (Bool×E)
 | .sym j=>if j<n then some (false,.sym j) else none
 | .const d=>some (false,.const d)
 | .aggN _ y | .nn y | .scal y=>if simpleE y=true then some (true,y) else none
 | .cell i y=>if simpleE y=true then some (true,.cell i y) else none
 | .tget i y=>if simpleE y=true then some (true,.tget i y) else none
 | .padd i y=>if simpleE y=true then some (true,.padd i y) else none
 | _=>none

def filtK {α:Type}:List Bool→List α→List α
 | true :: r,x :: l=>x :: filtK r l
 | false :: r,_ :: l=>filtK r l
 | _,_=>[]

def sure (n:Nat):E→Bool
 | .sym k=>decide (k<n)
 | .const _=>true
 | _=>false

def ents:Nat→List Bool→List SE
 | _,[]=>[]
 | n,true :: r=>.e (.sym n) :: ents (n+1) r
 | n,false :: r=>.no :: ents n r

def liveOf (bits:Nat):Nat→Nat→List Bool
 | _,0=>[]
 | k,m+1=>bitAt bits k :: liveOf bits (k+1) m

def keepOr (n:Nat):List Bool→List E→List Bool
 | b :: r,x :: l=>(b||!sure n x) :: keepOr n r l
 | _,_=>[]

def phiOf (l n:Nat):U→U→U
 | .ite c (.jump l1 as []) (.jump l2 bs []),rest=>if l1=l∧l2=l∧as.length=n∧bs.length=n then .phi c as bs rest else .join l n (.ite c (.jump l1 as []) (.jump l2 bs [])) rest
 | body,rest=>.join l n body rest

def sbBind (n:Nat)(σ:List SE):Bind→Option Bind
 | .ev x=>(x.sb n σ).map .ev
 | .call act f h args rs=>(sbAct n σ act).bind fun act'=>(h.sb n σ).bind fun h'=>(sbAll n σ args).map fun args'=>.call act' f h' args' rs
 | .wcall act f h args rs=>(sbAct n σ act).bind fun act'=>(h.sb n σ).bind fun h'=>(sbAll n σ args).map fun args'=>.wcall act' f h' args' rs
 | .callv act x h args rs=>(sbAct n σ act).bind fun act'=>(x.sb n σ).bind fun x'=>(h.sb n σ).bind fun h'=>(sbAll n σ args).map fun args'=>.callv act' x' h' args' rs
 | .wcallv act x h args rs=>(sbAct n σ act).bind fun act'=>(x.sb n σ).bind fun x'=>(h.sb n σ).bind fun h'=>(sbAll n σ args).map fun args'=>.wcallv act' x' h' args' rs

def tr:Nat→Nat→List SE→List (Nat×List Bool)→T→Option U
 | 0,_,_,_,_=>none
 | f+1,n,σ,Γ,.bind b t=>
  match chainOf σ.length b t with
  | some (or,g,inner,k,rest)=>(g.sb n σ).bind fun g'=>(tr f n σ [] inner).bind fun v=>(tr f (n+1) (σ++(List.replicate k .no++[.e (.sym n)])) Γ rest).map (.chain or g' v)
  | none=>match b with
   | .ev x=>(x.sb n σ).bind fun x'=>match cheap n x' with
    | some (false,y)=>tr f n (σ++[.e y]) Γ t
    | some (true,y)=>(tr f n (σ++[.e y]) Γ t).map (.chk x')
    | none=>(tr f (n+1) (σ++[.e (.sym n)]) Γ t).map (.ev x')
   | .call [] fn h args rs=>(h.sb n σ).bind fun h'=>(sbAll n σ args).bind fun args'=>(tr f (n+1) (σ++[.e (.sym n)]) Γ t).map (.call fn h' args' rs)
   | .wcall [] fn h args rs=>(h.sb n σ).bind fun h'=>(sbAll n σ args).bind fun args'=>(tr f (n+2) (σ++[.pair n (n+1)]) Γ t).map (.wcall fn h' args' rs)
   | .callv [] x h args rs=>(x.sb n σ).bind fun x'=>(h.sb n σ).bind fun h'=>(sbAll n σ args).bind fun args'=>(tr f (n+1) (σ++[.e (.sym n)]) Γ t).map (.callv x' h' args' rs)
   | b=>(sbBind n σ b).bind fun b'=>(tr f (n+1) (σ++[.e (.sym n)]) Γ t).map (.gen b')
 | f+1,n,σ,Γ,.ite c a b=>(c.sb n σ).bind fun c'=>(tr f n σ Γ a).bind fun a'=>(tr f n σ Γ b).map (.ite c' a')
 | f+1,n,σ,Γ,.loop l inits body=>
  let keep:=keepOr σ.length (liveOf body.bits σ.length inits.length) inits
  if keep.length=inits.length then(sbAll n σ (filtK keep inits)).bind fun inits'=>(tr f (n+inits'.length) (σ++ents n keep) ((l,keep) :: Γ) body).map (.loop l inits') else none
 | f+1,n,σ,Γ,.join l m body rest=>
  let keep:=liveOf rest.bits σ.length m
  if keep.length=m then(tr f n σ ((l,keep) :: Γ) body).bind fun body'=>(tr f (n+(filtK keep keep).length) (σ++ents n keep) Γ rest).map (phiOf l (filtK keep keep).length body') else none
 | _+1,n,σ,Γ,.jump l vals=>(Γ.lookup l).bind fun keep=>if vals.length=keep.length then(sbAll n σ (filtK keep vals)).bind fun vals'=>(sbAll n σ ((filtK (keep.map not) vals).filter fun x=>!sure σ.length x)).map (.jump l vals') else none
 | _+1,n,σ,_,.ret x=>(x.sb n σ).map .ret
 | _+1,n,σ,_,.pan x h sl ks=>(x.sb n σ).bind fun x'=>(h.sb n σ).bind fun h'=>(sbAll n σ ks).map (.pan x' h' sl)
 | f+1,n,σ,Γ,.nilq x neg t=>(x.sb n σ).bind fun x'=>(tr f (n+1) (σ++[.e (.sym n)]) Γ t).map (.nilq x' neg)
 | f+1,n,σ,Γ,.pick x t=>(x.sb n σ).bind fun x'=>(tr f (n+2) (σ++[.pair n (n+1)]) Γ t).map (.pick x')
 | f+1,n,σ,Γ,.dfr fn keep caps res t=>(sbAll n σ caps).bind fun caps'=>(tr f n σ Γ t).map (.dfr fn keep caps' res)
 | f+1,n,σ,Γ,.pcall fn h args rs sl ks t=>(h.sb n σ).bind fun h'=>(sbAll n σ args).bind fun args'=>(sbAll n σ ks).bind fun ks'=>(tr f (n+1) (σ++[.e (.sym n)]) Γ t).map (.pcall fn h' args' rs sl ks')
 | f+1,n,σ,Γ,.wpcall fn h args rs sl ks t=>(h.sb n σ).bind fun h'=>(sbAll n σ args).bind fun args'=>(sbAll n σ ks).bind fun ks'=>(tr f (n+2) (σ++[.pair n (n+1)]) Γ t).map (.wpcall fn h' args' rs sl ks')
 | f+1,n,σ,Γ,.wpcallv x h args rs sl ks t=>(x.sb n σ).bind fun x'=>(h.sb n σ).bind fun h'=>(sbAll n σ args).bind fun args'=>(sbAll n σ ks).bind fun ks'=>(tr f (n+2) (σ++[.pair n (n+1)]) Γ t).map (.wpcallv x' h' args' rs sl ks')
 | f+1,n,σ,Γ,.rfor x h sl caps m l body rest=>(x.sb n σ).bind fun x'=>(h.sb n σ).bind fun h'=>(sbAll n σ caps).bind fun caps'=>
  (tr f (n+(m+1)) (σ++ents n (List.replicate (m+1) true)) [(l,[true])] body).bind fun body'=>(tr f (n+1) (σ++[.e (.sym n)]) Γ rest).map (.rfor x' h' sl caps' m l body')
 | f+1,n,σ,Γ,.rforx x h sl caps m l q body rest quit=>(x.sb n σ).bind fun x'=>(h.sb n σ).bind fun h'=>(sbAll n σ caps).bind fun caps'=>
  (tr f (n+(m+1)) (σ++ents n (List.replicate (m+1) true)) [(l,[true]),(l+1,[true])] body).bind fun body'=>(tr f (n+1) (σ++[.e (.sym n)]) Γ rest).bind fun rest'=>(tr f (n+1) (σ++[.e (.sym n)]) Γ quit).map (.rforx x' h' sl caps' m l q body' rest')

end Go.Am

/-
 What is shown of the shorter text holds of the longer one.
-/
namespace Go.Am

section
variable {P:Program} {g:E} {w p:Bool}

theorem takeT_pos:∀{t:T} {env:List D} {x:E} {dx:D},g.eval env=some (.v (.bool w))→den P (wrapBinds (takeT g w env.length t).1 (.ret x)) env (fun s=>s=.ret dx) →
  ∃us:List D,us.length=(takeT g w env.length t).2.1∧x.eval (env++us)=some dx∧∀(Q:Sig→Prop),den P (takeT g w env.length t).2.2 (env++us) Q→den P t env Q:=by
 intro t
 induction t with
 | bind b t ih=>
  intro env x dx hg h
  simp only[takeT] at h ⊢
  cases hs:stripB env.length g w b with
  | none=>
   simp only[hs] at h ⊢
   obtain⟨d,h1,h2⟩:=h
   cases h2
   exact⟨[],rfl,by simpa using h1,fun Q k=>by simpa using k⟩
  | some b'=>
   simp only[hs] at h ⊢
   have h':den P (.bind b' (wrapBinds (takeT g w (env.length+1) t).1 (.ret x))) env (fun s=>s=.ret dx):=h
   obtain⟨d,h1,h2⟩:=bind_any h'
   have hl:env.length+1=(env++[d]).length:=by simp
   rw[hl] at h1 ⊢
   obtain⟨us,g1,g2,g3⟩:=ih (env:=env++[d]) (E.eval_mono (prefix_append _ _) _ hg) h1
   refine⟨d :: us,by simp[g1],by simpa using g2,fun Q k=>?_⟩
   exact stripB_pos hs hg (h2 _ _ (g3 Q (by simpa using k)))
 | _=>
  intro env x dx hg h
  obtain⟨d,h1,h2⟩:=h
  cases h2
  exact⟨[],rfl,by simpa using h1,fun Q k=>by simpa[takeT] using k⟩

theorem takeT_neg:∀{t:T} {env:List D},g.eval env=some (.v (.bool p))→p≠w →
  ∃us:List D,us.length=(takeT g w env.length t).2.1∧∀(Q:Sig→Prop),den P (takeT g w env.length t).2.2 (env++us) Q→den P t env Q:=by
 intro t
 induction t with
 | bind b t ih=>
  intro env hg hp
  simp only[takeT]
  cases hs:stripB env.length g w b with
  | none=>exact⟨[],rfl,fun Q k=>by simpa using k⟩
  | some b'=>
   simp only
   have hl:env.length+1=(env++[D.undef]).length:=by simp
   rw[hl]
   obtain⟨us,g1,g3⟩:=ih (env:=env++[D.undef]) (E.eval_mono (prefix_append _ _) _ hg) hp
   refine⟨D.undef :: us,by simp[g1],fun Q k=>?_⟩
   exact stripB_neg hs hg hp (g3 Q (by simpa using k))
 | _=>
  intro env hg hp
  exact⟨[],rfl,fun Q k=>by simpa[takeT] using k⟩

theorem isBoolC_eq {b:Bool}{x:E}(h:isBoolC b x=true):x=.const (.v (.bool b)):=by
 unfold isBoolC at h
 split at h
 ·simp only[beq_iff_eq] at h;rw[h]
 ·cases h

theorem chain_sound {b:Bind} {t inner rest:T} {or:Bool} {k:Nat} {env:List D} {Q:Sig→Prop} (hc:chainOf env.length b t=some (or,g,inner,k,rest)) {q:Bool} (hg:g.eval env=some (.v (.bool p)))
  (h1:p=!or→den P inner env (fun s=>s=.ret (.v (.bool q)))) (h2:∀us:List D,us.length=k→den P rest (env++us++[.v (.bool (bif or then p||q else p&&q))]) Q):den P (.bind b t) env Q:=by
 unfold chainOf at hc
 split at hc
 ·rename_i g0 w _
  split at hc
  ·rename_i bs k0 g' y z rest0 hT
   split at hc
   ·rename_i hb
    have hgg:=E.beqG_eq hb.1
    subst hgg
    split at hc
    ·rename_i hw
     cases hc
     obtain⟨rfl,hy⟩:=hw
     have hy:=isBoolC_eq hy
     subst hy
     cases p with
     | true=>
      obtain⟨us,g1,g3⟩:=takeT_neg (P:=P) (t:=.bind b t) (w:=false) hg (by simp)
      rw[hT] at g1 g3
      refine g3 Q ⟨.v (.bool true),?_,?_⟩
      ·simp only[E.eval,E.eval_mono (prefix_append env us) _ hg]
      ·simpa using h2 us g1
     | false=>
      have h1':=h1 rfl
      have e:bs=(takeT g false env.length (.bind b t)).1:=by rw[hT]
      rw[e] at h1'
      obtain⟨us,g1,g2,g3⟩:=takeT_pos (P:=P) (t:=.bind b t) hg h1'
      rw[hT] at g1 g3
      refine g3 Q ⟨.v (.bool q),?_,?_⟩
      ·simp only[E.eval,E.eval_mono (prefix_append env us) _ hg];exact g2
      ·simpa using h2 us g1
    ·split at hc
     ·rename_i hw
      cases hc
      obtain⟨rfl,hz⟩:=hw
      have hz:=isBoolC_eq hz
      subst hz
      cases p with
      | false=>
       obtain⟨us,g1,g3⟩:=takeT_neg (P:=P) (t:=.bind b t) (w:=true) hg (by simp)
       rw[hT] at g1 g3
       refine g3 Q ⟨.v (.bool false),?_,?_⟩
       ·simp only[E.eval,E.eval_mono (prefix_append env us) _ hg]
       ·simpa using h2 us g1
      | true=>
       have h1':=h1 rfl
       have e:bs=(takeT g true env.length (.bind b t)).1:=by rw[hT]
       rw[e] at h1'
       obtain⟨us,g1,g2,g3⟩:=takeT_pos (P:=P) (t:=.bind b t) hg h1'
       rw[hT] at g1 g3
       refine g3 Q ⟨.v (.bool q),?_,?_⟩
       ·simp only[E.eval,E.eval_mono (prefix_append env us) _ hg];exact g2
       ·simpa using h2 us g1
     ·cases hc
   ·cases hc
  ·cases hc
 ·cases hc

theorem cheap_ok {env:List D}{x y:E}{c:Bool}(h:cheap env.length x=some (c,y))(hd:c=true→∃d,x.eval env=some d):∃d,x.eval env=some d∧y.eval env=some d:=by
 unfold cheap at h
 split at h
 ·rename_i j
  split at h
  ·rename_i hj;cases h;exact⟨_,List.getElem?_eq_getElem hj,List.getElem?_eq_getElem hj⟩
  ·cases h
 ·cases h;exact⟨_,rfl,rfl⟩
 ·split at h
  ·cases h
   obtain⟨d,hd⟩:=hd rfl
   simp only[E.eval,Option.bind_eq_some_iff] at hd
   obtain⟨d',h1,h2⟩:=hd
   refine⟨d',?_,h1⟩
   simp only[E.eval,h1,Option.bind_some]
   unfold D.aggN at h2 ⊢
   split at h2
   ·split at h2
    ·rename_i hl;rw[if_pos hl]
    ·cases h2
   ·cases h2
  ·cases h
 ·split at h
  ·cases h
   obtain⟨d,hd⟩:=hd rfl
   simp only[E.eval,Option.bind_eq_some_iff] at hd
   obtain⟨d',h1,h2⟩:=hd
   refine⟨d',?_,h1⟩
   simp only[E.eval,h1,Option.bind_some]
   unfold D.nn at h2 ⊢
   split at h2 <;> first | rfl | cases h2
  ·cases h
 ·split at h
  ·cases h
   obtain⟨d,hd⟩:=hd rfl
   simp only[E.eval,Option.bind_eq_some_iff] at hd
   obtain⟨d',h1,h2⟩:=hd
   refine⟨d',?_,h1⟩
   simp only[E.eval,h1,Option.bind_some]
   unfold D.scal at h2 ⊢
   split at h2
   ·rename_i hl;rw[if_pos hl]
   ·cases h2
  ·cases h
 ·split at h
  ·cases h;obtain⟨d,hd⟩:=hd rfl;exact⟨d,hd,hd⟩
  ·cases h
 ·split at h
  ·cases h;obtain⟨d,hd⟩:=hd rfl;exact⟨d,hd,hd⟩
  ·cases h
 ·split at h
  ·cases h;obtain⟨d,hd⟩:=hd rfl;exact⟨d,hd,hd⟩
  ·cases h
 ·cases h

/-! ## values that are left out -/

theorem ents_ok:∀{keep:List Bool} {ds pre:List D},ds.length=keep.length→∀(k:Nat) (s:SE),(ents pre.length keep)[k]? = some s→SEOk (pre++filtK keep ds) ds[k]? s
 | [],_,_,_,k,s,h=>by simp[ents] at h
 | true :: r,d :: ds,pre,hl,k,s,h=>by
  cases k with
  | zero=>
   simp only[ents,List.getElem?_cons_zero,Option.some.injEq] at h
   subst h
   simp[SEOk,E.eval,filtK]
  | succ k=>
   simp only[ents,List.getElem?_cons_succ] at h
   have hp:pre.length+1=(pre++[d]).length:=by simp
   rw[hp] at h
   have:=ents_ok (pre:=pre++[d]) (ds:=ds) (keep:=r) (by simpa using hl) k s h
   simpa[filtK] using this
 | false :: r,d :: ds,pre,hl,k,s,h=>by
  cases k with
  | zero=>
   simp only[ents,List.getElem?_cons_zero,Option.some.injEq] at h
   subst h
   exact trivial
  | succ k=>
   simp only[ents,List.getElem?_cons_succ] at h
   have:=ents_ok (pre:=pre) (ds:=ds) (keep:=r) (by simpa using hl) k s h
   simpa[filtK] using this
 | _ :: _,[],_,hl,_,_,_=>by simp at hl

theorem ents_length:∀{keep:List Bool} {n:Nat},(ents n keep).length=keep.length
 | [],_=>rfl
 | true :: r,n=>by simp[ents,ents_length (keep:=r)]
 | false :: r,n=>by simp[ents,ents_length (keep:=r)]

theorem evalAll_len2 {env:List D}:∀{l:List E} {ds:List D},evalAll env l=some ds→ds.length=l.length
 | [],ds,h=>by simp[evalAll] at h;simp[h]
 | x :: r,ds,h=>by
  simp only[evalAll,Option.bind_eq_some_iff,Option.map_eq_some_iff] at h
  obtain⟨d,_,ds',h2,rfl⟩:=h
  simp[evalAll_len2 h2]

theorem evalAll_filt {env:List D}:∀{keep:List Bool} {l:List E} {ds':List D},l.length=keep.length→evalAll env (filtK keep l)=some ds'→(∀x,x∈filtK (keep.map not) l→∃d,x.eval env=some d)→∃ds,evalAll env l=some ds∧filtK keep ds=ds'
 | [],[],ds',_,h,_=>by
  simp[filtK,evalAll] at h
  subst h
  exact⟨[],rfl,rfl⟩
 | true :: r,x :: l,ds',hl,h,hd=>by
  simp only[filtK,evalAll,Option.bind_eq_some_iff,Option.map_eq_some_iff] at h
  obtain⟨d,h1,ds2,h2,rfl⟩:=h
  obtain⟨ds,g1,g2⟩:=evalAll_filt (keep:=r) (l:=l) (by simpa using hl) h2 (fun x hx=>hd x (by simpa[filtK] using hx))
  exact⟨d :: ds,by simp[evalAll,h1,g1],by simp[filtK,g2]⟩
 | false :: r,x :: l,ds',hl,h,hd=>by
  simp only[filtK] at h
  obtain⟨d,h1⟩:=hd x (by simp[filtK])
  obtain⟨ds,g1,g2⟩:=evalAll_filt (keep:=r) (l:=l) (by simpa using hl) h (fun x hx=>hd x (by simp[filtK,hx]))
  exact⟨d :: ds,by simp[evalAll,h1,g1],by simp[filtK,g2]⟩
 | [],_ :: _,_,hl,_,_=>by simp at hl
 | _ :: _,[],_,hl,_,_=>by simp at hl

theorem evalAll_mem {env:List D}:∀{l:List E} {ds:List D},evalAll env l=some ds→∀x,x∈l→∃d,x.eval env=some d
 | [],_,_,x,hx=>by cases hx
 | y :: r,ds,h,x,hx=>by
  simp only[evalAll,Option.bind_eq_some_iff,Option.map_eq_some_iff] at h
  obtain⟨d,h1,ds2,h2,rfl⟩:=h
  rcases List.mem_cons.1 hx with rfl | hx
  ·exact⟨d,h1⟩
  ·exact evalAll_mem h2 x hx

theorem sure_ok {env:List D}{x:E}(h:sure env.length x=true):∃d,x.eval env=some d:=by
 cases x <;> simp only[sure,decide_eq_true_eq] at h
 case sym k=>exact⟨_,List.getElem?_eq_getElem h⟩
 case const d=>exact⟨d,rfl⟩
 all_goals cases h

theorem keepOr_ok {env:List D}:∀{ks:List Bool} {l:List E},(keepOr env.length ks l).length=l.length→∀x,x∈filtK ((keepOr env.length ks l).map not) l→∃d,x.eval env=some d
 | [],[],_,x,hx=>by simp[keepOr,filtK] at hx
 | b :: r,y :: l,hl,x,hx=>by
  simp only[keepOr,List.length_cons,Nat.add_right_cancel_iff,List.map_cons] at hl hx
  cases hb:(b||!sure env.length y) with
  | true=>
   rw[hb] at hx
   simp only[Bool.not_true,filtK] at hx
   exact keepOr_ok hl x hx
  | false=>
   rw[hb] at hx
   simp only[Bool.not_false,filtK,List.mem_cons] at hx
   rcases hx with rfl | hx
   ·simp only[Bool.or_eq_false_iff,Bool.not_eq_false'] at hb
    exact sure_ok hb.2
   ·exact keepOr_ok hl x hx
 | [],_ :: _,hl,_,_=>by simp[keepOr] at hl
 | _ :: _,[],_,x,hx=>by simp[keepOr,filtK] at hx

structure SigOk (Γ:List (Nat×List Bool))(Q' Q:Sig→Prop):Prop where
 ret:∀d,Q' (.ret d)→Q (.ret d)
 pan:∀d st sl kd,Q' (.pan d st sl kd)→Q (.pan d st sl kd)
 jump:∀l keep,Γ.lookup l=some keep→∀ds:List D,ds.length=keep.length→Q' (.jump l (filtK keep ds))→Q (.jump l ds)

theorem SigOk.catch {Γ:List (Nat×List Bool)}{Q' Q:Sig→Prop}{K' K:List D→Prop}{l:Nat}{keep:List Bool}(h:SigOk Γ Q' Q)(hK:∀ds:List D,ds.length=keep.length→K' (filtK keep ds)→K ds):SigOk ((l,keep) :: Γ) (catchL l K' Q') (catchL l K Q):=by
 refine⟨h.ret,h.pan,fun m kp hm ds hl=>?_⟩
 simp only[List.lookup] at hm
 split at hm
 ·rename_i e
  have e:m=l:=by simpa using e
  cases hm
  subst e
  simp only[catchL,if_true]
  exact hK ds hl
 ·rename_i e
  have e:m≠l:=by simpa using e
  simp only[catchL,if_neg e]
  exact h.jump m kp hm ds hl

theorem SigOk.same {Γ:List (Nat×List Bool)}(hΓ:Γ=[]){Q:Sig→Prop}:SigOk Γ Q Q:=by
 subst hΓ
 exact⟨fun _ h=>h,fun _ _ _ _ h=>h,fun _ _ h=>by cases h⟩

theorem phiOf_den {l n:Nat}{body rest:U}{env:List D}{Q:Sig→Prop}(h:denU P (phiOf l n body rest) env Q):denU P (.join l n body rest) env Q:=by
 unfold phiOf at h
 split at h
 ·rename_i c l1 as l2 bs
  split at h
  ·rename_i hc
   obtain⟨rfl,rfl,h1,h2⟩:=hc
   obtain⟨v,ds,g1,g2,g3,g4⟩:=h
   refine⟨v,g1,fun e=>?_,fun e=>?_⟩
   ·refine⟨⟨[],rfl⟩,ds,g2 e,?_⟩
    simp only[catchL,if_true]
    exact⟨by rw[evalAll_len2 (g2 e),h1],g4⟩
   ·refine⟨⟨[],rfl⟩,ds,g3 e,?_⟩
    simp only[catchL,if_true]
    exact⟨by rw[evalAll_len2 (g3 e),h2],g4⟩
  ·exact h
 ·exact h

end

section
variable {P:Program} {σ:List SE} {env env':List D}

theorem SOk.one (h:SOk σ env env')(hl:env.length=σ.length){d:D}{s:SE}{env2:List D}(he:env' <+: env2)(hs:SEOk env2 (some d) s):SOk (σ++[s]) (env++[d]) env2:=
 h.append hl (fun k s' hk=>by
  cases k with
  | zero=>simp at hk;subst hk;exact hs
  | succ k=>simp at hk) he

theorem SOk.push (h:SOk σ env env')(hl:env.length=σ.length)(d:D):SOk (σ++[.e (.sym env'.length)]) (env++[d]) (env'++[d]):=
 h.one hl (prefix_append _ _) (by simp[SEOk,E.eval])

theorem SOk.pair (h:SOk σ env env')(hl:env.length=σ.length)(d e:D):SOk (σ++[.pair env'.length (env'.length+1)]) (env++[.tup [d,e]]) (env'++[d,e]):=
 h.one hl (prefix_append _ _) ⟨d,e,by simp,by simp,rfl⟩

theorem SOk.ents (h:SOk σ env env')(hl:env.length=σ.length){keep:List Bool}{ds:List D}(hd:ds.length=keep.length):SOk (σ++Go.Am.ents env'.length keep) (env++ds) (env'++filtK keep ds):=
 h.append hl (ents_ok hd) (prefix_append _ _)

theorem bind_gen {b:Bind}{Q:Sig→Prop}{d:D}(h:den P (.bind b (.ret (.sym env.length))) env (fun s=>s=.ret d)){t:T}(k:den P t (env++[d]) Q):den P (.bind b t) env Q:=by
 obtain⟨d',h1,h2⟩:=bind_any h
 obtain⟨d2,g1,g2⟩:=h1
 simp only[E.eval,List.getElem?_append_right (Nat.le_refl _),Nat.sub_self,List.getElem?_cons_zero,Option.some.injEq] at g1
 cases g2
 subst g1
 exact h2 _ _ k

theorem sbBind_den (hσ:SOk σ env env'){b b':Bind}(h:sbBind env'.length σ b=some b'){d:D}(hd:den P (.bind b' (.ret (.sym env'.length))) env' (fun s=>s=.ret d)):den P (.bind b (.ret (.sym env.length))) env (fun s=>s=.ret d):=by
 have last:∀{e:List D} {x:D},den P (.ret (.sym e.length)) (e++[x]) (fun s=>s=.ret d)↔x=d:=by
  intro e x
  constructor
  ·rintro⟨d2,g1,g2⟩
   simp only[E.eval,List.getElem?_append_right (Nat.le_refl _),Nat.sub_self,List.getElem?_cons_zero,Option.some.injEq] at g1
   cases g2
   exact g1
  ·rintro rfl
   exact⟨x,by simp[E.eval],rfl⟩
 cases b with
 | ev x=>
  simp only[sbBind,Option.map_eq_some_iff] at h
  obtain⟨x',h1,rfl⟩:=h
  obtain⟨d0,g1,g2⟩:=hd
  exact⟨d0,by rw[←E.sb_eval hσ h1];exact g1,last.2 (last.1 g2)⟩
 | call act f h' args rs=>
  simp only[sbBind,Option.bind_eq_some_iff,Option.map_eq_some_iff] at h
  obtain⟨act',ha,h2,hh,args',hA,rfl⟩:=h
  obtain⟨k1,k2⟩:=sbAct_eval hσ ha
  obtain⟨g0,d0,g1,g2⟩:=hd
  refine⟨k1 g0,d0,fun hact=>?_,last.2 (last.1 g2)⟩
  obtain⟨st,ds,q1,q2,q3⟩:=g1 (k2.2 hact)
  exact⟨st,ds,by rw[←E.sb_eval hσ hh];exact q1,by rw[←sbAll_eval hσ hA];exact q2,q3⟩
 | wcall act f h' args rs=>
  simp only[sbBind,Option.bind_eq_some_iff,Option.map_eq_some_iff] at h
  obtain⟨act',ha,h2,hh,args',hA,rfl⟩:=h
  obtain⟨k1,k2⟩:=sbAct_eval hσ ha
  obtain⟨g0,st,d0,hn,g1,g2,g3,g4⟩:=hd
  refine⟨k1 g0,st,d0,hn,by rw[←E.sb_eval hσ hh];exact g1,fun hact=>?_,fun hact=>g3 fun hh=>hact (k2.1 hh),last.2 (last.1 g4)⟩
  obtain⟨ds,q2,q3⟩:=g2 (k2.2 hact)
  exact⟨ds,by rw[←sbAll_eval hσ hA];exact q2,q3⟩
 | callv act x h' args rs=>
  simp only[sbBind,Option.bind_eq_some_iff,Option.map_eq_some_iff] at h
  obtain⟨act',ha,x',hx,h2,hh,args',hA,rfl⟩:=h
  obtain⟨k1,k2⟩:=sbAct_eval hσ ha
  obtain⟨g0,d0,g1,g2⟩:=hd
  refine⟨k1 g0,d0,fun hact=>?_,last.2 (last.1 g2)⟩
  obtain⟨f,us,cs,st,ds,q0,q1,q2,q3,q4⟩:=g1 (k2.2 hact)
  exact⟨f,us,cs,st,ds,by rw[←E.sb_eval hσ hx];exact q0,q1,by rw[←E.sb_eval hσ hh];exact q2,by rw[←sbAll_eval hσ hA];exact q3,q4⟩
 | wcallv act x h' args rs=>
  simp only[sbBind,Option.bind_eq_some_iff,Option.map_eq_some_iff] at h
  obtain⟨act',ha,x',hx,h2,hh,args',hA,rfl⟩:=h
  obtain⟨k1,k2⟩:=sbAct_eval hσ ha
  obtain⟨g0,st,d0,hn,g1,g2,g3,g4⟩:=hd
  refine⟨k1 g0,st,d0,hn,by rw[←E.sb_eval hσ hh];exact g1,fun hact=>?_,fun hact=>g3 fun hh=>hact (k2.1 hh),last.2 (last.1 g4)⟩
  obtain⟨xd,ds,q1,q2,q3⟩:=g2 (k2.2 hact)
  exact⟨xd,ds,by rw[←E.sb_eval hσ hx];exact q1,by rw[←sbAll_eval hσ hA];exact q2,q3⟩

theorem filtK_true {α:Type}:∀{m:Nat} {l:List α},l.length=m→filtK (List.replicate m true) l=l
 | 0,[],_=>rfl
 | m+1,x :: l,h=>by simp[List.replicate,filtK,filtK_true (m:=m) (l:=l) (by simpa using h)]

theorem tr_sound:∀(f:Nat) {σ:List SE} {Γ:List (Nat×List Bool)} {t:T} {u:U} {env env':List D} {Q' Q:Sig→Prop},tr f env'.length σ Γ t=some u→env.length=σ.length→SOk σ env env'→SigOk Γ Q' Q→denU P u env' Q'→den P t env Q:=by
 intro f
 induction f with
 | zero=>intro σ Γ t u env env' Q' Q h;simp[tr] at h
 | succ f ih=>
  intro σ Γ t u env env' Q' Q h hl hσ hQ hu
  have pushed:∀{t:T} {u:U} {d:D} {Γ:List (Nat×List Bool)} {Q' Q:Sig→Prop},tr f (env'.length+1) (σ++[.e (.sym env'.length)]) Γ t=some u→SigOk Γ Q' Q→denU P u (env'++[d]) Q'→den P t (env++[d]) Q:=by
   intro t u d Γ Q' Q ht hq hd
   exact ih (env:=env++[d]) (env':=env'++[d]) (by simpa using ht) (by simp[hl]) (hσ.push hl d) hq hd
  have paired:∀{t:T} {u:U} {d e:D} {Γ:List (Nat×List Bool)} {Q' Q:Sig→Prop},tr f (env'.length+2) (σ++[.pair env'.length (env'.length+1)]) Γ t=some u→SigOk Γ Q' Q→denU P u (env'++[d,e]) Q'→den P t (env++[.tup [d,e]]) Q:=by
   intro t u d e Γ Q' Q ht hq hd
   exact ih (env:=env++[.tup [d,e]]) (env':=env'++[d,e]) (by simpa using ht) (by simp[hl]) (hσ.pair hl d e) hq hd
  cases t with
  | bind b t=>
   simp only[tr] at h
   cases hc:chainOf σ.length b t with
   | some r=>
    obtain⟨or,g,inner,k,rest⟩:=r
    simp only[hc,Option.bind_eq_some_iff,Option.map_eq_some_iff] at h
    obtain⟨g',h1,v,h2,r',h3,rfl⟩:=h
    obtain⟨p,q,k1,k2,k3⟩:=hu
    refine chain_sound (by rw[hl];exact hc) (by rw[←E.sb_eval hσ h1];exact k1) (fun e=>ih h2 hl hσ (SigOk.same rfl) (k2 e)) fun us hus=>?_
    rw[List.append_assoc]
    refine ih (env':=env'++[_]) (by simpa using h3) (by simp[hl,hus]) ?_ hQ k3
    refine hσ.append hl (fun k' s hs=>?_) (prefix_append _ _)
    rcases Nat.lt_or_ge k' k with hk | hk
    ·rw[List.getElem?_append_left (by simpa using hk)] at hs
     simp only[List.getElem?_replicate,hk,if_true,Option.some.injEq] at hs
     subst hs
     exact trivial
    ·rw[List.getElem?_append_right (by simpa using hk)] at hs
     rw[List.getElem?_append_right (by omega)]
     simp only[List.length_replicate] at hs
     rw[hus]
     cases hkk:k'-k with
     | zero=>
      rw[hkk] at hs
      simp only[List.getElem?_cons_zero,Option.some.injEq] at hs
      subst hs
      simp[SEOk,E.eval]
     | succ m=>rw[hkk] at hs;simp at hs
   | none=>
    simp only[hc] at h
    have general:∀{b:Bind},((sbBind env'.length σ b).bind fun b'=>(tr f (env'.length+1) (σ++[.e (.sym env'.length)]) Γ t).map (.gen b'))=some u→den P (.bind b t) env Q:=by
     intro b h
     simp only[Option.bind_eq_some_iff,Option.map_eq_some_iff] at h
     obtain⟨b',h1,r,h2,rfl⟩:=h
     obtain⟨d,k1,k2⟩:=hu
     exact bind_gen (sbBind_den hσ h1 k1) (pushed h2 hQ k2)
    split at h
    ·rename_i x
     simp only[Option.bind_eq_some_iff] at h
     obtain⟨x',hx,h⟩:=h
     have ex:=E.sb_eval hσ hx
     split at h
     ·rename_i y hch
      obtain⟨d,k1,k2⟩:=cheap_ok hch (fun e=>by cases e)
      exact⟨d,by rw[←ex];exact k1,ih (env:=env++[d]) h (by simp[hl]) (hσ.one hl (List.prefix_refl _) k2) hQ hu⟩
     ·rename_i y hch
      simp only[Option.map_eq_some_iff] at h
      obtain⟨r,h2,rfl⟩:=h
      obtain⟨d,k1,k2⟩:=cheap_ok hch (fun _=>hu.1)
      exact⟨d,by rw[←ex];exact k1,ih (env:=env++[d]) h2 (by simp[hl]) (hσ.one hl (List.prefix_refl _) k2) hQ hu.2⟩
     ·simp only[Option.map_eq_some_iff] at h
      obtain⟨r,h2,rfl⟩:=h
      obtain⟨d,k1,k2⟩:=hu
      exact⟨d,by rw[←ex];exact k1,pushed h2 hQ k2⟩
    ·simp only[Option.bind_eq_some_iff,Option.map_eq_some_iff] at h
     obtain⟨h',hh,args',ha,r,h2,rfl⟩:=h
     obtain⟨st,ds,d,k1,k2,k3,k4,k5⟩:=hu
     exact⟨fun _ hp=>(by cases hp),d,fun _=>⟨st,ds,by rw[←E.sb_eval hσ hh];exact k1,by rw[←sbAll_eval hσ ha];exact k2,k3,k4⟩,pushed h2 hQ k5⟩
    ·simp only[Option.bind_eq_some_iff,Option.map_eq_some_iff] at h
     obtain⟨h',hh,args',ha,r,h2,rfl⟩:=h
     obtain⟨st,ds,d,hn,k1,k2,k3,k4,k5⟩:=hu
     exact⟨fun _ hp=>(by cases hp),st,d,hn,by rw[←E.sb_eval hσ hh];exact k1,fun _=>⟨ds,by rw[←sbAll_eval hσ ha];exact k2,k3,k4⟩,fun hno=>absurd (fun _ hp=>(by cases hp)) hno,paired h2 hQ k5⟩
    ·simp only[Option.bind_eq_some_iff,Option.map_eq_some_iff] at h
     obtain⟨x',hx,h',hh,args',ha,r,h2,rfl⟩:=h
     obtain⟨fn,us,cs,st,ds,d,g1,g2,k1,k2,k3,k4,k5⟩:=hu
     exact⟨fun _ hp=>(by cases hp),d,fun _=>⟨fn,us,cs,st,ds,by rw[←E.sb_eval hσ hx];exact g1,g2,by rw[←E.sb_eval hσ hh];exact k1,by rw[←sbAll_eval hσ ha];exact k2,k3,k4⟩,pushed h2 hQ k5⟩
    ·exact general h
  | ite c a b=>
   simp only[tr,Option.bind_eq_some_iff,Option.map_eq_some_iff] at h
   obtain⟨c',hc,a',ha,b',hb,rfl⟩:=h
   obtain⟨v,k1,k2,k3⟩:=hu
   exact⟨v,by rw[←E.sb_eval hσ hc];exact k1,fun e=>ih ha hl hσ hQ (k2 e),fun e=>ih hb hl hσ hQ (k3 e)⟩
  | loop l inits body=>
   simp only[tr] at h
   split at h
   ·rename_i hkl
    simp only[Option.bind_eq_some_iff,Option.map_eq_some_iff] at h
    obtain⟨inits',hi,body',hb,rfl⟩:=h
    obtain⟨ds',k1,n,k2⟩:=hu
    rw[←hl] at hkl hi hb
    generalize hkeep:keepOr env.length (liveOf body.bits env.length inits.length) inits=keep at *
    obtain⟨ds,g1,g2⟩:=evalAll_filt (env:=env) (keep:=keep) (l:=inits) hkl.symm (by rw[←sbAll_eval hσ hi];exact k1) (by rw[←hkeep];exact keepOr_ok (by rw[hkeep];exact hkl))
    refine⟨ds,g1,n,?_⟩
    have hin:inits'.length=(filtK keep inits).length:=by
     have e1:=evalAll_len2 k1
     have e2:=evalAll_len2 (show evalAll env (filtK keep inits)=some ds' by rw[←sbAll_eval hσ hi];exact k1)
     omega
    have main:∀(n:Nat) (ds:List D) {R' R:Sig→Prop},ds.length=inits.length→SigOk Γ R' R→rounds l (fun ds Q=>ds.length=inits'.length∧denU P body' (env'++ds) Q) R' n (filtK keep ds)→rounds l (fun ds Q=>ds.length=inits.length∧den P body (env++ds) Q) R n ds:=by
     intro n
     induction n with
     | zero=>intro ds R' R _ _ h;exact h
     | succ n ihn=>
      intro ds R' R hdl hR h
      obtain⟨q1,q2⟩:=h
      refine⟨hdl,ih (env:=env++ds) (env':=env'++filtK keep ds) (by rw[List.length_append,q1];exact hb) (by simp[hl,hdl,ents_length,hkl]) (hσ.ents hl (by omega)) (hR.catch fun ds1 hl1 hr=>ihn ds1 (by omega) hR hr) q2⟩
    exact main n ds (evalAll_len2 g1) hQ (by rw[g2];exact k2)
   ·cases h
  | join l m body rest=>
   simp only[tr] at h
   split at h
   ·rename_i hkl
    simp only[Option.bind_eq_some_iff,Option.map_eq_some_iff] at h
    obtain⟨body',hb,rest',hr,rfl⟩:=h
    have hu:=phiOf_den hu
    generalize liveOf rest.bits σ.length m=keep at *
    show den P body env (catchL l _ Q)
    refine ih hb hl hσ (hQ.catch fun ds hdl hk=>?_) hu
    obtain⟨q1,q2⟩:=hk
    exact⟨by omega,ih (env:=env++ds) (env':=env'++filtK keep ds) (by rw[List.length_append,q1];exact hr) (by simp[hl,hdl,ents_length]) (hσ.ents hl hdl) hQ q2⟩
   ·cases h
  | jump l vals=>
   simp only[tr,Option.bind_eq_some_iff] at h
   obtain⟨keep,hlk,h⟩:=h
   split at h
   ·rename_i hkl
    simp only[Option.bind_eq_some_iff,Option.map_eq_some_iff] at h
    obtain⟨vals',hv,chks,hch,rfl⟩:=h
    obtain⟨⟨cs,k0⟩,ds',k1,k2⟩:=hu
    obtain⟨ds,g1,g2⟩:=evalAll_filt (env:=env) (keep:=keep) (l:=vals) hkl (by rw[←sbAll_eval hσ hv];exact k1) (fun x hx=>by
     cases hs:sure σ.length x with
     | true=>exact sure_ok (by rw[hl];exact hs)
     | false=>exact evalAll_mem (show evalAll env _=some cs by rw[←sbAll_eval hσ hch];exact k0) x (by simp[hx,hs]))
    exact⟨ds,g1,hQ.jump l keep hlk ds (by rw[evalAll_len2 g1,hkl]) (by rw[g2];exact k2)⟩
   ·cases h
  | ret x=>
   simp only[tr,Option.map_eq_some_iff] at h
   obtain⟨x',hx,rfl⟩:=h
   obtain⟨d,k1,k2⟩:=hu
   exact⟨d,by rw[←E.sb_eval hσ hx];exact k1,hQ.ret _ k2⟩
  | pan x hE sl ks=>
   simp only[tr,Option.bind_eq_some_iff,Option.map_eq_some_iff] at h
   obtain⟨x',hx,h',hh,ks',hks,rfl⟩:=h
   obtain⟨d,st,kd,k1,k2,k3,k4⟩:=hu
   exact⟨d,st,kd,by rw[←E.sb_eval hσ hx];exact k1,by rw[←E.sb_eval hσ hh];exact k2,by rw[←sbAll_eval hσ hks];exact k3,hQ.pan _ _ _ _ k4⟩
  | nilq x neg t=>
   simp only[tr,Option.bind_eq_some_iff,Option.map_eq_some_iff] at h
   obtain⟨x',hx,t',ht,rfl⟩:=h
   obtain⟨d,bs,k1,k2,k3⟩:=hu
   exact⟨d,bs,by rw[←E.sb_eval hσ hx];exact k1,k2,fun b hb=>pushed ht hQ (k3 b hb)⟩
  | pick x t=>
   simp only[tr,Option.bind_eq_some_iff,Option.map_eq_some_iff] at h
   obtain⟨x',hx,t',ht,rfl⟩:=h
   obtain⟨ys,k1,k2⟩:=hu
   exact⟨ys,by rw[←E.sb_eval hσ hx];exact k1,fun d st hy=>paired ht hQ (k2 d st hy)⟩
  | dfr fn keep caps res t=>
   simp only[tr,Option.bind_eq_some_iff,Option.map_eq_some_iff] at h
   obtain⟨caps',hc,t',ht,rfl⟩:=h
   obtain⟨cds,k1,k2,k3⟩:=hu
   refine⟨cds,by rw[←sbAll_eval hσ hc];exact k1,k2,ih ht hl hσ ⟨fun d hd=>?_,fun d st sl kd hd=>?_,fun l kp _ ds _ hd=>hd.elim⟩ k3⟩
   ·unfold DfrQ at hd ⊢
    split at hd
    ·obtain⟨st',d',q1,q2,q3⟩:=hd;exact⟨st',d',q1,q2,hQ.ret _ q3⟩
    ·rename_i heq;cases heq
    ·exact hd.elim
   ·unfold DfrQ at hd ⊢
    obtain⟨q0,st',d',q1,q2,q3⟩:=hd
    exact⟨q0,st',d',q1,q2,hQ.ret _ q3⟩
  | pcall fn hE args rs sl ks t=>
   simp only[tr,Option.bind_eq_some_iff,Option.map_eq_some_iff] at h
   obtain⟨h',hh,args',ha,ks',hks,t',ht,rfl⟩:=h
   obtain⟨st,ds,o,k1,k2,k3,k4⟩:=hu
   refine⟨st,ds,o,by rw[←E.sb_eval hσ hh];exact k1,by rw[←sbAll_eval hσ ha];exact k2,k3,?_⟩
   cases o with
   | ret d=>exact⟨k4.1,pushed ht hQ k4.2⟩
   | pan d=>obtain⟨kd,q1,q2⟩:=k4;exact⟨kd,by rw[←sbAll_eval hσ hks];exact q1,hQ.pan _ _ _ _ q2⟩
  | wpcall fn hE args rs sl ks t=>
   simp only[tr,Option.bind_eq_some_iff,Option.map_eq_some_iff] at h
   obtain⟨h',hh,args',ha,ks',hks,t',ht,rfl⟩:=h
   obtain⟨st,ds,o,hn,k1,k2,k3,k4⟩:=hu
   refine⟨st,ds,o,hn,by rw[←E.sb_eval hσ hh];exact k1,by rw[←sbAll_eval hσ ha];exact k2,k3,?_⟩
   cases o with
   | ret d=>exact⟨k4.1,paired ht hQ k4.2⟩
   | pan d=>obtain⟨kd,q1,q2⟩:=k4;exact⟨kd,by rw[←sbAll_eval hσ hks];exact q1,hQ.pan _ _ _ _ q2⟩
  | wpcallv x hE args rs sl ks t=>
   simp only[tr,Option.bind_eq_some_iff,Option.map_eq_some_iff] at h
   obtain⟨x',hx,h',hh,args',ha,ks',hks,t',ht,rfl⟩:=h
   obtain⟨fn,us,cs,st,ds,o,hn,g1,g2,k1,k2,k3,k4⟩:=hu
   refine⟨fn,us,cs,st,ds,o,hn,by rw[←E.sb_eval hσ hx];exact g1,g2,by rw[←E.sb_eval hσ hh];exact k1,by rw[←sbAll_eval hσ ha];exact k2,k3,?_⟩
   cases o with
   | ret d=>exact⟨k4.1,paired ht hQ k4.2⟩
   | pan d=>obtain⟨kd,q1,q2⟩:=k4;exact⟨kd,by rw[←sbAll_eval hσ hks];exact q1,hQ.pan _ _ _ _ q2⟩
  | rfor x hE sl caps m l body rest=>
   simp only[tr,Option.bind_eq_some_iff,Option.map_eq_some_iff] at h
   obtain⟨x',hx,h',hh,caps',hc,body',hb,rest',hr,rfl⟩:=h
   obtain⟨fn,us,cs,st,cds,d,st',g1,g2,k1,k2,k3,k4,k5,k6⟩:=hu
   refine⟨fn,us,cs,st,cds,d,st',by rw[←E.sb_eval hσ hx];exact g1,g2,by rw[←E.sb_eval hσ hh];exact k1,by rw[←sbAll_eval hσ hc];exact k2,k3,k4,fun mm rec hY=>?_,pushed hr hQ k6⟩
   refine k5 mm rec fun st1 ds st2 n1 n2 n3 hden=>hY st1 ds st2 n1 n2 n3 ?_
   have e:(st1 :: ds).length=(List.replicate (m+1) true).length:=by simp[n3]
   have hs:=hσ.ents hl e
   rw[filtK_true (by simp[n3])] at hs
   rw[List.append_assoc] at hden ⊢
   refine ih (env:=env++([st1]++ds)) (env':=env'++([st1]++ds)) (by simpa[n3,Nat.add_comm,Nat.add_left_comm] using hb) (by simp[hl,n3,ents_length]) hs ⟨fun d hd=>(by cases hd),fun _ _ _ _ hd=>(by cases hd),fun l' kp hlk ds' hdl hd=>?_⟩ hden
   simp only[List.lookup] at hlk
   split at hlk
   ·rename_i e'
    have e':l'=l:=by simpa using e'
    cases hlk
    match ds',hdl with
    | [y],_=>
     simp only[filtK] at hd
     rw[hd]
   ·cases hlk
  | rforx x hE sl caps m l q body rest quit=>
   simp only[tr,Option.bind_eq_some_iff,Option.map_eq_some_iff] at h
   obtain⟨x',hx,h',hh,caps',hc,body',hb,rest',hr,quit',hqt,rfl⟩:=h
   obtain⟨fn,us,cs,bs,cds,d,bs',stop,g1,g2,k1,k2,k3,k4,k5,k6⟩:=hu
   refine⟨fn,us,cs,bs,cds,d,bs',stop,by rw[←E.sb_eval hσ hx];exact g1,g2,by rw[←E.sb_eval hσ hh];exact k1,by rw[←sbAll_eval hσ hc];exact k2,k3,fun rec hY=>k4 rec fun bs1 ds b bs2 n1 n2 n3 hden=>hY bs1 ds b bs2 n1 n2 n3 ?_,fun e=>pushed hr hQ (k5 e),fun e=>pushed hqt hQ (k6 e)⟩
   have e:(D.st (bs1.set bs.length (.tup [])) :: ds).length=(List.replicate (m+1) true).length:=by simp[n2]
   have hs:=hσ.ents hl e
   rw[filtK_true (by simp[n2])] at hs
   rw[List.append_assoc] at hden ⊢
   refine ih (env:=env++([D.st (bs1.set bs.length (.tup []))]++ds)) (env':=env'++([D.st (bs1.set bs.length (.tup []))]++ds)) (by simpa[n2,Nat.add_comm,Nat.add_left_comm] using hb) (by simp[hl,n2,ents_length]) hs ⟨fun d hd=>hd,fun _ _ _ _ hd=>hd,fun l' kp hlk ds' hdl hd=>?_⟩ hden
   have hkp:kp=[true]:=by
    simp only[List.lookup] at hlk
    split at hlk
    ·cases hlk;rfl
    ·split at hlk
     ·cases hlk;rfl
     ·cases hlk
   subst hkp
   match ds',hdl with
   | [y],_=>exact hd


def shorten (n:Nat)(t:T):Option U:=tr 100000 n ((List.range n).map fun k=>.e (.sym k)) [] t

theorem shorten_ok {t:T}{u:U}{Q:Sig→Prop}(h:shorten env.length t=some u)(hu:denU P u env Q):den P t env Q:=
 tr_sound 100000 h (by simp) (fun k s hk=>by
  simp only[List.getElem?_map,Option.map_eq_some_iff] at hk
  obtain⟨j,h1,rfl⟩:=hk
  have:j=k:=by
   rw[List.getElem?_range (by
    have:=(List.getElem?_eq_some_iff.1 h1).1
    simpa using this)] at h1
   exact(Option.some.inj h1).symm
  subst this
  rfl) (SigOk.same rfl) hu

end
end Go.Am

/-
 Functions with their shorter texts.
-/
namespace Go.Am

def UOk (P:Program)(f:FuncId)(kn:Kn)(cf:StCfg)(ones:List Bool)(u:U):Prop:=
 ∃fn,P.funcs[f]? = some fn∧paramOnes P fn=ones∧(match kn with
  | .plain=>(compileFn P cf fn).bind (shorten (ones.length+1))
  | .defers keep=>(compileDefer P cf fn keep).bind (shorten (ones.length+1))
  | .recovers=>(compileR P cf fn).bind (shorten (ones.length+2)))=some u

section
variable {P:Program} {f:FuncId} {kn:Kn} {cf:StCfg} {ones:List Bool} {u:U} {ds bs bs':List D} {d:D} {o:Out}

theorem UOk.plain {fn:Func}(hf:P.funcs[f]? = some fn)(h1:paramOnes P fn=ones)(h2:(compileFn P cf fn).bind (shorten (ones.length+1))=some u):UOk P f .plain cf ones u:=⟨fn,hf,h1,h2⟩
theorem UOk.defers {fn:Func}{keep:List Nat}(hf:P.funcs[f]? = some fn)(h1:paramOnes P fn=ones)(h2:(compileDefer P cf fn keep).bind (shorten (ones.length+1))=some u):UOk P f (.defers keep) cf ones u:=⟨fn,hf,h1,h2⟩
theorem UOk.recovers {fn:Func}(hf:P.funcs[f]? = some fn)(h1:paramOnes P fn=ones)(h2:(compileR P cf fn).bind (shorten (ones.length+2))=some u):UOk P f .recovers cf ones u:=⟨fn,hf,h1,h2⟩

theorem UOk.readO (h:UOk P f .plain cf ones u)(hro:cf.ro=true)(hfit:argsFit ones ds=true)(hden:denU P u (ds++[.st bs]) (EndsIn o (.st bs))):FSpecO P f (.st bs) ds o:=by
 obtain⟨fn,hf,rfl,hc⟩:=h
 obtain⟨t,h1,h2⟩:=Option.bind_eq_some_iff.1 hc
 obtain⟨hl,_⟩:=argsFit_spec hfit
 exact fspecO hro hf h1 hfit (shorten_ok (by simpa[←hl] using h2) hden)

theorem UOk.writeO (h:UOk P f .plain cf ones u)(hfit:argsFit ones ds=true)(hden:denU P u (ds++[.st bs]) (EndsIn o (.st bs'))):FSpecWO P f (.st bs) ds o (.st bs'):=by
 obtain⟨fn,hf,rfl,hc⟩:=h
 obtain⟨t,h1,h2⟩:=Option.bind_eq_some_iff.1 hc
 obtain⟨hl,_⟩:=argsFit_spec hfit
 exact fspecWO hf h1 hfit (shorten_ok (by simpa[←hl] using h2) hden)

theorem UOk.recoverD {m:Option D}{d0:D}(h:UOk P f .recovers cf ones u)(hfit:argsFit ones ds=true)(hm:(recD m).one=true)(hden:denU P u (ds++[.st bs,recD m]) (fun s=>s=.ret (.tup [d0,.st bs']))):FSpecD P f (.st bs) ds m (.st bs'):=by
 obtain⟨fn,hf,rfl,hc⟩:=h
 obtain⟨t,h1,h2⟩:=Option.bind_eq_some_iff.1 hc
 obtain⟨hl,_⟩:=argsFit_spec hfit
 exact fspecD hf h1 hfit hm (shorten_ok (by simpa[←hl] using h2) hden)

theorem UOk.R (h:UOk P f .plain cf ones u)(hro:cf.ro=true)(hfit:argsFit ones ds=true)(hden:denU P u (ds++[.st bs]) (fun s=>s=.ret (.tup [d,.st bs]))):FSpecR P f (.st bs) ds d:=h.readO hro hfit hden

theorem UOk.W (h:UOk P f .plain cf ones u)(hfit:argsFit ones ds=true)(hden:denU P u (ds++[.st bs]) (fun s=>s=.ret (.tup [d,.st bs']))):FSpecW P f (.st bs) ds d (.st bs'):=h.writeO hfit hden
end

/-! ## to write texts with -/

def ups:List (U→U)→U→U
 | [],u=>u
 | f :: r,u=>f (ups r u)

theorem ups_nil (u:U):ups [] u=u:=rfl
theorem ups_cons (f:U→U)(r:List (U→U))(u:U):ups (f :: r) u=f (ups r u):=rfl

abbrev ki (n:Int):E:=.const (.v (.int .i64 n))
abbrev kb (b:Bool):E:=.const (.v (.bool b))

def agcFrom (x:E):Nat→Nat→E
 | _,0=>.nil
 | k,n+1=>.cons (.cell k x) (agcFrom x (k+1) n)

def agc (n:Nat)(x:E):E:=agcFrom x 0 n

end Go.Am

/-
 Steps for proofs about the shorter texts.
-/
namespace Go.Am

/-! ## short names,for the blocks of steps -/

theorem sbc {α:Type}{a:α}{as bs:List α}:a :: as++bs=a :: (as++bs):=rfl
theorem sbn {α:Type}{as:List α}:[]++as=as:=rfl
theorem sb0:(!true)=false:=rfl
theorem sb1:(!false)=true:=rfl
theorem sb2 {p:Prop}[Decidable p]:(decide p=true)=p:=decide_eq_true_eq
theorem sb3 {p:Prop}[Decidable p]:(decide p=false)↔¬p:=decide_eq_false_iff_not
theorem sb4 (a b:Bool):((a&&b)=true)=(a=true∧b=true):=Bool.and_eq_true a b
theorem sb5 (a b:Bool):((a||b)=true)=(a=true∨b=true):=Bool.or_eq_true a b
theorem sb6 {a b:Bool}:(a||b)=false↔a=false∧b=false:=Bool.or_eq_false_iff
theorem sb7 {a:Bool}:(!a)=true↔a=false:=by cases a <;> simp
theorem sb8 {a:Bool}:(!a)=false↔a=true:=by cases a <;> simp
theorem sb9 {a b:Int}:¬a<b↔b≤a:=Int.not_lt
theorem sb10 {a b:Int}:¬a≤b↔b<a:=Int.not_le
theorem sb11 {α:Type}[BEq α][LawfulBEq α]{a b:α}:(a==b)=true↔a=b:=beq_iff_eq
theorem sb12 {α:Type}[BEq α][LawfulBEq α]{a b:α}:(a != b)=true↔a≠b:=bne_iff_ne
theorem sb13 {α:Type}[BEq α][LawfulBEq α]{a b:α}:(a==b)=false↔a≠b:=beq_eq_false_iff_ne
theorem sb14 {α:Type}[BEq α][LawfulBEq α]{a b:α}:(a != b)=false↔a=b:=bne_eq_false_iff_eq
theorem sb15 {a b:Bool}:(a&&b)=false↔a=false∨b=false:=Bool.and_eq_false_iff
theorem sb16 {p:Prop}[Decidable p]:¬¬p↔p:=Decidable.not_not
theorem sb17 (c f:Bool):(bif c then true else f)=(c||f):=Bool.cond_true_left c f
theorem sb18 (c t:Bool):(bif c then t else false)=(c&&t):=Bool.cond_false_right c t

theorem sbs:(((!true)=false)∧((!false)=true)∧(∀(p:Prop) [Decidable p],(decide p=true)=p)∧(∀(p:Prop) [Decidable p],(decide p=false)↔¬p)∧(∀a b:Bool,((a&&b)=true)=(a=true∧b=true))∧(∀a b:Bool,((a||b)=true)=(a=true∨b=true))∧(∀a b:Bool,(a||b)=false↔a=false∧b=false)∧(∀a:Bool,(!a)=true↔a=false)∧(∀a:Bool,(!a)=false↔a=true)∧(∀a b:Int,¬a<b↔b≤a)∧(∀a b:Int,¬a≤b↔b<a))∧((∀a b:Int,(a==b)=true↔a=b)∧(∀a b:Int,(a != b)=true↔a≠b)∧(∀a b:Int,(a==b)=false↔a≠b)∧(∀a b:Int,(a != b)=false↔a=b)∧(∀a b:Bool,(a==b)=true↔a=b)∧(∀a b:Bool,(a != b)=true↔a≠b)∧(∀a b:Bool,(a==b)=false↔a≠b)∧(∀a b:Bool,(a != b)=false↔a=b)∧(∀a b:Bool,(a&&b)=false↔a=false∨b=false)∧(∀(p:Prop) [Decidable p],¬¬p↔p)∧(∀c f:Bool,(bif c then true else f)=(c||f))∧(∀c t:Bool,(bif c then t else false)=(c&&t))∧(∀a b:Int,(a≠b)=¬(a=b))∧(∀a b:Bool,(a≠b)=¬(a=b))∧((false=true)=False)∧((true=false)=False)∧(∀p:Prop,(False∨p)=p)∧(∀p:Prop,(p∨False)=p)∧(∀p:Prop,(True∧p)=p)∧(∀p:Prop,(p∧True)=p)):=
 ⟨⟨rfl,rfl,fun _ _=>sb2,fun _ _=>sb3,sb4,sb5,fun _ _=>sb6,fun _=>sb7,fun _=>sb8,fun _ _=>sb9,fun _ _=>sb10⟩,fun _ _=>sb11,fun _ _=>sb12,fun _ _=>sb13,fun _ _=>sb14,fun _ _=>sb11,fun _ _=>sb12,fun _ _=>sb13,fun _ _=>sb14,fun _ _=>sb15,fun _ _=>sb16,sb17,sb18,fun _ _=>rfl,fun _ _=>rfl,by simp,by simp,false_or,or_false,true_and,and_true⟩

theorem sbe:(∀{α:Type} (a:α) (as bs:List α),a :: as++bs=a :: (as++bs))∧(∀{α:Type} (as:List α),[]++as=as):=⟨fun _ _ _=>rfl,fun _=>rfl⟩

/-! ## steps -/

def NrmD (P:Program)(u:U)(env:List D)(Q:Sig→Prop):Prop:=denU P u env Q

def KJ (P:Program)(n:Nat)(rest:U)(env:List D)(Q:Sig→Prop)(ds:List D):Prop:=ds.length=n∧denU P rest (env++ds) Q

def selD (p:Bool)(a b:D):D:=
 match a,b with
 | .v (.bool x),.v (.bool y)=>.v (.bool (bif p then x else y))
 | .v (.int .i64 x),.v (.int .i64 y)=>.v (.int .i64 (if p=true then x else y))
 | a,b=>bif p then a else b

theorem selD_true (a b:D):selD true a b=a:=by
 unfold selD;split <;> rfl
theorem selD_false (a b:D):selD false a b=b:=by
 unfold selD;split <;> simp

theorem zipSel {p:Bool}:∀{as bs:List D},as.length=bs.length→(p=true→List.zipWith (selD p) as bs=as)∧(p=false→List.zipWith (selD p) as bs=bs)
 | [],[],_=>⟨fun _=>rfl,fun _=>rfl⟩
 | a :: as,b :: bs,h=>by
  obtain⟨h1,h2⟩:=zipSel (p:=p) (as:=as) (bs:=bs) (by simpa using h)
  exact⟨fun e=>by rw[List.zipWith_cons_cons,h1 e,e,selD_true],fun e=>by rw[List.zipWith_cons_cons,h2 e,e,selD_false]⟩
 | [],_ :: _,h | _ :: _,[],h=>by simp at h

section
variable {P:Program} {u v a b rest body:U} {env env2:List D} {Q:Sig→Prop} {x y z g h:E} {d st h':D} {ds:List D} {args:List E} {rs:List Bool} {f:FuncId} {p q:Bool} {l n:Nat}

theorem nrm (he:env=env2)(k:denU P u env2 Q):NrmD P u env Q:=by subst he;exact k
theorem kj (hl:ds.length=n)(k:NrmD P rest (env++ds) Q):KJ P n rest env Q ds:=⟨hl,k⟩

theorem u_ev (hx:x.eval env=some d)(he:env++[d]=env2)(k:denU P u env2 Q):denU P (.ev x u) env Q:=by subst he;exact⟨d,hx,k⟩
theorem u_sel {dy dz:D}(hg:g.eval env=some (.v (.bool p)))(hy:y.eval env=some dy)(hz:z.eval env=some dz)(he:env++[selD p dy dz]=env2)(k:denU P u env2 Q):denU P (.ev (.ite g y z) u) env Q:=by
 subst he
 exact⟨_,by cases p <;> simp only[E.eval,hg,hy,hz,selD_true,selD_false],k⟩
theorem u_chk (hx:x.eval env=some d)(k:denU P u env Q):denU P (.chk x u) env Q:=⟨⟨d,hx⟩,k⟩
theorem u_call (hs:h.eval env=some st)(ha:evalAll env args=some ds)(hf:FSpecR P f st ds d)(hr:d.fits rs=true)(he:env++[d]=env2)(k:denU P u env2 Q):denU P (.call f h args rs u) env Q:=by subst he;exact⟨st,ds,d,hs,ha,hf,hr,k⟩
theorem u_wcall (hs:h.eval env=some st)(ha:evalAll env args=some ds)(hf:FSpecW P f st ds d h')(hr:d.fits rs=true)(he:env++[d,h']=env2)(k:denU P u env2 Q):denU P (.wcall f h args rs u) env Q:=by subst he;exact⟨st,ds,d,h',hs,ha,hf,hr,k⟩
theorem u_callv {us cs:List D}(hx:x.eval env=some (.fn f us cs))(hc:callable P f=true)(hs:h.eval env=some st)(ha:evalAll env args=some ds)(hf:FSpecR P f st (us++ds++cs) d)(hr:d.fits rs=true)(he:env++[d]=env2)(k:denU P u env2 Q):denU P (.callv x h args rs u) env Q:=by subst he;exact⟨f,us,cs,st,ds,d,hx,hc,hs,ha,hf,hr,k⟩

theorem u_or (hg:g.eval env=some (.v (.bool p)))(h1:p=false→denU P v env (fun s=>s=.ret (.v (.bool q))))(k:NrmD P u (env++[.v (.bool (p||q))]) Q):denU P (.chain true g v u) env Q:=⟨p,q,hg,h1,k⟩
theorem u_and (hg:g.eval env=some (.v (.bool p)))(h1:p=true→denU P v env (fun s=>s=.ret (.v (.bool q))))(k:NrmD P u (env++[.v (.bool (p&&q))]) Q):denU P (.chain false g v u) env Q:=⟨p,q,hg,h1,k⟩
theorem u_ite {c:Bool}(hg:g.eval env=some (.v (.bool c)))(k1:c=true→denU P a env Q)(k2:c=false→denU P b env Q):denU P (.ite g a b) env Q:=⟨c,hg,k1,k2⟩
theorem u_iteT {c:Bool}(hg:g.eval env=some (.v (.bool c)))(hc:c=true)(k:denU P a env Q):denU P (.ite g a b) env Q:=⟨c,hg,fun _=>k,fun e=>(by rw[hc] at e;cases e)⟩
theorem u_iteF {c:Bool}(hg:g.eval env=some (.v (.bool c)))(hc:c=false)(k:denU P b env Q):denU P (.ite g a b) env Q:=⟨c,hg,fun e=>(by rw[hc] at e;cases e),fun _=>k⟩
theorem u_join (k:denU P body env (catchL l (KJ P n rest env Q) Q)):denU P (.join l n body rest) env Q:=k

theorem u_phi {as bs:List E}{ds1 ds2:List D}(hg:g.eval env=some (.v (.bool p)))(h1:p=true→evalAll env as=some ds1)(h2:p=false→evalAll env bs=some ds2)(hl:ds1.length=ds2.length)(he:env++List.zipWith (selD p) ds1 ds2=env2)(k:denU P rest env2 Q):denU P (.phi g as bs rest) env Q:=by
 subst he
 exact⟨p,_,hg,fun e=>by rw[(zipSel hl).1 e];exact h1 e,fun e=>by rw[(zipSel hl).2 e];exact h2 e,k⟩

theorem u_jump {vals chks:List E}{cs:List D}(hc:evalAll env chks=some cs)(hv:evalAll env vals=some ds)(k:Q (.jump l ds)):denU P (.jump l vals chks) env Q:=⟨⟨cs,hc⟩,ds,hv,k⟩
theorem u_ret (hx:x.eval env=some d)(k:Q (.ret d)):denU P (.ret x) env Q:=⟨d,hx,k⟩
theorem u_pan {sl:List Nat}{ks:List E}(hx:x.eval env=some d)(hh:h.eval env=some st)(hk:evalAll env ks=some ds)(k:Q (.pan d st sl ds)):denU P (.pan x h sl ks) env Q:=⟨d,st,ds,hx,hh,hk,k⟩

theorem u_loop {inits:List E}(I:Nat→List D→Prop)(hi:evalAll env inits=some ds)(k:Nat)(h0:I k ds)(hb:∀k ds,I k ds→ds.length=inits.length∧∀R:List D→Prop,(∀k' ds',k'<k→I k' ds'→R ds')→NrmD P body (env++ds) (catchL l R Q)):denU P (.loop l inits body) env Q:=
 ⟨ds,hi,k+1,rounds_inv (fun _ _ _ hR h=>⟨h.1,denU_mono hR h.2⟩) I (fun k ds h R hR=>⟨(hb k ds h).1,(hb k ds h).2 R hR⟩) k ds h0⟩

theorem u_range {inits:List E} (f:Nat→List D) (J:Nat→Prop) (n:Nat) (h0:evalAll env inits=some (f 0)) (hl:∀i,(f i).length=inits.length) (j0:J 0)
  (hb:∀i,i<n→J i→∀R:List D→Prop,(J (i+1)→R (f (i+1)))→NrmD P body (env++f i) (catchL l R Q))
  (he:J n→∀R:List D→Prop,NrmD P body (env++f n) (catchL l R Q)):denU P (.loop l inits body) env Q:=by
 refine u_loop (fun k ds=>∃i,i≤n∧k=n-i∧ds=f i∧J i) h0 n ⟨0,Nat.zero_le _,rfl,rfl,j0⟩ ?_
 rintro k _ ⟨i,hi,rfl,rfl,hJ⟩
 refine⟨hl i,fun R hR=>?_⟩
 rcases Nat.lt_or_ge i n with h | h
 ·exact hb i h hJ R fun hJ'=>hR (n-(i+1)) _ (by omega) ⟨i+1,h,rfl,rfl,hJ'⟩
 ·have e:i=n:=by omega
  subst e
  exact he hJ R

/-! ### numbers -/

theorem ev_add {env:List D}{y z:E}{m k:Int}(hy:y.eval env=some (.v (.int .i64 m)))(hz:z.eval env=some (.v (.int .i64 k)))(hb:-9223372036854775808≤m+k∧m+k<9223372036854775808):(E.bin .add .int y z).eval env=some (.v (.int .i64 (m+k))):=by
 simp only[E.eval,hy,hz,Option.bind_some,D.bin,cmpI,arI,wrap64 hb,if_true,Option.map_some]
 first | done | rfl
theorem ev_sub {env:List D}{y z:E}{m k:Int}(hy:y.eval env=some (.v (.int .i64 m)))(hz:z.eval env=some (.v (.int .i64 k)))(hb:-9223372036854775808≤m-k∧m-k<9223372036854775808):(E.bin .sub .int y z).eval env=some (.v (.int .i64 (m-k))):=by
 simp only[E.eval,hy,hz,Option.bind_some,D.bin,cmpI,arI,wrap64 hb,if_true,Option.map_some]
 first | done | rfl
theorem ev_mul {env:List D}{y z:E}{m k:Int}(hy:y.eval env=some (.v (.int .i64 m)))(hz:z.eval env=some (.v (.int .i64 k)))(hb:-9223372036854775808≤m*k∧m*k<9223372036854775808):(E.bin .mul .int y z).eval env=some (.v (.int .i64 (m*k))):=by
 simp only[E.eval,hy,hz,Option.bind_some,D.bin,cmpI,arI,wrap64 hb,if_true,Option.map_some]
 first | done | rfl
theorem ev_inc {env:List D}{y:E}{i:Nat}(hy:y.eval env=some (.v (.int .i64 i)))(hb:i<4611686018427387904):(E.bin .add .int y (.const (.v (.int .i64 1)))).eval env=some (.v (.int .i64 (i+1:Nat))):=
 ev_add (k:=1) hy (by rfl) (by omega)
theorem ev_dec {env:List D}{y:E}{i:Nat}(hy:y.eval env=some (.v (.int .i64 (i+1:Nat))))(hb:i<4611686018427387904):(E.bin .sub .int y (.const (.v (.int .i64 1)))).eval env=some (.v (.int .i64 i)):=by
 have:=ev_sub (z:=.const (.v (.int .i64 1))) (k:=1) hy (by rfl) (by omega)
 rw[this]
 congr 3
 omega

theorem ev_pred {env:List D}{y:E}{i:Nat}(hy:y.eval env=some (.v (.int .i64 i)))(hb:1≤i∧i<4611686018427387904):(E.bin .sub .int y (.const (.v (.int .i64 1)))).eval env=some (.v (.int .i64 (i-1:Nat))):=by
 obtain⟨k,rfl⟩:∃k,i=k+1:=⟨i-1,by omega⟩
 exact ev_dec hy (by omega)

/-! ### ends -/
theorem retD {d d' st:D}(h:d=d'):Sig.ret (.tup [d,st])=Sig.ret (.tup [d',st]):=by rw[h]
theorem retB {x y:Bool}{st:D}(h:x=y):Sig.ret (.tup [.v (.bool x),st])=Sig.ret (.tup [.v (.bool y),st]):=by rw[h]
theorem retI {k:IntKind}{x y:Int}{st:D}(h:x=y):Sig.ret (.tup [.v (.int k x),st])=Sig.ret (.tup [.v (.int k y),st]):=by rw[h]
end

/-! ## lists as data -/
section
variable {α:Type} {enc:α→D} {xs:List α} {i:Nat} {a:α}

theorem lenL_map:D.lenL (.lst (xs.map enc))=some (.v (.int .i64 xs.length)):=by simp[D.lenL]

end
end Go.Am

/-
 The store: what is found in its blocks;loops over lists.
-/
namespace Go.Am

def SlOf {α:Type}(bs:List D)(e:TypeId)(sz:Nat)(enc:α→List D)(s:D)(xs:List α):Prop:=
 (xs=[]∧s=.snil)∨∃i,s=.sl i 0 xs.length∧bs[i]? = some (.blk e sz (xs.flatMap enc))

def D.sid:D→Option Nat
 | .sl i _ _=>some i
 | _=>none

section
variable {α:Type} {bs bs':List D} {e:TypeId} {sz:Nat} {enc:α→List D} {s:D} {xs:List α}

theorem SlOf.len (h:SlOf bs e sz enc s xs):D.lenL s=some (.v (.int .i64 xs.length)):=by
 rcases h with⟨rfl,rfl⟩ | ⟨i,rfl,_⟩ <;> rfl

theorem SlOf.get (h:SlOf bs e sz enc s xs){i:Nat}(hi:i<xs.length):∃b,s=.sl b 0 xs.length∧bs[b]? = some (.blk e sz (xs.flatMap enc)):=by
 rcases h with⟨rfl,_⟩ | h
 ·simp at hi
 ·exact h

theorem SlOf.keep (h:SlOf bs e sz enc s xs)(hk:∀i,s.sid=some i→bs'[i]? = bs[i]?):SlOf bs' e sz enc s xs:=by
 rcases h with h | ⟨i,rfl,h⟩
 ·exact .inl h
 ·exact .inr ⟨i,rfl,by rw[hk i rfl];exact h⟩

theorem SlOf.lt (h:SlOf bs e sz enc s xs){i:Nat}(hi:s.sid=some i):i<bs.length:=by
 rcases h with⟨_,rfl⟩ | ⟨j,rfl,h⟩
 ·cases hi
 ·cases hi
  exact(List.getElem?_eq_some_iff.1 h).1

theorem SlOf.blk (h:SlOf bs e sz enc s xs){i:Nat}(hi:s.sid=some i):bs[i]? = some (.blk e sz (xs.flatMap enc)):=by
 rcases h with⟨_,rfl⟩ | ⟨j,rfl,h⟩
 ·cases hi
 ·cases hi
  exact h

theorem SlOf.nil:SlOf bs e sz enc .snil ([]:List α):=.inl ⟨rfl,rfl⟩

theorem flat_length (hsz:∀x,(enc x).length=sz):∀{xs:List α},(xs.flatMap enc).length=xs.length*sz
 | []=>by simp
 | y :: ys=>by rw[List.flatMap_cons,List.length_append,flat_length hsz,hsz y,List.length_cons,Nat.add_mul];omega

end

section
variable {P:Program} {u:U} {Q:Sig→Prop} {env env2:List D} {x y z:E} {d dx dy dz:D}
theorem u_ld {g:Bool}{n:Nat}(hx:x.eval env=some dx)(hy:y.eval env=some dy)(h:D.ld g n dx dy=some d)(he:env++[d]=env2)(kk:denU P u env2 Q):denU P (.ev (.ld g n x y) u) env Q:=by
 subst he
 exact⟨d,by simp only[E.eval,hx,hy,Option.bind_some,h],kk⟩
theorem u_eaddr {n:Nat}(hx:x.eval env=some dx)(hy:y.eval env=some dy)(h:D.eaddr n dx dy=some d)(he:env++[d]=env2)(kk:denU P u env2 Q):denU P (.ev (.eaddr n x y) u) env Q:=by
 subst he
 exact⟨d,by simp only[E.eval,hx,hy,Option.bind_some,h],kk⟩
theorem u_lenL  (hx:x.eval env=some dx)(h:D.lenL dx=some d)(he:env++[d]=env2)(kk:denU P u env2 Q):denU P (.ev (.lenL x) u) env Q:=by
 subst he
 exact⟨d,by simp only[E.eval,hx,Option.bind_some,h],kk⟩
theorem u_idx  (hx:x.eval env=some dx)(hy:y.eval env=some dy)(h:D.idx dx dy=some d)(he:env++[d]=env2)(kk:denU P u env2 Q):denU P (.ev (.idx x y) u) env Q:=by
 subst he
 exact⟨d,by simp only[E.eval,hx,hy,Option.bind_some,h],kk⟩
theorem u_idxN {n:Nat}(hx:x.eval env=some dx)(hy:y.eval env=some dy)(h:D.idxN n dx dy=some d)(he:env++[d]=env2)(kk:denU P u env2 Q):denU P (.ev (.idxN n x y) u) env Q:=by
 subst he
 exact⟨d,by simp only[E.eval,hx,hy,Option.bind_some,h],kk⟩
theorem u_app {n m:Nat}(hx:x.eval env=some dx)(hy:y.eval env=some dy)(h:D.app n m dx dy=some d)(he:env++[d]=env2)(kk:denU P u env2 Q):denU P (.ev (.app n m x y) u) env Q:=by
 subst he
 exact⟨d,by simp only[E.eval,hx,hy,Option.bind_some,h],kk⟩
theorem u_subl {n:Nat}(hx:x.eval env=some dx)(hy:y.eval env=some dy)(hz:z.eval env=some dz)(h:D.sub n dx dy dz=some d)(he:env++[d]=env2)(kk:denU P u env2 Q):denU P (.ev (.sub n x y z) u) env Q:=by
 subst he
 exact⟨d,by simp only[E.eval,hx,hy,hz,Option.bind_some,h],kk⟩
theorem u_set {k:Nat}(hx:x.eval env=some dx)(hy:y.eval env=some dy)(hz:z.eval env=some dz)(h:D.set dx dy k dz=some d)(he:env++[d]=env2)(kk:denU P u env2 Q):denU P (.ev (.set x y k z) u) env Q:=by
 subst he
 exact⟨d,by simp only[E.eval,hx,hy,hz,Option.bind_some,h],kk⟩
theorem u_sto {n:Nat}(hx:x.eval env=some dx)(hy:y.eval env=some dy)(hz:z.eval env=some dz)(h:D.sto n dx dy dz=some d)(he:env++[d]=env2)(kk:denU P u env2 Q):denU P (.ev (.sto n x y z) u) env Q:=by
 subst he
 exact⟨d,by simp only[E.eval,hx,hy,hz,Option.bind_some,h],kk⟩
theorem u_apph {e n m:Nat}(hx:x.eval env=some dx)(hy:y.eval env=some dy)(hz:z.eval env=some dz)(h:D.apph e n m dx dy dz=some d)(he:env++[d]=env2)(kk:denU P u env2 Q):denU P (.ev (.apph e n m x y z) u) env Q:=by
 subst he
 exact⟨d,by simp only[E.eval,hx,hy,hz,Option.bind_some,h],kk⟩
theorem u_apps  (hx:x.eval env=some dx)(hy:y.eval env=some dy)(hz:z.eval env=some dz)(h:D.apps dx dy dz=some d)(he:env++[d]=env2)(kk:denU P u env2 Q):denU P (.ev (.apps x y z) u) env Q:=by
 subst he
 exact⟨d,by simp only[E.eval,hx,hy,hz,Option.bind_some,h],kk⟩
theorem u_rep {n:Nat}{d0:D}(hx:x.eval env=some dx)(h:D.rep n dx d0=some d)(he:env++[d]=env2)(kk:denU P u env2 Q):denU P (.ev (.rep n x d0) u) env Q:=by
 subst he
 exact⟨d,by simp only[E.eval,hx,Option.bind_some,h],kk⟩
theorem u_newb {e n:Nat}(hx:x.eval env=some dx)(hy:y.eval env=some dy)(h:D.newb e n dx dy=some d)(he:env++[d]=env2)(kk:denU P u env2 Q):denU P (.ev (.newb e n x y) u) env Q:=by
 subst he
 exact⟨d,by simp only[E.eval,hx,hy,Option.bind_some,h],kk⟩
theorem u_bin {o:BinOp}{k:Kd}(hx:x.eval env=some dx)(hy:y.eval env=some dy)(h:D.bin o k dx dy=some d)(he:env++[d]=env2)(kk:denU P u env2 Q):denU P (.ev (.bin o k x y) u) env Q:=by
 subst he
 exact⟨d,by simp only[E.eval,hx,hy,Option.bind_some,h],kk⟩
theorem u_frzv {g:Bool}(hx:x.eval env=some dx)(hy:y.eval env=some dy)(h:D.frzv g dx dy=some d)(he:env++[d]=env2)(kk:denU P u env2 Q):denU P (.ev (.frzv g x y) u) env Q:=by
 subst he
 exact⟨d,by simp only[E.eval,hx,hy,Option.bind_some,h],kk⟩
theorem u_frzh  (hx:x.eval env=some dx)(hy:y.eval env=some dy)(h:D.frzh dx dy=some d)(he:env++[d]=env2)(kk:denU P u env2 Q):denU P (.ev (.frzh x y) u) env Q:=by
 subst he
 exact⟨d,by simp only[E.eval,hx,hy,Option.bind_some,h],kk⟩
theorem u_newv {e n:Nat}(hx:x.eval env=some dx)(hy:y.eval env=some dy)(h:D.newv e n dx dy=some d)(he:env++[d]=env2)(kk:denU P u env2 Q):denU P (.ev (.newv e n x y) u) env Q:=by
 subst he
 exact⟨d,by simp only[E.eval,hx,hy,Option.bind_some,h],kk⟩
theorem u_fstsl  (hx:x.eval env=some dx)(hy:y.eval env=some dy)(h:D.fstsl dx dy=some d)(he:env++[d]=env2)(kk:denU P u env2 Q):denU P (.ev (.fstsl x y) u) env Q:=by
 subst he
 exact⟨d,by simp only[E.eval,hx,hy,Option.bind_some,h],kk⟩
theorem u_m4 {o:MOp}{w:E}{dw:D}(hx:x.eval env=some dx)(hy:y.eval env=some dy)(hz:z.eval env=some dz)(hw:w.eval env=some dw)(h:D.m4 o dx dy dz dw=some d)(he:env++[d]=env2)(kk:denU P u env2 Q):denU P (.ev (.m4 o x y z w) u) env Q:=by
 subst he
 exact⟨d,by simp only[E.eval,hx,hy,hz,hw,Option.bind_some,h],kk⟩
theorem u_mm {g:Bool}(hx:x.eval env=some dx)(hy:y.eval env=some dy)(h:D.mm g dx dy=some d)(he:env++[d]=env2)(kk:denU P u env2 Q):denU P (.ev (.mm g x y) u) env Q:=by
 subst he
 exact⟨d,by simp only[E.eval,hx,hy,Option.bind_some,h],kk⟩
theorem u_cells {i n:Nat}(hx:x.eval env=some dx)(h:D.part i n dx=some d)(he:env++[d]=env2)(kk:denU P u env2 Q):denU P (.ev (.cells i n x) u) env Q:=by
 subst he
 exact⟨d,by simp only[E.eval,hx,Option.bind_some,h],kk⟩

theorem u_add {m k:Int}(hx:x.eval env=some (.v (.int .i64 m)))(hy:y.eval env=some (.v (.int .i64 k)))(hb:-9223372036854775808≤m+k∧m+k<9223372036854775808)(he:env++[.v (.int .i64 (m+k))]=env2)(h:denU P u env2 Q):denU P (.ev (.bin .add .int x y) u) env Q:=by subst he;exact⟨_,ev_add hx hy hb,h⟩
theorem u_sub {m k:Int}(hx:x.eval env=some (.v (.int .i64 m)))(hy:y.eval env=some (.v (.int .i64 k)))(hb:-9223372036854775808≤m-k∧m-k<9223372036854775808)(he:env++[.v (.int .i64 (m-k))]=env2)(h:denU P u env2 Q):denU P (.ev (.bin .sub .int x y) u) env Q:=by subst he;exact⟨_,ev_sub hx hy hb,h⟩
theorem u_mul {m k:Int}(hx:x.eval env=some (.v (.int .i64 m)))(hy:y.eval env=some (.v (.int .i64 k)))(hb:-9223372036854775808≤m*k∧m*k<9223372036854775808)(he:env++[.v (.int .i64 (m*k))]=env2)(h:denU P u env2 Q):denU P (.ev (.bin .mul .int x y) u) env Q:=by subst he;exact⟨_,ev_mul hx hy hb,h⟩
theorem u_inc {i:Nat}(hx:x.eval env=some (.v (.int .i64 i)))(hb:i<4611686018427387904)(he:env++[.v (.int .i64 (i+1:Nat))]=env2)(h:denU P u env2 Q):denU P (.ev (.bin .add .int x (ki 1)) u) env Q:=by subst he;exact⟨_,ev_inc hx hb,h⟩
theorem u_pred {i:Nat}(hx:x.eval env=some (.v (.int .i64 i)))(hb:1≤i∧i<4611686018427387904)(he:env++[.v (.int .i64 (i-1:Nat))]=env2)(h:denU P u env2 Q):denU P (.ev (.bin .sub .int x (ki 1)) u) env Q:=by subst he;exact⟨_,ev_pred hx hb,h⟩
end

section
variable {α:Type} {enc:α→D} {xs ys:List α} {i:Nat} {a:α}

theorem eaddr_lst {sz:Nat}(h:xs[i]? = some a)(hc:(enc a).cells.length=sz):D.eaddr sz (.lst (xs.map enc)) (.v (.int .i64 i))=some (.ptr (enc a).cells):=by
 simp[D.eaddr,h,hc]

theorem eaddr_get {sz:Nat}(h:i<xs.length)(hc:(enc xs[i]).cells.length=sz):D.eaddr sz (.lst (xs.map enc)) (.v (.int .i64 i))=some (.ptr (enc xs[i]).cells):=eaddr_lst (List.getElem?_eq_getElem h) hc

theorem app_lst {sz bytes:Nat}(h:(xs.length+ys.length)*bytes≤140737488355328)(h':xs.length+ys.length≤maxLen)(hsz:∀a,(enc a).cells.length=sz):D.app sz bytes (.lst (xs.map enc)) (.lst (ys.map enc))=some (.lst ((xs++ys).map enc)):=by
 have h1:∀zs:List α,allCells sz (zs.map enc)=true:=fun zs=>by simp[allCells,hsz]
 simp only[D.app,h1,List.length_map,and_true]
 rw[if_pos ⟨h,h'⟩,List.map_append]

end

section
variable {P:Program} {body:U} {env:List D} {Q:Sig→Prop} {l:Nat}

end
end Go.Am

/-
 The store: what becomes of it.
-/
namespace Go.Am

theorem one_cells {d:D}(h:d.one=true):d.cells=[d]:=by
 cases d <;> first | rfl | simp[D.one] at h

section
variable {α:Type} {bs:List D} {e:TypeId} {sz:Nat} {enc:α→List D} {s:D} {xs:List α}

theorem sto_blk {i k:Nat}{cs:List D}{d:D}(hb:bs[i]? = some (.blk e sz cs))(hk:k<cs.length)(hd:d.one=true):D.sto 1 (.st bs) (.loc i k) d=some (.st (bs.set i (.blk e sz (cs.set k d)))):=by
 simp only[D.sto,D.cellsAt,hb,Option.bind_some,one_cells hd,List.length_cons,List.length_nil,List.all_cons,hd,List.all_nil,Bool.and_self,true_and,and_true]
 rw[if_pos (by omega)]
 have:cs.set k d=cs.take k++[d]++cs.drop (k+1):=by rw[List.set_eq_take_append_cons_drop,if_pos hk];simp
 rw[this]

theorem SlOf.append (h:SlOf bs e sz enc s xs){bytes:Nat}{x:α}{y:D}(hsz:∀x,(enc x).length=sz)(hy:y.cells=enc x)(ho:(enc x).all (·.one)=true)(hb:(xs.length+1)*bytes≤140737488355328)(hm:xs.length+1≤maxLen) :
  ∃bs1,D.apph e sz bytes (.st bs) s (.lst [y])=some (.st bs1)∧D.apps (.st bs) s (.lst [y])=some (.sl bs.length 0 (xs.length+1))∧bs1[bs.length]? = some (.blk e sz ((xs++[x]).flatMap enc))∧bs1.length=bs.length+1∧∀k,k<bs.length→s.sid≠some k→bs1[k]? = bs[k]?:=by
 have hac:allCells sz [y]=true:=by simp[allCells,hy,hsz]
 have hone:((cellsL [y]).all (·.one))=true:=by simpa[cellsL,hy] using ho
 rcases h with⟨rfl,rfl⟩ | ⟨i,rfl,hi⟩
 ·refine⟨bs++[.blk e sz (cellsL [y])],?_,rfl,?_,by simp,fun k hk _=>by rw[List.getElem?_append_left hk]⟩
  ·simp only[D.apph,D.asL,hac,hone,List.cons_ne_nil,if_false,List.length_cons,List.length_nil]
   rw[if_pos (by refine⟨by simpa using hb,by simpa using hm,?_⟩;simp)]
  ·simp[cellsL,hy]
 ·have hil:=(List.getElem?_eq_some_iff.1 hi).1
  refine⟨(bs.set i (.tup []))++[.blk e sz (xs.flatMap enc++cellsL [y])],?_,rfl,?_,by simp,fun k hk hne=>?_⟩
  ·simp only[D.apph,D.asL,D.cellsAt,hi,Option.bind_some,hac,hone,List.cons_ne_nil,if_false,List.length_cons,List.length_nil]
   rw[if_pos (by refine⟨?_,?_,?_,flat_length hsz,by simpa using hb,by simpa using hm,?_⟩ <;> simp)]
  ·rw[List.getElem?_append_right (by simp)]
   simp[cellsL,hy]
  ·rw[List.getElem?_append_left (by simpa using hk)]
   rw[List.getElem?_set_ne (fun e'=>hne (by rw[e'];rfl))]

end

/-! ## maps -/
section
variable {pre:List D} {kd:Kd} {kvs:List D} {k u:D}
theorem m4_put (h:D.mlook kd k kvs=some none):D.m4 (.put kd) (.st (pre++[.mblk kvs])) (.mp pre.length) k u=some (.st (pre++[.mblk (kvs++[.tup [k,u]])])):=by
 simp[D.m4,D.mput,h]
theorem m4_get {x d:D}{i:Nat}(h:D.mlook kd k kvs=some (some (i,x)))(h1:x.one=true):D.m4 (.get kd false) (.st (pre++[.mblk kvs])) (.mp pre.length) k d=some x:=by
 simp[D.m4,D.entries,D.kept_of (D.mlook_lost h),h,h1]
end

/-! ## steps of the store -/

structure Stp (bs:List D)(F:Nat→Prop)(bs':List D)(F':Nat→Prop):Prop where
 len:bs.length≤bs'.length
 old:∀k,k<bs.length→¬F k→bs'[k]? = bs[k]?
 new:∀k,F' k→F k∨bs.length≤k

theorem Stp.refl (bs:List D)(F:Nat→Prop):Stp bs F bs F:=⟨Nat.le_refl _,fun _ _ _=>rfl,fun _ h=>.inl h⟩

theorem Stp.trans {bs bs1 bs2:List D}{F F1 F2:Nat→Prop}(h:Stp bs F bs1 F1)(h':Stp bs1 F1 bs2 F2):Stp bs F bs2 F2:=by
 refine⟨Nat.le_trans h.len h'.len,fun k hk hf=>?_,fun k hk=>?_⟩
 ·rw[h'.old k (Nat.lt_of_lt_of_le hk h.len) (fun h1=>(h.new k h1).elim hf fun h2=>absurd hk (by omega)),h.old k hk hf]
 ·rcases h'.new k hk with h1 | h1
  ·exact h.new k h1
  ·exact .inr (Nat.le_trans h.len h1)

end Go.Am

/-
 Tables of texts that the kernel reckons itself.
-/
namespace Go.Am
noncomputable section

structure Spec where
 f:FuncId
 fn:Func
 cf:StCfg
 own:Bool
 kn:Kn:=.plain
 nd:Bool:=false

def compileS (P:Program)(s:Spec):Option T:=
 match s.kn with
 | .plain=>compileFn P s.cf s.fn
 | .defers keep=>compileDefer P s.cf s.fn keep
 | .recovers=>compileR P s.cf s.fn

def SpecsOk (P:Program):List Spec→Prop
 | []=>True
 | s :: r=>P.funcs[s.f]? = some s.fn∧SpecsOk P r

def mkTab (P:Program)(k:Tab→Bool):List Spec→Tab→Bool
 | [],tb=>k tb
 | s :: r,tb=>match compileS P s with
  | none=>false
  | some t=>mkTab P k r ({ f:=s.f,kn:=s.kn,cf:=s.cf,own:=s.own,ones:=paramOnes P s.fn,t:=t,nd:=s.nd } :: tb)

theorem mkTab_ok {P:Program}{k:Tab→Bool}:∀{l:List Spec} {tb:Tab},SpecsOk P l→(∀e,e∈tb→EntOk P e)→mkTab P k l tb=true→∃tb',(∀e,e∈tb'→EntOk P e)∧k tb'=true
 | [],tb,_,h,hk=>⟨tb,h,hk⟩
 | s :: r,tb,hs,h,hk=>by
  unfold mkTab at hk
  split at hk
  ·cases hk
  ·rename_i t ht
   refine mkTab_ok hs.2 (fun e he=>?_) hk
   rcases List.mem_cons.1 he with rfl | he
   ·refine⟨s.fn,hs.1,rfl,?_⟩
    unfold compileS at ht
    cases hk:s.kn <;> rw[hk] at ht <;> exact ht
   ·exact h e he

structure Fact where
 f:FuncId
 ds:List D
 d:D

def Fact.ok (P:Program)(b0:List D)(x:Fact):Prop:=∀bs:List D,FSpecR P x.f (.st (b0++bs)) x.ds x.d

def FactsOk (P:Program)(b0:List D):List Fact→Prop
 | []=>True
 | x :: r=>x.ok P b0∧FactsOk P b0 r

def factAt (f:FuncId)(ds:List D):List Fact→Option D
 | []=>none
 | x :: r=>if x.f=f then(if D.sames x.ds ds=true then some x.d else factAt f ds r) else factAt f ds r

theorem factAt_ok {P:Program}{b0:List D}{f:FuncId}{ds:List D}{d:D}{bs:List D}:∀{l:List Fact},FactsOk P b0 l→factAt f ds l=some d→FSpecR P f (.st (b0++bs)) ds d
 | [],_,h=>by simp[factAt] at h
 | x :: r,hl,h=>by
  unfold factAt at h
  split at h
  ·rename_i hf
   split at h
   ·rename_i hd
    cases h
    have:=hl.1 bs
    rw[hf,D.sames_eq hd] at this
    exact this
   ·exact factAt_ok hl.2 h
  ·exact factAt_ok hl.2 h

def factOrc (b0:List D)(l:List Fact):Orc where
 R:=fun f st ds=>match st with
  | .st bs=>if begins b0 bs=true then(factAt f ds l).map .ret else none
  | _=>none
 W:=fun _ _ _=>none
 F:=fun _ _ _ _=>none
 I:=fun _ _ _ _ _=>none

theorem factOrc_ok {P:Program}{b0:List D}{l:List Fact}(h:FactsOk P b0 l):OrcOk P (factOrc b0 l):=by
 refine⟨fun f st ds r hr=>?_,fun _ _ _ _ _ h=>(by cases h),fun _ _ _ _ _ h=>(by cases h),fun _ _ _ _ _ _ _ h=>(by cases h)⟩
 simp only[factOrc] at hr
 split at hr
 ·split at hr
  ·rename_i hb
   obtain⟨q,rfl⟩:=begins_eq hb
   obtain⟨d,hd,rfl⟩:=Option.map_eq_some_iff.1 hr
   exact factAt_ok h hd
  ·cases hr
 ·cases hr

def Out.isRet (d:D):Option Out→Bool
 | some (.ret d')=>D.same d' d
 | _=>false

theorem Out.isRet_eq {d:D}{x:Option Out}(h:Out.isRet d x=true):x=some (.ret d):=by
 unfold Out.isRet at h
 split at h
 ·rw[D.same_eq h]
 ·cases h

theorem fact_of {P:Program}{l:List Spec}{o:Orc}{b0:List D}(hs:SpecsOk P l)(ho:OrcOk P o)(x:Fact)(n m:Nat)(hd:noids x.ds=true)(h0:isBase b0=true)(h1:x.d.noid=true){tb0:Tab}(ht:∀e,e∈tb0→EntOk P e)(h:mkTab P (fun tb=>Out.isRet x.d ((runOrcB P tb n b0 o m).R x.f (.st b0) x.ds)) l tb0=true):x.ok P b0:=by
 obtain⟨tb,g1,g2⟩:=mkTab_ok hs ht h
 exact fun bs=>((runOrcB_ok (n:=n) g1 ho m).R x.f (.st b0) x.ds _ (Out.isRet_eq g2)).ofA h0 hd h1 bs

end
end Go.Am
