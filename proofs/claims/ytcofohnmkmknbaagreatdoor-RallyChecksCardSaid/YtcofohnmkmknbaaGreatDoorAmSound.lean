/-
 What the small language's text means holds of the code that it was made of.
-/
import Derived.Test.YtcofohnmkmknbaaGreatDoorAmCompiletoAmRange
set_option linter.unusedSimpArgs false
set_option linter.unusedVariables false
namespace Go.Am
noncomputable section

section
variable {P:Program} {w0:World} {X:kG}

/-! ## forgetting -/

theorem SV.Kl {w:World}{ρ:dJ}{env:List D}{v:Value}{sv:SV}(d:Nat)(h:ef w ρ env v sv):ef w ρ env v (sv.iY d):=by
 rw[SV.o9]
 split
 ·exact h
 ·exact .cE

theorem bl.T9 {w:World}{ρ:dJ}{env:List D}{o:Nat}{x:bl}(d:Nat)(h:iB w ρ env o x):iB w ρ env o (x.iY d):=by
 cases x with
 | box cs=>
  obtain⟨vs,ty,h1,h2,h3,h4,h5⟩:=h
  refine⟨vs,ty,h1,by simpa using h2,h3,fun i v c hv hc=>?_,h5⟩
  simp only[List.getElem?_map,Option.map_eq_some_iff] at hc
  obtain⟨c',zf,rfl⟩:=hc
  exact SV.Kl d (h4 i v c' hv zf)
 | row y sz=>exact h
 | tok e sz=>exact h
 | store cf x=>exact h

theorem bl.T8 (d:Nat)(x:bl):(x.iY d).ro=x.ro:=by cases x <;> rfl

theorem bl.Bn (ρ:dJ)(o d:Nat)(x:bl):bY ρ o (x.iY d)=bY ρ o x:=by cases x <;> rfl

theorem cu.iY {w:World}{a:Act}{σ:af}{env:List D}{ρ:dJ}(h:cu w0 X w a σ env ρ)(d:Nat):cu w0 X w a (σ.iY d) env ρ:=by
 by_cases hd:d=bN
 ·rw[af.o9,if_pos hd];exact h
 have hpt:(σ.iY d).tmps=σ.tmps.map (SV.iY d):=by rw[af.o9,if_neg hd]
 have fP:∀o y,(σ.iY d).obj o=some y→∃x,σ.obj o=some x∧y=x.iY d:=by
  intro o y hy
  rw[af.o9,if_neg hd] at hy
  simp only[af.dV] at hy ⊢
  by_cases ho:o=bN
  ·rw[if_pos ho] at hy ⊢
   obtain⟨z,hz,rfl⟩:=Option.map_eq_some_iff.1 hy
   exact⟨z,hz,rfl⟩
  rw[if_neg ho] at hy ⊢
  simp only[List.getD_eq_getElem?_getD,List.getElem?_set,List.getElem?_map,List.length_map] at hy ⊢
  split at hy
  ·split at hy <;> simp at hy
  ·cases ho:σ.mem[o]? with
   | none=>rw[ho] at hy;simp at hy
   | some z=>
    rw[ho] at hy
    cases z with
    | none=>simp at hy
    | some x=>simp at hy;exact⟨x,rfl,hy.symm⟩
 refine⟨by rw[hpt];simpa using h.size,fun t=>?_,fun o y hy=>?_,?_,?_,h.cells,h.os,h.tape,h.output,h.grown,h.old,h.sub,h.new,h.zT,h.hold⟩
 ·have:=h.tmps t
  simp only[af.gw] at this ⊢
  rw[hpt]
  simp only[List.getD_eq_getElem?_getD,List.getElem?_map] at this ⊢
  cases ht:σ.tmps[t]? with
  | none=>exact .cE
  | some c=>rw[ht] at this;exact SV.Kl d this
 ·obtain⟨x,hx,rfl⟩:=fP o y hy
  exact bl.T9 d (h.dO o x hx)
 ·intro o o' y y' b h1 h2 h3 h4
  obtain⟨x,hx,rfl⟩:=fP o y h1
  obtain⟨x',hx',rfl⟩:=fP o' y' h2
  rw[bl.Bn] at h3 h4
  exact h.inj o o' x x' b hx hx' h3 h4
 ·intro o y b h1 h2
  obtain⟨x,hx,rfl⟩:=fP o y h1
  rw[bl.Bn] at h2
  rw[bl.T8]
  exact h.own o x b hx h2

theorem cu.iO {w:World}{a:Act}{env:List D}{ρ:dJ}:∀(ds:List Nat) {σ:af},cu w0 X w a σ env ρ→cu w0 X w a (iO ds σ) env ρ
 | [],_,h=>h
 | d :: ds,_,h=>cu.iO ds (h.iY d)

theorem yD:∀(ds:List Nat) (σ:af),(iO ds σ).tmps.length=σ.tmps.length∧(iO ds σ).mem.length=σ.mem.length
 | [],_=>⟨rfl,rfl⟩
 | d :: ds,σ=>by
  have h1:=yD ds (σ.iY d)
  have h2:(σ.iY d).tmps.length=σ.tmps.length∧(σ.iY d).mem.length=σ.mem.length:=by
   rw[af.o9];split <;> simp
  exact⟨h1.1.trans h2.1,h1.2.trans h2.2⟩

theorem Ni {σ:af}{ops:Array Oper}(h:ad3 σ ops=true):∀(j d:Nat),(ops[j]?).bind (fun(o:Oper)=>o.dst)=some d→d<σ.tmps.length:=by
 intro j d hj
 obtain⟨o,ho,hd⟩:=Option.bind_eq_some_iff.1 hj
 have:=Array.all_eq_true'.1 h o (Array.mem_of_getElem? ho)
 rw[hd] at this
 simpa using this

theorem LQ {ops:Array Oper}:∀{l:List Oper} {σ σ':af} {ix:Nat} {bs:List Bind} {rs:List Rec},AZ P ops l σ ix=some (σ',bs,rs)→σ'.tmps.length=σ.tmps.length∧σ'.mem.length=σ.mem.length
 | [],σ,σ',ix,bs,rs,h=>by simp[AZ] at h;rw[h.1];exact⟨rfl,rfl⟩
 | o :: l,σ,σ',ix,bs,rs,h=>by
  simp only[AZ] at h
  split at h
  ·cases h
  ·split at h <;>
   ·obtain⟨⟨τ,bs',rs'⟩,h2,h3⟩:=Option.map_eq_some_iff.1 h
    cases h3
    have h1:=Jv σ o.dst (by assumption)
    have h2:=LQ h2
    exact⟨h2.1.trans h1.1,h2.2.trans h1.2⟩

theorem oU {ops:Array Oper}{σ σ':af}{u:Nat}{bs:List Bind}(h:Qcw P ops σ u=some (σ',bs)):∃R rp xs,AZ P ops ops.toList σ u=some (σ',rp,R)∧P.follows .mixedOrders=true∧((qt ops R σ=true∧extras P ops R σ=some xs)∨CJ P ops R σ (u+rp.length)=some xs)∧bs=rp++xs.map .ev:=by
 unfold Qcw at h
 split at h
 ·rename_i x hx
  split at h
  ·rename_i hc
   obtain⟨τ,bs',R⟩:=x
   obtain⟨xs,h1,h2⟩:=Option.map_eq_some_iff.1 h
   cases h2
   refine⟨R,bs',xs,hx,hc,?_,rfl⟩
   split at h1
   ·rename_i ho
    exact .inl ⟨ho,h1⟩
   ·exact .inr h1
  ·cases h
 ·cases h

theorem BQ {rd:Option Nat} {nd:Nat} {ops:Array Oper} {σ σ':af} {u:Nat} {bs:List Bind} {a:Act} {w:World} {ρ:dJ} {env:List D} {Q:Exit→Act→World→Prop} (h:Qcw P ops σ u=some (σ',bs)) (hr:cu w0 X w a σ env ρ) (hm:σ.mem.length=σ.tmps.length)
  (hsz:∀(j d:Nat),(ops[j]?).bind (fun(o:Oper)=>o.dst)=some d→d<σ.tmps.length) (hb:wh P env u bs) (hu:u+bs.length≤env.length) (hQ:∀a' w' ρ',cu w0 X w' a' σ' env ρ'→Q .normal a' w'):wpAnyIn (FW rd) nd P .any ops Q ops.size (Array.replicate ops.size false) a { w with drawn:=w.drawn+1 }:=by
 obtain⟨R,rp,xs,hd,Yi,gT,rfl⟩:=oU h
 have hb0:wh P env u rp:=fun i b hi=>hb i b (by rw[List.getElem?_append_left (List.getElem?_eq_some_iff.1 hi).1];exact hi)
 obtain⟨h1,h2⟩:=G6 (R:=R) (k:=0) hd rfl rfl (Nat.zero_le _) rfl hb0 (by simp at hu;omega)
 have cV:∀y,y∈xs→∃d,y.eval env=some d:=fun y hy=>by
  obtain⟨k,hk⟩:=List.mem_iff_getElem?.1 hy
  obtain⟨d,fz,_⟩:=hb (rp.length+k) (.ev y) (by rw[List.getElem?_append_right (by omega)];simp[hk])
  exact⟨d,fz⟩
 have hclosed:jU ops (Qbq (Array.replicate ops.size false)):=by
  intro k o hk
  simp only[Qbq,Array.getD_eq_getD_getElem?,Array.getElem?_replicate] at hk
  split at hk <;> simp at hk
 have hdone:Qbq (Array.replicate ops.size false)=fun _=>false:=by
  funext j
  simp only[Qbq,Array.getD_eq_getD_getElem?,Array.getElem?_replicate]
  split <;> rfl
 rcases gT with⟨hok,hex⟩ | hex
 ·refine Qbv (w0:=w0) (X:=X) (env:=env) (R:=R) (σ:=σ) hok (fun i o ho=>?_) hm hsz (fun a' w' ρ' hr'=>hQ a' w' ρ' (by rw[←h1];exact hr')) _ _ _ _ ρ (by simp) hclosed (Nat.le_trans List.countP_le_length (by simp)) ?_
  ·obtain⟨r,f1,f2,f3,f4,f5⟩:=h2 i o (Nat.zero_le _) ho
   obtain⟨ys,g1,g2⟩:=G2 hex i (Array.getElem?_eq_some_iff.1 ho).1
   exact⟨r,f1,f2,f3,f4,f5,ys,g1,fun y hy=>cV y (g2 y hy)⟩
  ·rw[hdone,nS (i:=0) ops.size (Nat.zero_le _) fun _ _ _=>rfl]
   exact hr.drew
 ·obtain⟨cf,t,hok,hj,hal⟩:=I5 hex
  refine JP (w0:=w0) (X:=X) (env:=env) (R:=R) (σ:=σ) (cf:=cf) (t:=t) hok (fun i o ho=>?_) hj hm hsz (fun a' w' ρ' hr'=>hQ a' w' ρ' (by rw[←h1];exact hr')) _ _ _ _ ρ (by simp) hclosed (Nat.le_trans List.countP_le_length (by simp)) ?_
  ·obtain⟨r,f1,f2,f3,f4,f5⟩:=h2 i o (Nat.zero_le _) ho
   obtain⟨ys,g1,g2⟩:=hal i (Array.getElem?_eq_some_iff.1 ho).1
   exact⟨r,f1,f2,f3,f4,f5,ys,g1,fun y hy=>cV y (g2 y hy)⟩
  ·rw[hdone,TP]
   exact hr.drew

theorem BP {ops:Array Oper}{σ σ':af}{u:Nat}{bs:List Bind}(h:Qcw P ops σ u=some (σ',bs)):σ'.tmps.length=σ.tmps.length∧σ'.mem.length=σ.mem.length:=by
 obtain⟨R,rp,xs,hd,_⟩:=oU h
 exact LQ hd

theorem Fz {rd:Option Nat} {nd:Nat} {ops:Array Oper} {draw:Bool} {id:Nat} {σ:af} {t:T} {k:QG} {a:Act} {w:World} {ρ:dJ} {env:List D} {Q:iD→Prop} {Q':Exit→Act→World→Prop} {N:Nat} (h:Cs P ops draw σ env.length k=some t) (fQ:den P t env Q) (hr:cu w0 X w a σ env ρ) (h1:σ.tmps.length=N) (h2:σ.mem.length=N)
  (hp:acr w0 X Q Q') (hQ:∀(σ':af) (env':List D) (t':T) (a':Act) (w':World) (ρ':dJ),env <+: env'→k σ' env'.length=some t'→den P t' env' Q→cu w0 X w' a' σ' env' ρ'→σ'.tmps.length=N→σ'.mem.length=N→Q' .normal a' w'):(Code.region id ops draw).wpIn (FW rd) nd P Q' a w:=by
 unfold Cs at h
 simp only at h
 split at h
 ·cases h
 ·rename_i hok
  simp only[Bool.not_eq_true',Bool.not_eq_false] at hok
  have hl:=yD (sites ops) σ
  have hsz:=Ni hok
  have g1:(iO (sites ops) σ).tmps.length=N:=hl.1.trans h1
  have g2:(iO (sites ops) σ).mem.length=N:=hl.2.trans h2
  split at h
  ·rename_i hd
   rw[show draw=true from by simpa using hd]
   split at h
   ·rename_i x hx
    have hx:=FU hx
    obtain⟨t',hk,rfl⟩:=Option.map_eq_some_iff.1 h
    obtain⟨ds,cP,fz,oh⟩:=vY fQ
    have hlen:=BP hx
    obtain⟨_,_,_,_,Yi,_⟩:=oU hx
    refine wpIn_region_any Yi (BQ hx ((hr.env (prefix_append env ds)).iO _) (by rw[g1,g2]) hsz oh (by simp[cP]) fun a' w' ρ' hr'=>?_)
    exact hQ _ (env++ds) t' a' w' ρ' (prefix_append _ _) (by rw[List.length_append,cP];exact hk) fz hr' (hlen.1.trans g1) (hlen.2.trans g2)
   ·split at h
    ·rename_i tJ
     split at h
     ·rename_i o x ho hx
      split at h
      ·rename_i s hs
       split at h
       ·rename_i ig
        obtain⟨t',ht',rfl⟩:=Option.map_eq_some_iff.1 h
        obtain⟨ds,cP,fz,oh⟩:=vY fQ
        have hlen:=BP hx
        obtain⟨_,_,_,_,Yi,_⟩:=oU hx
        refine wpIn_region_any Yi ?_
        have ale:∀(j d:Nat),(ops.pop[j]?).bind (fun(o:Oper)=>o.dst)=some d→d<(iO (sites ops) σ).tmps.length:=fun j d hj=>hsz j d (by
         rw[Array.getElem?_pop] at hj
         split at hj
         ·exact hj
         ·cases hj)
        have abx:=BQ (rd:=rd) (nd:=nd) (Q:=fun e a w=>match e with | .normal=>wpOpIn (FW rd) nd P ops Q' (ops.size-1) (Q' .normal) a w | e=>Q' e a w) hx ((hr.env (prefix_append env ds)).iO _) (by rw[g1,g2]) ale oh (by simp[cP]) (fun a' w' ρ' hr'=>by
         obtain⟨hw,hwp⟩:=Gi (rd:=rd) (nd:=nd) (ops:=ops) (env:=env++ds) hs (vo ig) (xM ig) (by rw[List.length_append,cP];exact ht') fz hr' hp (K:=Q' .normal) fun σ2 bP t2 a2 w2 ρ2 hpre hk hd2 CD e1 e2=>hQ σ2 bP t2 a2 w2 ρ2 ((prefix_append env ds).trans hpre) hk hd2 CD (e1.trans (hlen.1.trans g1)) (e2.trans (hlen.2.trans g2))
         show wpOpIn (FW rd) nd P ops Q' (ops.size-1) (Q' .normal) a' w'
         unfold wpOpIn
         rw[ho]
         simp only
         rw[if_pos hw]
         exact hwp)
        have:=MJ (Q:=Q') tJ.1 tJ.2 ops.pop.size (Array.replicate ops.pop.size false) a _ (by simp) (by
         intro k ok hk
         simp only[Qbq,Array.getD_eq_getD_getElem?,Array.getElem?_replicate] at hk
         split at hk <;> simp at hk) abx
        have e1:ops.pop.size+1=ops.size:=by simp;omega
        have e2:(Array.replicate ops.pop.size false).push false=Array.replicate ops.size false:=by
         rw[←e1,Array.replicate_succ]
        rw[e1,e2] at this
        exact this
       ·cases h
      ·cases h
     ·cases h
    ·cases h
  ·rename_i hd
   rw[show draw=false from by simpa using hd]
   exact wpIn_region_list (Df hp (fun j d hjd=>by rw[←g1];exact hsz j d hjd) h fQ (hr.iO _) g1 g2 hQ)

/-! ## Qiw code -/

def o6 (N:Nat)(σ:af):Prop:=σ.tmps.length=N∧σ.mem.length=N

def Post (P:Program)(B:World→kG→Prop)(N:Nat)(iS:World→Act→D→Prop)(env:List D)(dp:Nat)(ex:List (Nat×Ex))(k:Mt)(Q:iD→Prop):Exit→Act→World→Prop
 | .normal,a',w'=>∃w0 X env' σ' ρ' t',B w0 X∧env <+: env'∧k dp env'.length σ'=some t'∧den P t' env' Q∧cu w0 X w' a' σ' env' ρ'∧o6 N σ'
 | .exit id,a',w'=>∃w0 X e ds ρ',B w0 X∧lK ex id=some e∧Q (.jump e.lab ds)∧cu w0 X w' a' e.tm (env.take e.base++ds) ρ'∧o6 N e.tm
 | .ret,a',w'=>∃d,Q (.ret d)∧iS w' a' d
 | .panic c,a',w'=>∃w0 X σ env ρ v d bs,B w0 X∧c=[{ v,recovered:=false }]∧cu w0 X w' a' σ env ρ∧bU w' ρ.S v d∧dF w' ρ.S ρ.aJ bs∧(∃cf x,σ.obj bN=some (.store cf x))∧∃kd,q8 w' ρ.S a' (jT σ) kd∧Q (.fc d (.st bs) (jT σ) kd)
 | _,_,_=>False

theorem take_prefix {env env':List D}(h:env <+: env'){b:Nat}(hb:b≤env.length):env'.take b=env.take b:=by
 obtain⟨r,rfl⟩:=h
 rw[List.take_append_of_le_length hb]

theorem Qfj (env:List D):env.take env.length=env:=List.take_length

theorem cu.um {w:World}{a:Act}{env:List D}:∀{ps:List (Nat×Nat)} {σ:af} {ρ:dJ},cu w0 X w a σ env ρ→∃ρ',cu w0 X w a (um ps σ) env ρ'
 | [],_,ρ,h=>⟨ρ,h⟩
 | p :: ps,_,_,h=>by
  obtain⟨ρ1,h1⟩:=h.je p.1 p.2
  exact cu.um (ps:=ps) h1

theorem Dq:∀(ps:List (Nat×Nat)) (σ:af),(um ps σ).tmps.length=σ.tmps.length∧(um ps σ).mem.length=σ.mem.length
 | [],_=>⟨rfl,rfl⟩
 | p :: ps,σ=>by
  have h1:=Dq ps (σ.je p.1 p.2)
  have h2:=σ.Q_ p.1 p.2
  exact⟨h1.1.trans h2.1,h1.2.trans h2.2⟩

theorem cu.i_ {w:World}{a:Act}{σ:af}{env:List D}{ρ:dJ}(h:cu w0 X w a σ env ρ):cu w0 X w a σ.i_ env ρ:=by
 refine⟨by simpa[af.wZ] using h.size,fun t=>?_,h.dO,h.inj,h.own,h.cells,h.os,h.tape,h.output,h.grown,h.old,h.sub,h.new,h.zT,h.hold⟩
 have:=h.tmps t
 simp only[af.gw] at this ⊢
 simp only[af.wZ,List.getD_eq_getElem?_getD,List.getElem?_map] at this ⊢
 cases ht:σ.tmps[t]? with
 | none=>exact .cE
 | some c=>
  rw[ht] at this
  simp only[Option.getD_some,Option.map_some] at this ⊢
  unfold Go.Am.i_
  split
  ·split
   ·exact this
   ·obtain⟨es,h1,h2,_⟩:=this.yH
    exact .e h1 h2 fun _=>rfl
  ·exact this

theorem MN (σ:af):σ.i_.tmps.length=σ.tmps.length∧σ.i_.mem.length=σ.mem.length:=by simp[af.wZ]

theorem pT {w:World}{a:Act}{env:List D}{ρ:dJ}{base:Nat}{tm σ:af}{args:List E}{ds:List D}(h:cu w0 X w a σ env ρ)(hb:base≤env.length)(hm:pU base tm σ=some args)(hd:aM env args=some ds) :
  ∃ρ',cu w0 X w a tm (mS env base ds) ρ'∧σ.tmps.length=tm.tmps.length∧σ.mem.length=tm.mem.length:=by
 obtain⟨ρ',h'⟩:=h.i_.um (ps:=ya tm.tmps σ.i_.tmps)
 obtain⟨h1,h2,h3⟩:=Nv h' hb hm hd
 have hl:=Dq (ya tm.tmps σ.i_.tmps) σ.i_
 have hu:=MN σ
 exact⟨ρ',h1,hu.1.symm.trans (hl.1.symm.trans h2),hu.2.symm.trans (hl.2.symm.trans h3)⟩

theorem Post.join {B:World→kG→Prop} {N:Nat} {iS:World→Act→D→Prop} {env:List D} {dp MF n:Nat} {ex:List (Nat×Ex)} {k:Mt} {Q:iD→Prop} {tm:af} {tr:T} (hk:k dp (env.length+n) tm=some tr) (hex:∀id e,lK ex id=some e→e.lab<dp) {e:Exit} {a':Act} {w':World}
  (h:Post P B N iS env MF ex (Eb dp env.length tm) (dD dp (fun ds=>ds.length=n∧den P tr (env++ds) Q) Q) e a' w'):Post P B N iS env dp ex k Q e a' w':=by
 cases e with
 | normal=>
  obtain⟨w0,X,env',σ',ρ',t',hB,hpre,ht',fQ,bn,hlen⟩:=h
  obtain⟨args,hm,rfl⟩:=Option.map_eq_some_iff.1 ht'
  obtain⟨ds,cV,hQ⟩:=fQ
  simp only[dD,if_true] at hQ
  obtain⟨hdn,hd⟩:=hQ
  obtain⟨ρ2,me,h1,h2⟩:=pT bn (List.IsPrefix.length_le hpre) hm cV
  rw[mS,take_prefix hpre (Nat.le_refl _),Qfj] at me
  exact⟨w0,X,env++ds,tm,ρ2,tr,hB,prefix_append _ _,by rw[List.length_append,hdn];exact hk,hd,me,by rw[←h1];exact hlen.1,by rw[←h2];exact hlen.2⟩
 | exit id=>
  obtain⟨w0,X,e,ds,ρ',hB,he,hQ,bn,hlen⟩:=h
  refine⟨w0,X,e,ds,ρ',hB,he,?_,bn,hlen⟩
  simp only[dD] at hQ
  rwa [if_neg (Nat.ne_of_lt (hex id e he))] at hQ
 | ret=>exact h
 | goto l=>exact h
 | panic c=>exact h
 | outgrown=>exact h

theorem Bw {dp u:Nat}{m:af×Nat}{body:Option T}{k:Mt}{t:T}(h:Iy dp u m body k=some t):∃tb tr,body=some tb∧k dp (u+m.2) m.1=some tr∧t=.join dp m.2 tb tr:=by
 unfold Iy at h
 split at h
 ·rename_i h1;cases h;exact⟨_,_,rfl,h1,rfl⟩
 ·cases h

theorem Ef {x:E}{a b:Option T}{t:T}(h:Qb x a b=some t):∃ta tb,a=some ta∧b=some tb∧t=.ite x ta tb:=by
 unfold Qb at h
 split at h
 ·cases h;exact⟨_,_,rfl,rfl,rfl⟩
 ·cases h

theorem KM {dp u:Nat}{m:af×Nat}{σ:af}{body:Option T}{t:T}(h:NA dp u m σ body=some t):∃inits tb,pU u m.1 σ=some inits∧body=some tb∧inits.length=m.2∧t=.loop dp inits tb:=by
 unfold NA at h
 split at h
 ·rename_i inits tb h1
  split at h
  ·rename_i h2;cases h;exact⟨inits,_,h1,rfl,h2,rfl⟩
  ·cases h
 ·cases h

theorem qA {id : Nat} : ∀ {ex : List (Nat × Ex)} {id' : Nat} {e : Ex}, lK (ex.filter (·.1 != id)) id' = some e → id' ≠ id ∧ lK ex id' = some e
  | [], _, _, h => by simp [lK] at h
  | (i, x) :: r, id', e, h => by
    simp only [List.filter_cons] at h
    split at h
    · rename_i hi
      simp only [bne_iff_ne, ne_eq] at hi
      simp only [lK] at h ⊢
      split at h
      · rename_i e1
        subst e1
        exact ⟨hi, by rw [if_pos rfl]; exact h⟩
      · rename_i e1
        rw [if_neg e1]
        exact qA h
    · rename_i hi
      simp only [bne_iff_ne, ne_eq, Decidable.not_not] at hi
      obtain ⟨h1, h2⟩ := qA h
      simp only [lK]
      rw [if_neg (by rw [hi]; exact Ne.symm h1)]
      exact ⟨h1, h2⟩

theorem Fv {N:Nat} {dp:Nat} {wq body:Code} {tb:T} {σ:af} {cf:cz} {env:List D} {ps:Array Tmp} {fn:FuncId} {Se m:Nat} {a:Act} {w:World} {ρ:dJ} (hr:cu w0 X w a σ env ρ) (hl:o6 N σ) (_:cf.ro=false)
  (Oj:∀(l:Nat) (w1:World) (X1:kG) (σ1:af) (gU:List D) (Q:iD→Prop) (a1:Act) (w2:World) (ρ1:dJ),(∃r0,w1.heap[l]? = some (.loop r0)∧¬X1.may l∧¬X1.aJ l)→σ1=d_ σ cf env.length ps.toList→gU.length=env.length+1+ps.size→den P tb gU Q→cu w1 X1 w2 a1 σ1 gU ρ1→o6 N σ1→wq.wpIn (FW (some l)) 0 P (Post P (fun w X=>w=w1∧X=X1) N (fun _ _ _=>False) gU (dp+1) [] (fun MF u' σ'=>compile P (fun _=>none) body MF u' σ' [] (iv dp)) Q) a1 w2)
  (hbody:∀(l:Nat) (w1:World) (X1:kG) (σ1:af) (gU:List D) (t1:T) (Q:iD→Prop) (a1:Act) (w2:World) (ρ1:dJ),(∃r0,w1.heap[l]? = some (.loop r0)∧¬X1.may l∧¬X1.aJ l)→compile P (fun _=>none) body (dp+1) gU.length σ1 [] (iv dp)=some t1→den P t1 gU Q→cu w1 X1 w2 a1 σ1 gU ρ1→o6 N σ1→body.wpIn (FW (some l)) 0 P (Post P (fun w X=>w=w1∧X=X1) N (fun _ _ _=>False) gU (dp+1) [] (iv dp) Q) a1 w2)
  {fk:List D} (Ep:aM env ((cK 0 σ.tmps).map (·.2))=some fk) {Qjv:D} {ds:List D} {Qhx:D} (hnc:cN fk=true) (hn1:Qjv.gK=true) (hn2:cN ds=true) (cP:ds.length=ps.size) (fQ:den P tb (env++[Qjv]++ds) fun s=>s=.jump dp [Qhx]) :
  Fp P (.yl m { state:=.ready,pending:=none,fn,tmps:=a.tmps,params:=ps,assign:=wq,body,defers:=Se } ((cK 0 σ.tmps).map (·.1)) fk) Qjv ds Qhx:=by
 intro wS S aJ bs vs yv hb hst dP hfl hS hy hvl hrd
 subst hb
 have hn1:cN bs=true:=by simpa[D.gK] using hn1
 obtain⟨rec,gp⟩:∃rec:Loop,rec={ state:=.ready,pending:=none,fn,tmps:=a.tmps,params:=ps,assign:=wq,body,defers:=Se }:=⟨_,rfl⟩
 rw[←gp] at hy
 generalize xB:(cK 0 σ.tmps).map (·.1)=sl at hy
 cases hy with
 | yl hh hcap=>
 obtain⟨JH,hnf⟩:=dP m rec hh
 have hlt:m<wS.heap.size:=(Array.getElem?_eq_some_iff.1 JH).1
 refine⟨m,_,_,_,_,rfl,run_yield JH (by rw[hvl,cP,gp]),?_⟩
 have N4:rec.body=body:=by rw[gp]
 have U5:rec.assign=wq:=by rw[gp]
 have aa5:rec.params=ps:=by rw[gp]
 have U2:rec.tmps=a.tmps:=by rw[gp]
 rw[N4,U5,aa5,U2]
 refine roundIn_of_wpIn (F:=Fence.wide) trivial ?_
 obtain⟨Sr,hSr⟩:∃Sr:Sets,Sr=S.under fun l=>if l=m then none else S.hold l:=⟨_,rfl⟩
 have mL:S.SR Sr:=by rw[hSr];exact S.nw _
 have hmem:∀b o,Sr b o↔S b o:=by intro b o;rw[hSr];exact Iff.rfl
 have hto:∀{v:Value} {d:D},d.gK=true→bU wS S v d→bU wS Sr v d:=fun hn h=>h.like mL hn
 have uU:dF wS Sr aJ bs:=hst.to mL (fun b o h=>(hmem b o).1 h) (fun b hb=>rfl) fun v d i x hi hp h=>hto (Gv hn1 hi hp) h
 have Vy:∀(t:Nat) (x:E) (b:Bool),σ.tmps[t]? = some (.e x b)→∃d,x.eval env=some d∧bU wS Sr (a.tmps.getD t undef) d∧(b=true→d.one=true):=by
  intro t x b ht
  have h0:=hr.tmps t
  rw[af.gw,List.getD_eq_getElem?_getD,ht] at h0
  obtain⟨d,hd,_,h1⟩:=ef.kC (x:=x) (s:=b) h0
  obtain⟨i,hi⟩:=qY (k:=0) ht
  rw[Nat.zero_add] at hi
  obtain⟨d',fz,hx'⟩:=n_ (i:=i) (x:=x) Ep (by simp[hi])
  rw[hd] at hx'
  cases hx'
  have:=hcap i t d (by rw[←xB];simp[hi]) fz
  rw[U2] at this
  exact⟨d,hd,hto (gm hnc fz) this,h1⟩
 obtain⟨ρr,N1⟩:∃ρr:dJ,ρr={ aE:=fun _=>0,val:=fun _=>undef,S:=Sr,aJ:=aJ }:=⟨_,rfl⟩
 have Et:ρr.S=Sr:=by rw[N1]
 have Vq:env <+: env++[.st bs]++ds:=by rw[List.append_assoc];exact prefix_append _ _
 have hargs:=xf (w:=wS) (ρ:=ρr) (env:=env++[.st bs]++ds) (ps:=ps.toList) (vs:=vs.toList) (u:=env.length+1) (tm:=a.tmps) (wD:=σ.tmps.map SV.data) (by simp[hr.size]) (by simp[hvl,cP]) (fun t=>by
  rw[List.getD_eq_getElem?_getD,List.getElem?_map]
  cases ht:σ.tmps[t]? with
  | none=>exact .cE
  | some sv=>
   simp only[Option.map_some,Option.getD_some]
   cases sv with
   | e x b=>
    obtain⟨d,h1,h2,h3⟩:=Vy t x b ht
    exact .e (E.cA Vq _ h1) (by rw[Et];exact h2) h3
   | _=>exact .cE) (fun i v hi=>by
  have hlt:i<ds.length:=by
   have:=(List.getElem?_eq_some_iff.1 hi).1
   simp at this
   omega
  refine⟨ds[i],?_,?_⟩
  ·rw[List.getElem?_append_right (by simp),List.length_append]
   simp[show env.length+1+i-(env.length+1)=i from by omega]
  ·rw[Et]
   exact hto (gm hn2 (List.getElem?_eq_getElem hlt)) (hrd i v _ (by simpa using hi) (List.getElem?_eq_getElem hlt)))
 have Lo:(ps.zip vs).foldl (fun tmps (x:Tmp×Value)=>tmps.setIfInBounds x.1 x.2) a.tmps=(ps.toList.zip vs.toList).foldl (fun tmps (x:Tmp×Value)=>tmps.setIfInBounds x.1 x.2) a.tmps:=by
  rw[←Array.foldl_toList,Array.toList_zip]
 have xC:cu wS { may:=aJ,S:=Sr,aJ:=aJ,G7:=[] } wS { tmps:=(ps.zip vs).foldl (fun tmps (x:Tmp×Value)=>tmps.setIfInBounds x.1 x.2) a.tmps,defers:=[] } (d_ σ cf env.length ps.toList) (env++[.st bs]++ds) ρr:=by
  have fP:∀o x,(d_ σ cf env.length ps.toList).obj o=some x→o=bN∧x=.store cf (.sym env.length):=by
   intro o x hx
   simp only[af.dV,d_,List.getD_eq_getElem?_getD,List.getElem?_replicate] at hx
   split at hx
   ·cases hx;exact⟨by assumption,rfl⟩
   ·split at hx <;> simp at hx
  refine⟨by rw[Lo];exact hargs.1,fun t=>by rw[Lo,af.gw];exact hargs.2 t,fun o x hx=>?_,fun o o' x x' b hx hx' _ _=>?_,fun o x b hx hb=>?_,fun b o hs=>?_,rfl,.refl _,rfl,Nat.le_refl _,fun _ _ _=>rfl,by rw[Et];exact Sets.le_refl _,fun b o hs=>.inl (by rw[Et] at hs;exact hs),rfl,fun l qQ hl'=>?_⟩
  ·obtain⟨rfl,rfl⟩:=fP o x hx
   refine⟨bs,?_,by rw[N1];exact uU,rfl⟩
   simp only[E.eval]
   rw[List.append_assoc,List.getElem?_append_right (Nat.le_refl _)]
   simp
  ·obtain⟨rfl,_⟩:=fP o x hx
   obtain⟨rfl,_⟩:=fP o' x' hx'
   rfl
  ·obtain⟨rfl,rfl⟩:=fP o x hx
   have hb:aJ b:=by rw[N1] at hb;exact hb
   exact⟨.inr (.inr hb),hfl b hb⟩
  ·rw[Et] at hs
   exact hS b o ((hmem b o).1 hs)
  ·have uY:Sr.hold l=some qQ:=hl'
   rw[hSr] at uY
   simp only[Sets.under] at uY
   split at uY
   ·cases uY
   ·rename_i hne
    obtain⟨g1,g2⟩:=dP l qQ uY
    exact⟨g1,g2,g2⟩
 have Qsx:o6 N (d_ σ cf env.length ps.toList):=⟨by simp[d_,pP,hl.1],by simp[d_,hl.2]⟩
 refine wpIn_mono (Oj m wS _ _ (env++[.st bs]++ds) _ _ wS ρr ⟨_,JH,hnf,hnf⟩ rfl (by simp[cP];omega) fQ xC Qsx) fun e a1 w1 hp=>?_
 cases e with
 | exit id=>obtain⟨_,_,e,_,_,_,he,_⟩:=hp;simp[lK] at he
 | ret=>obtain⟨_,_,hf⟩:=hp;exact hf.elim
 | goto l=>exact hp.elim
 | panic c=>obtain⟨_,_,_,_,_,_,_,_,_,_,_,_,_,_,_,_,hq⟩:=hp;cases hq
 | outgrown=>exact hp.elim
 | normal=>
 obtain⟨wB,XB,YK,σB,ρB,tB,⟨hwB,hXB⟩,Zp,hkB,Vt,uW,N7⟩:=hp
 rw[hwB,hXB] at uW
 have al5:Sr.hold m=none:=by rw[hSr];simp[Sets.under]
 obtain⟨hm1,uW⟩:=uW.PV (r':={ rec with state:=.busy }) JH hnf hnf al5
 refine⟨_,run_beginRound hm1 (by rw[gp]),?_⟩
 have hk2:bW S wS (wS.putObj m (.loop { rec with state:=.busy })):=bW.putObj JH _
 generalize RJ:wS.putObj m (.loop { rec with state:=.busy })=w2 at uW hk2
 have hm2:w2.heap[m]? = some (.loop { rec with state:=.busy }):=by rw[←RJ];exact World.putObj_heap_same hlt
 have RU:∀b,b≠m→w2.heap[b]? = wS.heap[b]?:=fun b hb=>by rw[←RJ];exact World.putObj_heap_other hb
 have fX:w2.heap.size=wS.heap.size:=by rw[←RJ];simp
 have e2:w2.os=wS.os∧TL w2 wS∧w2.output=wS.output:=by rw[←RJ];exact⟨rfl,⟨rfl,Nat.le_refl _⟩,rfl⟩
 refine wpIn_mono (hbody m w2 _ _ YK _ _ _ _ ρB ⟨_,hm2,hnf,hnf⟩ hkB Vt uW N7) fun e a3 w3 hp=>?_
 cases e with
 | normal=>
  obtain⟨w0',X',env',σ',ρ',t',⟨hw0,hX0⟩,hpre,hk,Lr,me,Ve⟩:=hp
  rw[hw0,hX0] at me
  unfold iv at hk
  split at hk
  ·rename_i Qdy h' sA
   cases hk
   obtain⟨ds',cV,hq⟩:=Lr
   cases hq
   have dN:σ'.obj bN=some (.store Qdy h'):=by rw[af.dV,if_pos rfl];exact sA
   obtain⟨bs',tM,fp,_⟩:=me.dO _ _ dN
   simp only[aM,tM,Option.bind_some,Option.map_some,Option.some.injEq,List.cons.injEq,and_true] at cV
   subst cV
   have hleft:=nW me fp ⟨Qdy,h',dN⟩ fun _ h=>h
   have abb:m<w2.heap.size:=by rw[fX];exact hlt
   have hm3:w3.heap[m]? = some (.loop { rec with state:=.busy }):=(hleft.old m abb hnf).trans hm2
   have hend:=run_endRound (P:=P) none hm3
   have aoK:({ rec with state:=.busy }:Loop)={ { rec with state:=.busy } with state:=.busy }:=rfl
   refine⟨_,_,hend,ρ'.S.under S.hold,ρ'.aJ,bs',rfl,rfl,?_⟩
   have Vc:({ ({ rec with state:=LoopState.busy }:Loop) with state:=if(none:Option Code).isNone then LoopState.ready else LoopState.done,pending:=none }:Loop)=rec:=by rw[gp];rfl
   rw[Vc]
   have Vh:∀(T:Sets),bW T w3 (w3.putObj m (.loop rec)):=fun T=>bW.putObj hm3 rec
   have aq8:m<w3.heap.size:=(Array.getElem?_eq_some_iff.1 hm3).1
   have RV:¬ρ'.aJ m:=fun hf=>by
    rcases(hleft.ft m hf).1 with g | g
    ·exact hnf g
    ·omega
   have hho:ρ'.S.hold=Sr.hold:=hleft.le.hold
   refine⟨fp.to (ρ'.S.nw _) (fun _ _ h=>h) (fun b hb=>World.putObj_heap_other fun e=>RV (e ▸ hb)) (fun v d i x hi hp h=>(h.keep (Vh _) (Sets.le_refl _)).T6 (ρ'.S.nw _) fun l r hlr=>?_),?_,?_,?_,?_,?_,?_,?_,?_,?_,?_⟩
   ·rw[hho,hSr] at hlr
    simp only[Sets.under] at hlr ⊢
    split at hlr
    ·cases hlr
    ·exact hlr
   ·intro b o hs
    rw[Vh S b o hs]
    refine Eq.trans (World.cell?_of_block (a:=⟨b,o,none⟩) (hleft.old b (by rw[fX];exact hS b o hs) fun hf=>hst.Cw b o hf hs)) (hk2 b o hs)
   ·refine⟨fun b o hs=>hleft.le.mem b o ((hmem b o).2 hs),?_,fun i hi=>?_,fun i hi=>?_,rfl,fun i hi=>(hleft.le.mH i (by rw[←mL.n];exact hi)).trans (mL.mH i)⟩
    ·rw[mL.n];exact hleft.le.n
    ·exact(hleft.le.loc i (by rw[←mL.n];exact hi)).trans (mL.loc i)
    ·exact(hleft.le.cap i (by rw[←mL.n];exact hi)).trans (mL.cap i)
   ·exact hleft.os.trans e2.1
   ·exact⟨hleft.tape.tape.trans e2.2.1.tape,Nat.le_trans e2.2.1.dr hleft.tape.dr⟩
   ·exact hleft.output.trans e2.2.2
   ·simp only[World.putObj_size];rw[←fX];exact hleft.size
   ·intro b hb hnb
    by_cases e:b=m
    ·subst e;rw[World.putObj_heap_same aq8,JH]
    ·rw[World.putObj_heap_other e,hleft.old b (by rw[fX];exact hb) hnb,RU b e]
   ·intro b hb
    have:=hleft.ft b hb
    rw[fX] at this
    simp only[World.putObj_size]
    exact this
   ·intro b o hs
    have:=hleft.new b o hs
    rw[fX] at this
    exact this.imp_left fun h=>(hmem b o).1 h
   ·intro b o hs
    simp only[World.putObj_size]
    exact hleft.lt b o hs
  ·cases hk
 | exit id=>obtain⟨_,_,e,_,_,_,he,_⟩:=hp;simp[lK] at he
 | ret=>obtain⟨_,_,hf⟩:=hp;exact hf.elim
 | goto l=>exact hp.elim
 | panic c=>obtain⟨_,_,_,_,_,_,_,_,_,_,_,_,_,_,_,_,hq⟩:=hp;cases hq
 | outgrown=>exact hp.elim

def WS (w1:World)(X1:kG)(w':World)(st:D):Prop:=∃(a:Act) (σ:af) (env:List D) (ρ:dJ) (bs:List D),cu w1 X1 w' a σ env ρ∧(∃cf x,σ.obj bN=some (.store cf x))∧st=.st bs∧dF w' ρ.S ρ.aJ bs

def WR (w1:World)(X1:kG)(q:Option Nat)(b:Bool)(st:D):Exit→Act→World→Prop
 | .normal,_,w'=>b=true∧WS w1 X1 w' st
 | .ret,_,w'=>b=false∧q=none∧WS w1 X1 w' st
 | .exit id,_,w'=>b=false∧q=some id∧WS w1 X1 w' st
 | _,_,_=>False

theorem Fy {w1:World} {X1:kG} {N dp base:Nat} {σ:af} {cf:cz} {q:Option Nat} {gU:List D} {b:Bool} {st:D} (hb:base≤gU.length) {e:Exit} {a':Act} {w':World}
  (h:Post P (fun w X=>w=w1∧X=X1) N (fun w' a d=>∃σ env ρ x,cu w1 X1 w' a σ env ρ∧lu q σ=some x∧x.eval env=some d) gU (dp+2) (mw dp base σ cf q) (iv dp) (fun s=>s=Dl dp q b st) e a' w'):WR w1 X1 q b st e a' w':=by
 have ofs:∀{a:Act} {σ:af} {env:List D} {ρ:dJ} {cf:cz} {x:E} {d:D},cu w1 X1 w' a σ env ρ→σ.obj bN=some (.store cf x)→x.eval env=some d→WS w1 X1 w' d:=by
  intro a σ env ρ cf x d hr ho hx
  obtain⟨bs,h1,h2,_⟩:=hr.dO _ _ ho
  rw[hx] at h1
  cases h1
  exact⟨a,σ,env,ρ,bs,hr,⟨cf,x,ho⟩,rfl,h2⟩
 cases e with
 | normal=>
  obtain⟨w0',X',env',σ',ρ',t',⟨hw0,hX0⟩,hpre,hk,Lr,me,Ve⟩:=h
  rw[hw0,hX0] at me
  unfold iv at hk
  split at hk
  ·rename_i Qdy h' sA
   cases hk
   obtain⟨ds',cV,hq⟩:=Lr
   obtain⟨d,hd,rfl⟩:∃d,h'.eval env'=some d∧ds'=[d]:=by
    simp only[aM,Option.bind_eq_some_iff,Option.map_eq_some_iff,Option.bind_some,Option.some.injEq] at cV
    obtain⟨d,h1,r,rfl,rfl⟩:=cV
    exact⟨d,h1,rfl⟩
   cases b with
   | true=>cases hq;exact⟨rfl,ofs me (by rw[af.dV,if_pos rfl];exact sA) hd⟩
   | false=>
    cases q with
    | none=>cases hq
    | some id=>
     simp only[Dl,cond_false,iD.jump.injEq] at hq
     omega
  ·cases hk
 | ret=>
  obtain⟨d,hq,σ',env',ρ',x,me,hx,hd⟩:=h
  cases b with
  | true=>cases hq
  | false=>
   cases q with
   | some id=>cases hq
   | none=>
    cases hq
    refine⟨rfl,rfl,?_⟩
    unfold lu at hx
    split at hx
    ·rename_i Qdy h' _ sA
     cases hx
     exact ofs me (by rw[af.dV,if_pos rfl];exact sA) hd
    ·cases hx
 | exit id=>
  obtain⟨w0',X',e,ds',ρ',⟨hw0,hX0⟩,he,hq,me,Ve⟩:=h
  rw[hw0,hX0] at me
  cases q with
  | none=>simp[mw,lK] at he
  | some id'=>
   simp only[mw,lK] at he
   split at he
   ·rename_i e1
    cases he
    subst e1
    cases b with
    | true=>
     simp only[Dl,cond_true,iD.jump.injEq] at hq
     omega
    | false=>
     cases hq
     refine⟨rfl,rfl,ofs me (by rw[af.dV,if_pos rfl]) ?_⟩
     simp only[E.eval]
     rw[List.getElem?_append_right (by simp;omega)]
     simp[Nat.min_eq_left hb]
   ·cases he
 | goto l=>exact h.elim
 | panic c=>obtain⟨_,_,_,_,_,_,_,_,_,_,_,_,_,_,_,_,hq⟩:=h;cases b <;> cases q <;> cases hq
 | outgrown=>exact h.elim

theorem CR {N:Nat} {dp:Nat} {q:Option Nat} {wq body:Code} {tb:T} {σ:af} {cf:cz} {env:List D} {ps:Array Tmp} {fn:FuncId} {Se:Nat} {a:Act} {w:World} {ρ:dJ} (hr:cu w0 X w a σ env ρ) (hl:o6 N σ)
  (Oj:∀(l:Nat) (w1:World) (X1:kG) (σ1:af) (gU:List D) (Q:iD→Prop) (a1:Act) (w2:World) (ρ1:dJ),(∃r0,w1.heap[l]? = some (.loop r0)∧¬X1.may l∧¬X1.aJ l)→σ1=d_ σ cf env.length ps.toList→gU.length=env.length+1+ps.size→den P tb gU Q→cu w1 X1 w2 a1 σ1 gU ρ1→o6 N σ1→wq.wpIn (FW (some l)) 0 P (Post P (fun w X=>w=w1∧X=X1) N (fun _ _ _=>False) gU (dp+2) [] (fun MF u' σ'=>compile P (lu q) body MF u' σ' (mw dp (env.length+1+ps.size) σ cf q) (iv dp)) Q) a1 w2)
  (hbody:∀(l:Nat) (w1:World) (X1:kG) (σ1:af) (gU:List D) (t1:T) (b:Bool) (Qhx:D) (a1:Act) (w2:World) (ρ1:dJ),(∃r0,w1.heap[l]? = some (.loop r0)∧¬X1.may l∧¬X1.aJ l)→compile P (lu q) body (dp+2) gU.length σ1 (mw dp (env.length+1+ps.size) σ cf q) (iv dp)=some t1→env.length+1+ps.size≤gU.length→den P t1 gU (fun s=>s=Dl dp q b Qhx)→cu w1 X1 w2 a1 σ1 gU ρ1→o6 N σ1→body.wpIn (FW (some l)) 0 P (WR w1 X1 q b Qhx) a1 w2)
  {fk:List D} (Ep:aM env ((cK 0 σ.tmps).map (·.2))=some fk) {i:Nat} {ia lg ds:List D} {b:Bool} (hlp:ia[i]? = some (.oM false)) (cP:ds.length=ps.size) (tK:lg[i]? = some (.bh [])) (fQ:den P tb (env++[.st (ia.set i (.bh []))]++ds) fun s=>s=Dl dp q b (.st lg)) :
  q7 P (.tW i ({ state:=.ready,pending:=none,fn,tmps:=a.tmps,params:=ps,assign:=wq,body,defers:=Se },wH q) ((cK 0 σ.tmps).map (·.1)) fk) (.st ia) ds b (.st (lg.set i (.oM !b))):=by
 intro wS S aJ bs vs yv hb hst dP hfl hS hy hvl hrd
 cases hb
 obtain⟨rec,gp⟩:∃rec:Loop,rec={ state:=.ready,pending:=none,fn,tmps:=a.tmps,params:=ps,assign:=wq,body,defers:=Se }:=⟨_,rfl⟩
 rw[←gp] at hy
 generalize xB:(cK 0 σ.tmps).map (·.1)=sl at hy
 cases hy with
 | tW hi hlr hcap=>
 obtain⟨Vo,JH,hnm⟩:=hst.FJ i _ hlp rfl
 simp only[A8,hlr,cond_false] at JH
 generalize hm:S.loc i=m at Vo JH hnm
 have hlt:m<wS.heap.size:=(Array.getElem?_eq_some_iff.1 JH).1
 refine⟨m,_,_,_,_,rfl,run_yield JH (by rw[hvl,cP,gp]),?_⟩
 have N4:rec.body=body:=by rw[gp]
 have U5:rec.assign=wq:=by rw[gp]
 have aa5:rec.params=ps:=by rw[gp]
 have U2:rec.tmps=a.tmps:=by rw[gp]
 rw[N4,U5,aa5,U2]
 refine roundIn_of_wpIn (F:=Fence.wide) trivial ?_
 have uU:dF wS S (fun b=>aJ b∧b≠m) (ia.set i (.bh [])):=hm ▸ hst.drop hlp rfl
 obtain⟨wU,hfr⟩:∃wU:Nat→Prop,wU=fun b=>aJ b∧b≠m:=⟨_,rfl⟩
 rw[←hfr] at uU
 have RX:∀b,wU b→aJ b:=fun b hb=>by rw[hfr] at hb;exact hb.1
 have hnf:¬wU m:=fun hb=>by rw[hfr] at hb;exact hb.2 rfl
 have hhm:S.hold m=none:=by
  cases hx:S.hold m with
  | none=>rfl
  | some r=>exact absurd Vo (dP m r hx).2
 have Vy:∀(t:Nat) (x:E) (b:Bool),σ.tmps[t]? = some (.e x b)→∃d,x.eval env=some d∧bU wS S (a.tmps.getD t undef) d∧(b=true→d.one=true):=by
  intro t x b ht
  have h0:=hr.tmps t
  rw[af.gw,List.getD_eq_getElem?_getD,ht] at h0
  obtain⟨d,hd,_,h1⟩:=ef.kC (x:=x) (s:=b) h0
  obtain⟨i,hi⟩:=qY (k:=0) ht
  rw[Nat.zero_add] at hi
  obtain⟨d',fz,hx'⟩:=n_ (i:=i) (x:=x) Ep (by simp[hi])
  rw[hd] at hx'
  cases hx'
  have:=hcap i t d (by rw[←xB];simp[hi]) fz
  rw[U2] at this
  exact⟨d,hd,this,h1⟩
 obtain⟨ρr,N1⟩:∃ρr:dJ,ρr={ aE:=fun _=>0,val:=fun _=>undef,S:=S,aJ:=wU }:=⟨_,rfl⟩
 have Et:ρr.S=S:=by rw[N1]
 have Vq:env <+: env++[.st (ia.set i (.bh []))]++ds:=by rw[List.append_assoc];exact prefix_append _ _
 have hargs:=xf (w:=wS) (ρ:=ρr) (env:=env++[.st (ia.set i (.bh []))]++ds) (ps:=ps.toList) (vs:=vs.toList) (u:=env.length+1) (tm:=a.tmps) (wD:=σ.tmps.map SV.data) (by simp[hr.size]) (by simp[hvl,cP]) (fun t=>by
  rw[List.getD_eq_getElem?_getD,List.getElem?_map]
  cases ht:σ.tmps[t]? with
  | none=>exact .cE
  | some sv=>
   simp only[Option.map_some,Option.getD_some]
   cases sv with
   | e x b=>
    obtain⟨d,h1,h2,h3⟩:=Vy t x b ht
    exact .e (E.cA Vq _ h1) (by rw[Et];exact h2) h3
   | _=>exact .cE) (fun j v hj=>by
  have hlt:j<ds.length:=by
   have:=(List.getElem?_eq_some_iff.1 hj).1
   simp at this
   omega
  refine⟨ds[j],?_,?_⟩
  ·rw[List.getElem?_append_right (by simp),List.length_append]
   simp[show env.length+1+j-(env.length+1)=j from by omega]
  ·rw[Et]
   exact hrd j v _ (by simpa using hj) (List.getElem?_eq_getElem hlt))
 have Lo:(ps.zip vs).foldl (fun tmps (x:Tmp×Value)=>tmps.setIfInBounds x.1 x.2) a.tmps=(ps.toList.zip vs.toList).foldl (fun tmps (x:Tmp×Value)=>tmps.setIfInBounds x.1 x.2) a.tmps:=by
  rw[←Array.foldl_toList,Array.toList_zip]
 have xC:cu wS { may:=wU,S:=S,aJ:=wU,G7:=[] } wS { tmps:=(ps.zip vs).foldl (fun tmps (x:Tmp×Value)=>tmps.setIfInBounds x.1 x.2) a.tmps,defers:=[] } (d_ σ cf env.length ps.toList) (env++[.st (ia.set i (.bh []))]++ds) ρr:=by
  have fP:∀o x,(d_ σ cf env.length ps.toList).obj o=some x→o=bN∧x=.store cf (.sym env.length):=by
   intro o x hx
   simp only[af.dV,d_,List.getD_eq_getElem?_getD,List.getElem?_replicate] at hx
   split at hx
   ·cases hx;exact⟨by assumption,rfl⟩
   ·split at hx <;> simp at hx
  refine⟨by rw[Lo];exact hargs.1,fun t=>by rw[Lo,af.gw];exact hargs.2 t,fun o x hx=>?_,fun o o' x x' b hx hx' _ _=>?_,fun o x b hx hb=>?_,fun b o hs=>?_,rfl,.refl _,rfl,Nat.le_refl _,fun _ _ _=>rfl,by rw[Et];exact Sets.le_refl _,fun b o hs=>.inl (by rw[Et] at hs;exact hs),rfl,fun l qQ hl'=>?_⟩
  ·obtain⟨rfl,rfl⟩:=fP o x hx
   refine⟨ia.set i (.bh []),?_,by rw[N1];exact uU,rfl⟩
   simp only[E.eval]
   rw[List.append_assoc,List.getElem?_append_right (Nat.le_refl _)]
   simp
  ·obtain⟨rfl,_⟩:=fP o x hx
   obtain⟨rfl,_⟩:=fP o' x' hx'
   rfl
  ·obtain⟨rfl,rfl⟩:=fP o x hx
   have hb:wU b:=by rw[N1] at hb;exact hb
   exact⟨.inr (.inr hb),hfl b (RX b hb)⟩
  ·rw[Et] at hs
   exact hS b o hs
  ·obtain⟨g1,g2⟩:=dP l qQ hl'
   exact⟨g1,fun h=>g2 (RX _ h),fun h=>g2 (RX _ h)⟩
 have Qsx:o6 N (d_ σ cf env.length ps.toList):=⟨by simp[d_,pP,hl.1],by simp[d_,hl.2]⟩
 refine wpIn_mono (Oj m wS _ _ (env++[.st (ia.set i (.bh []))]++ds) _ _ wS ρr ⟨_,JH,hnf,hnf⟩ rfl (by simp[cP];omega) fQ xC Qsx) fun e a1 w1 hp=>?_
 cases e with
 | exit id=>obtain⟨_,_,e,_,_,_,he,_⟩:=hp;simp[lK] at he
 | ret=>obtain⟨_,_,hf⟩:=hp;exact hf.elim
 | goto l=>exact hp.elim
 | panic c=>obtain⟨_,_,_,_,_,_,_,_,_,_,_,_,_,_,_,_,hq⟩:=hp;cases b <;> cases q <;> cases hq
 | outgrown=>exact hp.elim
 | normal=>
 obtain⟨wB,XB,YK,σB,ρB,tB,⟨hwB,hXB⟩,Zp,hkB,Vt,uW,N7⟩:=hp
 rw[hwB,hXB] at uW
 obtain⟨hm1,uW⟩:=uW.PV (r':={ rec with state:=.busy }) JH hnf hnf hhm
 refine⟨_,run_beginRound hm1 (by rw[gp]),?_⟩
 have hk2:bW S wS (wS.putObj m (.loop { rec with state:=.busy })):=bW.putObj JH _
 generalize RJ:wS.putObj m (.loop { rec with state:=.busy })=w2 at uW hk2
 have hm2:w2.heap[m]? = some (.loop { rec with state:=.busy }):=by rw[←RJ];exact World.putObj_heap_same hlt
 have RU:∀b,b≠m→w2.heap[b]? = wS.heap[b]?:=fun b hb=>by rw[←RJ];exact World.putObj_heap_other hb
 have fX:w2.heap.size=wS.heap.size:=by rw[←RJ];simp
 have e2:w2.os=wS.os∧TL w2 wS∧w2.output=wS.output:=by rw[←RJ];exact⟨rfl,⟨rfl,Nat.le_refl _⟩,rfl⟩
 have hlB:env.length+1+ps.size≤YK.length:=by
  have:=List.IsPrefix.length_le Zp
  simp[cP] at this
  omega
 have abb:m<w2.heap.size:=by rw[fX];exact hlt
 have fin:∀(w3:World) (jump:Option Code),WS w2 { may:=wU,S:=S,aJ:=wU,G7:=[] } w3 (.st lg)→({ ({ rec with state:=LoopState.busy }:Loop) with state:=if jump.isNone then LoopState.ready else LoopState.done,pending:=jump }:Loop)=(bif !b then { rec with state:=.done,pending:=some (wH q) } else rec)→jump.isNone=b →
   ∃v w',(Instr.endRound m jump).run P w3=.ok v w'∧∃(S':Sets) (bV:Nat→Prop) (bs':List D),(Ending.returned v)=.returned (.bool b)∧D.st (lg.set i (.oM !b))=.st bs'∧dF w' S' bV bs'∧bW S wS w'∧S≤S'∧w'.os=wS.os∧TL w' wS∧w'.output=wS.output∧wS.heap.size≤w'.heap.size ∧
    (∀b,b<wS.heap.size→¬aJ b→w'.heap[b]? = wS.heap[b]?)∧(∀b,bV b→(aJ b∨wS.heap.size≤b)∧b<w'.heap.size)∧(∀b o,S' b o→S b o∨aJ b∨wS.heap.size≤b)∧∀b o,S' b o→b<w'.heap.size:=by
  rintro w3 jump ⟨a',σ',env',ρ',bs',me,El,oh,fp⟩ Vc hjb
  cases oh
  have hleft:=nW me fp El fun _ h=>h
  have hm3:w3.heap[m]? = some (.loop { rec with state:=.busy }):=(hleft.old m abb hnf).trans hm2
  have hend:=run_endRound (P:=P) jump hm3
  rw[Vc] at hend
  have aq8:m<w3.heap.size:=(Array.getElem?_eq_some_iff.1 hm3).1
  have RV:¬ρ'.aJ m:=fun hf=>by
   rcases(hleft.ft m hf).1 with g | g
   ·exact hnf g
   ·omega
  have wo:ρ'.S.loc i=m:=(hleft.le.loc i hi).trans hm
  obtain⟨r4,hr4⟩:∃r4:Loop,r4=(bif !b then { rec with state:=.done,pending:=some (wH q) } else rec):=⟨_,rfl⟩
  rw[←hr4] at hend
  have Vh:∀(T:Sets),bW T w3 (w3.putObj m (.loop r4)):=fun T=>bW.putObj hm3 r4
  have alu:∀off,¬ρ'.S m off:=fun off hs=>by
   rcases hleft.new m off hs with g | g | g
   ·exact hnm off g
   ·exact hnf g
   ·omega
  have oP:=fp.aaq (w':=w3.putObj m (.loop r4)) (z:=.oM !b) tK rfl (by
   rw[wo,World.putObj_heap_same aq8,hr4]
   simp only[A8,(hleft.le.mH i hi).trans hlr]) (by rw[wo];exact RV) (by rw[wo];exact alu) (Vh _) fun b hb=>World.putObj_heap_other fun e=>RV (e ▸ hb)
  refine⟨_,_,hend,ρ'.S,_,_,by rw[hjb],rfl,oP,?_,hleft.le,hleft.os.trans e2.1,⟨hleft.tape.tape.trans e2.2.1.tape,Nat.le_trans e2.2.1.dr hleft.tape.dr⟩,hleft.output.trans e2.2.2,?_,?_,?_,?_,?_⟩
  ·intro b o hs
   rw[Vh S b o hs]
   exact Eq.trans (World.cell?_of_block (a:=⟨b,o,none⟩) (hleft.old b (by rw[fX];exact hS b o hs) fun hf=>uU.Cw b o hf hs)) (hk2 b o hs)
  ·simp only[World.putObj_size];rw[←fX];exact hleft.size
  ·intro b hb hnb
   have hbm:b≠m:=fun e=>hnb (e ▸ Vo)
   rw[World.putObj_heap_other hbm,hleft.old b (by rw[fX];exact hb) (fun h=>hnb (RX b h)),RU b hbm]
  ·intro b hb
   simp only[World.putObj_size]
   rcases hb with hb | hb
   ·have:=hleft.ft b hb
    rw[fX] at this
    exact⟨this.1.imp_left (RX b),this.2⟩
   ·rw[wo] at hb
    subst hb
    exact⟨.inl Vo,aq8⟩
  ·intro b o hs
   have:=hleft.new b o hs
   rw[fX] at this
   exact this.imp_right fun h=>h.imp_left (RX b)
  ·intro b o hs
   simp only[World.putObj_size]
   exact hleft.lt b o hs
 refine wpIn_mono (hbody m w2 _ _ YK _ b _ _ _ ρB ⟨_,hm2,hnf,hnf⟩ hkB hlB Vt uW N7) fun e a3 w3 hp=>?_
 cases e with
 | normal=>
  obtain⟨hb,he⟩:=hp
  subst hb
  exact fin w3 none he (by rw[gp];rfl) rfl
 | ret=>
  obtain⟨hb,hq,he⟩:=hp
  subst hb hq
  exact fin w3 (some .ret) he (by rw[gp];rfl) rfl
 | exit id=>
  obtain⟨hb,hq,he⟩:=hp
  subst hb hq
  exact fin w3 (some (.exit id)) he (by rw[gp];rfl) rfl
 | goto l=>exact hp.elim
 | panic c=>exact hp.elim
 | outgrown=>exact hp.elim

theorem Gp {B:World→kG→Prop} {rd:Option Nat} {σ:af} {cf:cz} {hE:E} {env:List D} {a:Act} {w W3:World} {ρ:dJ} {S3:Sets} {EF:Nat→Prop} {gO:D} {mark:List Deferred} (hr:cu w0 X w a σ env ρ) (hro:cf.ro=false) (sA:σ.hs=some (.store cf hE)) (hB:B w0 X) (dG:rd≠none∨∀w1 X1 w2 X2,B w1 X1→Ext w1 X1 w2 X2→B w2 X2)
  (bn:cu w0 X W3 a (σ.setObj bN (some (.store cf (.sym env.length)))) (env++[gO]) { ρ with S:=S3,aJ:=EF }) (Ln:mark=[]∨(rd=none∧∃dd,mark=[{ target:=.collected dd,args:=#[] }]∧W3.heap[dd]? = some (.deferred (some []))∧w.heap.size≤dd∧¬EF dd)) :
  ∃w1 X1,B w1 X1∧cu w1 X1 W3 { a with defers:=mark++a.defers } (mo σ (.sym env.length)) (env++[gO]) { ρ with S:=S3,aJ:=EF }:=by
 have kY:mo σ (.sym env.length)=σ.setObj bN (some (.store cf (.sym env.length))):=by unfold mo;rw[sA]
 have El:∀o y,o≠bN→(σ.setObj bN (some (.store cf (.sym env.length)))).obj o=some y→σ.obj o=some y:=fun o y ho hy=>by rwa [af.ff (.inl rfl),if_neg ho] at hy
 obtain⟨ρ2,RI⟩:∃ρ2:dJ,ρ2={ ρ with S:=S3,aJ:=EF }:=⟨_,rfl⟩
 rw[←RI] at bn
 rw[←RI]
 rcases Ln with rfl | ⟨U4,dd,rfl,hDW,hD2,Lm⟩
 ·exact⟨w0,X,hB,by rw[kY];exact bn⟩
 ·have dG:=dG.resolve_left (fun h=>h U4)
  have Ob:ρ2.aJ=EF:=by rw[RI]
  have aa6:∀o y,(σ.setObj bN (some (.store cf (.sym env.length)))).obj o=some y→y.ro=false:=by
   intro o y hy
   by_cases ho:o=bN
   ·subst ho
    rw[af.ff (.inl rfl),if_pos rfl] at hy
    cases hy
    exact hro
   ·have:=El o y ho hy
    cases y with
    | store c z=>obtain⟨_,_,_,e⟩:=hr.dO o _ this;exact absurd e ho
    | _=>rfl
  have hown:∀o y b,(σ.setObj bN (some (.store cf (.sym env.length)))).obj o=some y→bY ρ2 o y b→(w0.heap.size≤b∨X.may b):=fun o y b hy hb=>by
   rcases(bn.own o y b hy hb).1 with g | g
   ·rw[aa6 o y hy] at g;cases g.1
   ·exact g
  have aa8:(σ.setObj bN (some (.store cf (.sym env.length)))).obj bN=some (.store cf (.sym env.length)):=by rw[af.ff (.inl rfl),if_pos rfl]
  obtain⟨X1,hX1⟩:∃X1:kG,X1={ may:=fun b=>∃o y,(σ.setObj bN (some (.store cf (.sym env.length)))).obj o=some y∧bY ρ2 o y b,S:=ρ2.S,aJ:=EF,G7:=[{ target:=.collected dd,args:=#[] }]++X.G7 }:=⟨_,rfl⟩
  have hmay:∀b,X1.may b↔∃o y,(σ.setObj bN (some (.store cf (.sym env.length)))).obj o=some y∧bY ρ2 o y b:=fun b=>by rw[hX1]
  have Oc:X1.aJ=EF:=by rw[hX1]
  have VG:X1.S=ρ2.S:=by rw[hX1]
  have hnD:¬X1.may dd:=by
   rw[hmay]
   rintro⟨o,y,hy,hb⟩
   by_cases ho:o=bN
   ·subst ho
    rw[aa8] at hy
    cases hy
    exact Lm (by rw[←Ob];exact hb)
   ·have hy':=El o y ho hy
    have hb':bY ρ o y dd:=by
     cases y with
     | store c z=>obtain⟨_,_,_,e⟩:=hr.dO o _ hy';exact absurd e ho
     | box cs=>rw[RI] at hb;exact hb
     | row x' sz=>rw[RI] at hb;exact hb
     | tok e' sz=>rw[RI] at hb;exact hb
    have:=(hr.own o y dd hy' hb').2
    omega
  have Qgk:∀l' qQ,X.S.hold l'=some qQ→W3.heap[l']? = some (.loop qQ)∧¬X1.may l'∧¬X1.aJ l':=by
   intro l' qQ hl'
   have h1:ρ2.S.hold l'=some qQ:=by rw[bn.sub.hold];exact hl'
   obtain⟨g1,g2⟩:=bn.mK aa8 l' qQ h1
   obtain⟨k1,k2,k3⟩:=hr.hold l' qQ hl'
   have hlt:=(Array.getElem?_eq_some_iff.1 k1).1
   refine⟨g1,?_,by rw[Oc,←Ob];exact g2⟩
   rw[hmay]
   rintro⟨o,y,hy,hb⟩
   rcases hown o y l' hy hb with g | g
   ·omega
   ·exact k2 g
  have Od:Ext w0 X W3 X1:=by
   refine⟨by rw[VG];exact bn.sub,bn.os,bn.tape,bn.output,bn.grown,bn.old,fun b hb=>?_,fun b hb=>?_,fun b o hs=>?_,[dd],by rw[hX1];rfl,by simp,fun D hD=>?_⟩
   ·obtain⟨o,y,hy,hb⟩:=(hmay b).1 hb
    exact(hown o y b hy hb).symm
   ·rw[Oc,←Ob] at hb
    exact .inr (hown bN _ b aa8 hb).symm
   ·rw[VG] at hs
    exact bn.new b o hs
   ·simp at hD
    subst hD
    exact⟨hDW,hnD,by rw[Oc];exact Lm,Nat.le_trans hr.grown hD2⟩
  refine⟨W3,X1,dG w0 X W3 X1 hB Od,?_⟩
  rw[kY]
  refine⟨bn.size,bn.tmps,bn.dO,bn.inj,fun o y b hy hb=>⟨.inr (.inr ((hmay b).2 ⟨o,y,hy,hb⟩)),(bn.own o y b hy hb).2⟩,bn.cells,rfl,.refl _,rfl,Nat.le_refl _,fun _ _ _=>rfl,by rw[VG];exact Sets.le_refl _,fun b o hs=>.inl (by rw[VG];exact hs),?_,fun l' qQ hl'=>Qgk l' qQ ?_⟩
  ·rw[hX1]
   show[({ target:=.collected dd,args:=#[] }:Deferred)]++a.defers=[{ target:=.collected dd,args:=#[] }]++X.G7
   rw[hr.zT]
  ·rw[VG,bn.sub.hold] at hl'
   exact hl'

theorem EM {rd:Option Nat}{ps:Array Tmp}{wq body:Code}{σ:af}{env:List D}{a:Act}{w:World}{ρ:dJ}(hr:cu w0 X w a σ env ρ)(hrd:∀l,rd=some l→∃r0,w0.heap[l]? = some (.loop r0)∧¬X.may l∧¬X.aJ l)(fn:FuncId) :
  ∃(l:Nat) (mark:List Deferred) (W1:World) (rec:Loop) (Se:Nat),rec={ state:=.ready,pending:=none,fn,tmps:=a.tmps,params:=ps,assign:=wq,body,defers:=Se } ∧
   (Instr.enterLoop fn a.tmps ps wq body (FW rd).round).run P w=.ok (l,mark) W1∧W1.heap[l]? = some (.loop rec)∧w.heap.size≤l∧w.heap.size≤W1.heap.size∧(∀b,b<w.heap.size→W1.heap[b]? = w.heap[b]?)∧W1.os=w.os∧TL W1 w∧W1.output=w.output ∧
   (mark=[]∨(rd=none∧∃dd,mark=[{ target:=.collected dd,args:=#[] }]∧W1.heap[dd]? = some (.deferred (some []))∧w.heap.size≤dd∧dd≠l)):=by
 cases rd with
 | none=>
  refine⟨_,_,_,_,w.heap.size,rfl,run_enterLoop_outer fn a.tmps ps wq body,?_,by omega,by simp;omega,fun b hb=>?_,rfl,⟨rfl,Nat.le_refl _⟩,rfl,.inr ⟨rfl,_,rfl,?_,Nat.le_refl _,by omega⟩⟩
  ·have:=World.alloc_heap_new (w.alloc (.deferred (some []))) (.loop { state:=.ready,pending:=none,fn,tmps:=a.tmps,params:=ps,assign:=wq,body,defers:=w.heap.size })
   rwa [World.size_alloc] at this
  ·rw[Qcx _ _ b (by simp;omega),Qcx _ _ b hb]
  ·rw[Qcx _ _ _ (by simp)]
   exact World.alloc_heap_new w _
 | some l0=>
  obtain⟨r0,g1,g2,g3⟩:=hrd l0 rfl
  have hl0:w.heap[l0]? = some (.loop r0):=(hr.old l0 (Array.getElem?_eq_some_iff.1 g1).1 g2).trans g1
  refine⟨_,_,_,_,r0.defers,rfl,run_enterLoop_inner hl0 fn a.tmps ps wq body,World.alloc_heap_new w _,Nat.le_refl _,by simp,fun b hb=>Qcx _ _ b hb,rfl,⟨rfl,Nat.le_refl _⟩,rfl,.inl rfl⟩

theorem wW {f : FuncId} (nY : bJ P f = true) : ∃ fn0, P.funcs[f]? = some fn0 ∧ (fn0.name == "runtime.NumGoroutine") = false ∧ fn0.body.isNone = false := by
 unfold bJ at nY
 split at nY
 ·rename_i fn0 hf
  simp only[Bool.and_eq_true,Bool.not_eq_true',Option.isSome_iff_ne_none] at nY
  refine⟨fn0,hf,nY.1,?_⟩
  cases hb:fn0.body with
  | none=>exact absurd hb nY.2
  | some _=>rfl
 ·cases nY

theorem M_ {B:World→kG→Prop} {N:Nat} {rd:Option Nat} {nd:Nat} {g:Operand} {ps:Array Tmp} {dp:Nat} {wq body:Code} {tb:T} {σ:af} {cf:cz} {xg hE:E} {env:List D} {a:Act} {w:World} {ρ:dJ} {Q:Exit→Act→World→Prop}
  (hr:cu w0 X w a σ env ρ) (hl:o6 N σ) (hro:cf.ro=false) (sA:σ.hs=some (.store cf hE)) (hB:B w0 X) (hg:(σ.zS g).jx=some xg)
  (hrd:∀l,rd=some l→∃r0,w0.heap[l]? = some (.loop r0)∧¬X.may l∧¬X.aJ l) (dG:rd≠none∨∀w1 X1 w2 X2,B w1 X1→Ext w1 X1 w2 X2→B w2 X2)
  (Oj:∀(l:Nat) (w1:World) (X1:kG) (σ1:af) (gU:List D) (Q:iD→Prop) (a1:Act) (w2:World) (ρ1:dJ),(∃r0,w1.heap[l]? = some (.loop r0)∧¬X1.may l∧¬X1.aJ l)→σ1=d_ σ cf env.length ps.toList→gU.length=env.length+1+ps.size→den P tb gU Q→cu w1 X1 w2 a1 σ1 gU ρ1→o6 N σ1→wq.wpIn (FW (some l)) 0 P (Post P (fun w X=>w=w1∧X=X1) N (fun _ _ _=>False) gU (dp+1) [] (fun MF u' σ'=>compile P (fun _=>none) body MF u' σ' [] (iv dp)) Q) a1 w2)
  (hbody:∀(l:Nat) (w1:World) (X1:kG) (σ1:af) (gU:List D) (t1:T) (Q:iD→Prop) (a1:Act) (w2:World) (ρ1:dJ),(∃r0,w1.heap[l]? = some (.loop r0)∧¬X1.may l∧¬X1.aJ l)→compile P (fun _=>none) body (dp+1) gU.length σ1 [] (iv dp)=some t1→den P t1 gU Q→cu w1 X1 w2 a1 σ1 gU ρ1→o6 N σ1→body.wpIn (FW (some l)) 0 P (Post P (fun w X=>w=w1∧X=X1) N (fun _ _ _=>False) gU (dp+1) [] (iv dp) Q) a1 w2)
  {f:FuncId} {us cs fk:List D} {st d gO:D} (hx:xg.eval env=some (.fn f us cs)) (nY:bJ P f=true) (hh:hE.eval env=some st) (Ep:aM env ((cK 0 σ.tmps).map (·.2))=some fk) (hnc:cN fk=true) (hn':gO.gK=true)
  (hspec:∀(m:Nat) (rec:Loop),(∀Qjv ds Qhx,Qjv.gK=true→cN ds=true→ds.length=ps.size→den P tb (env++[Qjv]++ds) (fun s=>s=.jump dp [Qhx])→Fp P (.yl m rec ((cK 0 σ.tmps).map (·.1)) fk) Qjv ds Qhx)→bk P f st (us++[.yl m rec ((cK 0 σ.tmps).map (·.1)) fk]++cs) d gO)
  (hQ:∀(w1:World) (X1:kG) (a':Act) (w':World) (ρ':dJ),B w1 X1→cu w1 X1 w' a' (mo σ (.sym env.length)) (env++[gO]) ρ'→Q .normal a' w'):(Code.rangeFunc g ps wq body).wpIn (FW rd) nd P Q a w:=by
 have dN:σ.obj bN=some (.store cf hE):=by rw[af.dV,if_pos rfl];exact sA
 obtain⟨bs,tM,hst,_⟩:=hr.dO _ _ dN
 rw[tM] at hh
 cases hh
 have IQ:∀b,ρ.aJ b→b<w.heap.size:=gZ hr dN
 have dP:=hr.mK dN
 refine wpIn_rangeFunc fun fn _=>?_
 obtain⟨l,mark,W1,rec,Se,gp,hent,hlW,hle,hsz,y_,MA,ht1,JF,Ln⟩:∃(l:Nat) (mark:List Deferred) (W1:World) (rec:Loop) (Se:Nat),rec={ state:=.ready,pending:=none,fn,tmps:=a.tmps,params:=ps,assign:=wq,body,defers:=Se } ∧
   (Instr.enterLoop fn a.tmps ps wq body (FW rd).round).run P w=.ok (l,mark) W1∧W1.heap[l]? = some (.loop rec)∧w.heap.size≤l∧w.heap.size≤W1.heap.size∧(∀b,b<w.heap.size→W1.heap[b]? = w.heap[b]?)∧W1.os=w.os∧TL W1 w∧W1.output=w.output ∧
   (mark=[]∨(rd=none∧∃dd,mark=[{ target:=.collected dd,args:=#[] }]∧W1.heap[dd]? = some (.deferred (some []))∧w.heap.size≤dd∧dd≠l)):=EM hr hrd fn
 have N6:l<W1.heap.size:=(Array.getElem?_eq_some_iff.1 hlW).1
 have Yh:¬ρ.aJ l:=fun hf=>by have:=IQ l hf;omega
 obtain⟨dg,hdg,hrg⟩:=SV.ck hg (Ar (a:=a) hr g)
 rw[hx] at hdg
 cases hdg
 generalize hvg:a.eval g=vg at hrg
 cases hrg with
 | @fn _ uv cv _ _ FK Vx RK IU=>
 obtain⟨fn0,hf0,hnm,VA⟩:=wW nY
 obtain⟨S1,tU⟩:∃S1:Sets,S1=ρ.S.under fun l'=>if l'=l then some rec else ρ.S.hold l':=⟨_,rfl⟩
 have mL:ρ.S.SR S1:=by rw[tU];exact ρ.S.nw _
 have hmem:∀b o,S1 b o↔ρ.S b o:=by intro b o;rw[tU];exact Iff.rfl
 have hk1:∀(T:Sets),(∀b o,T b o→b<w.heap.size)→bW T w W1:=fun T hT b o hs=>World.cell?_of_block (a:=⟨b,o,none⟩) (y_ b (hT b o hs))
 have alv:∀l' qQ,ρ.S.hold l'=some qQ→l'≠l:=fun l' qQ h e=>by
  have:=(Array.getElem?_eq_some_iff.1 (dP l' qQ h).1).1
  omega
 have hto:∀{v:Value} {d:D},bU w ρ.S v d→bU W1 S1 v d:=fun h=>(h.keep (hk1 _ hr.cells) (Sets.le_refl _)).T6 mL fun l' r' hl'=>by
  rw[tU]
  simp only[Sets.under]
  rw[if_neg (alv l' r' hl')]
  exact hl'
 have RN:dF W1 S1 ρ.aJ bs:=hst.to mL (fun b o h=>(hmem b o).1 h) (fun b hb=>y_ b (IQ b hb)) fun v d i x hi hp h=>hto h
 have N_:nJ W1 S1 ρ.aJ:=by
  intro l' qQ hl'
  rw[tU] at hl'
  simp only[Sets.under] at hl'
  split at hl'
  ·rename_i e
   cases hl'
   subst e
   exact⟨hlW,Yh⟩
  ·obtain⟨g1,g2⟩:=dP l' qQ hl'
   exact⟨(y_ l' (Array.getElem?_eq_some_iff.1 g1).1).trans g1,g2⟩
 have xW:bU W1 S1 (.func (.yield l) #[] #[]) (.yl l rec ((cK 0 σ.tmps).map (·.1)) fk):=by
  refine .yl (by rw[tU];simp[Sets.under]) fun i s d hi hd=>?_
  simp only[List.getElem?_map,Option.map_eq_some_iff] at hi
  obtain⟨⟨s',x⟩,hi,rfl⟩:=hi
  obtain⟨_,b,hb⟩:=qZ hi
  obtain⟨d',fz,hx'⟩:=n_ (i:=i) (x:=x) Ep (by simp[hi])
  rw[hd] at fz
  cases fz
  have h0:=hr.tmps s'
  simp only[Nat.sub_zero] at hb
  rw[af.gw,List.getD_eq_getElem?_getD,hb] at h0
  obtain⟨d'',h1,h2,_⟩:=ef.kC (x:=x) (s:=b) h0
  rw[h1] at hx'
  cases hx'
  rw[gp]
  exact hto h2
 have hfs:=hspec l rec fun Qjv ds Qhx g1 g2 g3 g4=>by
  rw[gp]
  exact Fv hr hl hro Oj hbody Ep hnc g1 g2 g3 g4
 refine⟨l,mark,W1,{ target:=.fn (.func f) cv,args:=uv++#[.func (.yield l) #[] #[]] },W1,f,uv++#[.func (.yield l) #[] #[]]++cv,W1,hent,?_,fun _ _=>trivial,?_,fun e=>(by cases e),Jl.2 ?_⟩
 ·simp only[resolve,hvg,Deferred.ofValue]
  simp[Act.eval]
 ·simp only[invoke,callFunc,run_program,Sem.run_bind,Sem.run_pure,Result.andThen_ok,hf0,hnm,VA,Bool.false_eq_true,if_false]
 refine(hfs W1 S1 ρ.aJ bs _ rfl RN N_ (fun b hb=>Nat.lt_of_lt_of_le (IQ b hb) hsz) (fun b o hs=>Nat.lt_of_lt_of_le (hr.cells b o ((hmem b o).1 hs)) hsz) (by simp[FK,Vx];omega) (fun i v x hv hx'=>VP (us:=uv.toList) (vs:=[Value.func (.yield l) #[] #[]]) (ws:=cv.toList) (R:=fun v x=>bU W1 S1 v x) (by simpa using FK) rfl (fun i u x hu hx=>hto (RK i u x (by simpa using hu) hx)) (fun i u x hu hx=>by
  cases i with
  | zero=>simp at hu hx;subst hu hx;exact xW
  | succ i=>simp at hu) (fun i u x hu hx=>hto (IU i u x (by simpa using hu) hx)) i v x (by rw[←Array.getElem?_toList] at hv;simpa using hv) hx')).mono ?_
 rintro e W2 ⟨v,S',bV,bs',⟨rfl,_⟩,rfl,fp,hk,hS,hos,RL,hout,RM,q_,hf',GU,IW⟩
 have hn2:cN bs'=true:=by simpa[D.gK] using hn'
 have uY:W2.heap[l]? = some (.loop rec):=(q_ l N6 Yh).trans hlW
 have hend:=run_endLoop (P:=P) uY (by rw[gp];simp)
 have U7:rec.pending=none:=by rw[gp]
 obtain⟨W3,W8⟩:∃W3,W3=W2.putObj l (.loop { rec with state:=.exhausted }):=⟨_,rfl⟩
 rw[←W8] at hend
 rw[U7] at hend
 refine⟨none,W3,hend,?_⟩
 have hk3:∀(T:Sets),bW T W2 (W2.putObj l (.loop { rec with state:=.exhausted })):=fun T=>bW.putObj uY _
 have Yg:∀b,b≠l→(W2.putObj l (.loop { rec with state:=.exhausted })).heap[b]? = W2.heap[b]?:=fun b hb=>World.putObj_heap_other hb
 have JG:(W2.putObj l (.loop { rec with state:=.exhausted })).heap.size=W2.heap.size:=World.putObj_size
 have Zo:(W2.putObj l (.loop { rec with state:=.exhausted })).os=W2.os∧TL (W2.putObj l (.loop { rec with state:=.exhausted })) W2∧(W2.putObj l (.loop { rec with state:=.exhausted })).output=W2.output:=⟨rfl,⟨rfl,Nat.le_refl _⟩,rfl⟩
 rw[←W8] at JG Zo
 replace hk3:∀(T:Sets),bW T W2 W3:=fun T=>W8 ▸ hk3 T
 replace Yg:∀b,b≠l→W3.heap[b]? = W2.heap[b]?:=fun b hb=>W8 ▸ Yg b hb
 have RV:∀b,bV b→b≠l:=fun b hb e=>by
  rcases(hf' b hb).1 with g | g
  ·exact Yh (e ▸ g)
  ·omega
 have UX:dF W3 (S'.under ρ.S.hold) bV bs':=fp.to (S'.nw _) (fun _ _ h=>h) (fun b hb=>Yg b (RV b hb)) fun v d i x hi hp h=>(h.keep (hk3 _) (Sets.le_refl _)).like (S'.nw _) (Gv hn2 hi hp)
 have kY:mo σ (.sym env.length)=σ.setObj bN (some (.store cf (.sym env.length))):=by unfold mo;rw[sA]
 have El:∀o y,o≠bN→(σ.setObj bN (some (.store cf (.sym env.length)))).obj o=some y→σ.obj o=some y:=fun o y ho hy=>by rwa [af.ff (.inl rfl),if_neg ho] at hy
 have bn:=(hr.env (prefix_append env [.st bs'])).Qew (w':=W3) (x':=.sym env.length) (S':=S'.under ρ.S.hold) dN hro (by simp[E.eval]) UX (fun b o hs=>by
   rw[hk3 ρ.S b o hs,hk b o ((hmem b o).2 hs)]
   exact hk1 ρ.S hr.cells b o hs) ⟨fun b o hs=>hS.mem b o ((hmem b o).2 hs),by rw[mL.n];exact hS.n,fun i hi=>(hS.loc i (by rw[←mL.n];exact hi)).trans (mL.loc i),fun i hi=>(hS.cap i (by rw[←mL.n];exact hi)).trans (mL.cap i),rfl,fun i hi=>(hS.mH i (by rw[←mL.n];exact hi)).trans (mL.mH i)⟩
  (Zo.1.trans (hos.trans MA)) (Zo.2.1.trans (RL.trans ht1)) (Zo.2.2.trans (hout.trans JF)) (by rw[JG];exact Nat.le_trans hsz RM) (fun b hb hnb=>by
   rw[Yg b (by omega),q_ b (Nat.lt_of_lt_of_le hb hsz) hnb,y_ b hb]) (fun b hb=>by
   obtain⟨g1,g2⟩:=hf' b hb
   refine⟨g1.imp_right fun h=>Nat.le_trans hsz h,by rw[JG];exact g2⟩) (fun b o hs=>by
   rcases GU b o hs with g | g | g
   ·exact .inl ((hmem b o).1 g)
   ·exact .inr (.inl g)
   ·exact .inr (.inr (Nat.le_trans hsz g))) (fun b o hs=>by rw[JG];exact IW b o hs)
 obtain⟨Pj,X1',CF,Lh⟩:=Gp hr hro sA hB dG bn (Ln.imp id fun⟨U4,dd,e,hD1,hD2,hD3⟩=>by
  have abB:dd<W1.heap.size:=(Array.getElem?_eq_some_iff.1 hD1).1
  have Lm:¬ρ.aJ dd:=fun hf=>by have:=IQ dd hf;omega
  exact⟨U4,dd,e,by rw[Yg dd hD3,q_ dd abB Lm];exact hD1,hD2,fun hf=>by
   rcases(hf' dd hf).1 with g | g
   ·exact Lm g
   ·omega⟩)
 exact hQ Pj X1' _ W3 _ CF Lh

theorem Kc {B:World→kG→Prop} {N:Nat} {rd:Option Nat} {nd:Nat} {g:Operand} {ps:Array Tmp} {dp:Nat} {q:Option Nat} {wq body:Code} {tb:T} {σ:af} {cf:cz} {xg hE:E} {env:List D} {a:Act} {w:World} {ρ:dJ} {Q:Exit→Act→World→Prop}
  (hr:cu w0 X w a σ env ρ) (hl:o6 N σ) (hro:cf.ro=false) (sA:σ.hs=some (.store cf hE)) (hB:B w0 X) (hg:(σ.zS g).jx=some xg)
  (hrd:∀l,rd=some l→∃r0,w0.heap[l]? = some (.loop r0)∧¬X.may l∧¬X.aJ l) (dG:rd≠none∨∀w1 X1 w2 X2,B w1 X1→Ext w1 X1 w2 X2→B w2 X2)
  (Oj:∀(l:Nat) (w1:World) (X1:kG) (σ1:af) (gU:List D) (Q:iD→Prop) (a1:Act) (w2:World) (ρ1:dJ),(∃r0,w1.heap[l]? = some (.loop r0)∧¬X1.may l∧¬X1.aJ l)→σ1=d_ σ cf env.length ps.toList→gU.length=env.length+1+ps.size→den P tb gU Q→cu w1 X1 w2 a1 σ1 gU ρ1→o6 N σ1→wq.wpIn (FW (some l)) 0 P (Post P (fun w X=>w=w1∧X=X1) N (fun _ _ _=>False) gU (dp+2) [] (fun MF u' σ'=>compile P (lu q) body MF u' σ' (mw dp (env.length+1+ps.size) σ cf q) (iv dp)) Q) a1 w2)
  (hbody:∀(l:Nat) (w1:World) (X1:kG) (σ1:af) (gU:List D) (t1:T) (b:Bool) (Qhx:D) (a1:Act) (w2:World) (ρ1:dJ),(∃r0,w1.heap[l]? = some (.loop r0)∧¬X1.may l∧¬X1.aJ l)→compile P (lu q) body (dp+2) gU.length σ1 (mw dp (env.length+1+ps.size) σ cf q) (iv dp)=some t1→env.length+1+ps.size≤gU.length→den P t1 gU (fun s=>s=Dl dp q b Qhx)→cu w1 X1 w2 a1 σ1 gU ρ1→o6 N σ1→body.wpIn (FW (some l)) 0 P (WR w1 X1 q b Qhx) a1 w2)
  {f:FuncId} {us cs fk bs bs':List D} {d:D} {stop:Bool} (hx:xg.eval env=some (.fn f us cs)) (nY:bJ P f=true) (hh:hE.eval env=some (.st bs)) (Ep:aM env ((cK 0 σ.tmps).map (·.2))=some fk) (Vu:bs'[bs.length]? = some (.bh []))
  (hspec:∀(rec:Loop×Code),(∀ia ds b lg,ia[bs.length]? = some (.oM false)→ds.length=ps.size→lg[bs.length]? = some (.bh [])→den P tb (env++[.st (ia.set bs.length (.bh []))]++ds) (fun s=>s=Dl dp q b (.st lg))→q7 P (.tW bs.length rec ((cK 0 σ.tmps).map (·.1)) fk) (.st ia) ds b (.st (lg.set bs.length (.oM !b)))) →
    bk P f (.st (bs++[.oM false])) (us++[.tW bs.length rec ((cK 0 σ.tmps).map (·.1)) fk]++cs) d (.st (bs'.set bs.length (.oM stop))))
  (hQ:∀(w1:World) (X1:kG) (a':Act) (w':World) (ρ':dJ),B w1 X1→cu w1 X1 w' a' (mo σ (.sym env.length)) (env++[.st bs']) ρ'→if stop then(wH q).wpIn (FW rd) nd P Q a' w' else Q .normal a' w'):(Code.rangeFunc g ps wq body).wpIn (FW rd) nd P Q a w:=by
 have dN:σ.obj bN=some (.store cf hE):=by rw[af.dV,if_pos rfl];exact sA
 obtain⟨rp,tM,hst,_⟩:=hr.dO _ _ dN
 rw[hh] at tM
 cases tM
 have IQ:∀b,ρ.aJ b→b<w.heap.size:=gZ hr dN
 have dP:=hr.mK dN
 refine wpIn_rangeFunc fun fn _=>?_
 obtain⟨l,mark,W1,rec,Se,gp,hent,hlW,hle,hsz,y_,MA,ht1,JF,Ln⟩:∃(l:Nat) (mark:List Deferred) (W1:World) (rec:Loop) (Se:Nat),rec={ state:=.ready,pending:=none,fn,tmps:=a.tmps,params:=ps,assign:=wq,body,defers:=Se } ∧
   (Instr.enterLoop fn a.tmps ps wq body (FW rd).round).run P w=.ok (l,mark) W1∧W1.heap[l]? = some (.loop rec)∧w.heap.size≤l∧w.heap.size≤W1.heap.size∧(∀b,b<w.heap.size→W1.heap[b]? = w.heap[b]?)∧W1.os=w.os∧TL W1 w∧W1.output=w.output ∧
   (mark=[]∨(rd=none∧∃dd,mark=[{ target:=.collected dd,args:=#[] }]∧W1.heap[dd]? = some (.deferred (some []))∧w.heap.size≤dd∧dd≠l)):=EM hr hrd fn
 have N6:l<W1.heap.size:=(Array.getElem?_eq_some_iff.1 hlW).1
 have Yh:¬ρ.aJ l:=fun hf=>by have:=IQ l hf;omega
 obtain⟨dg,hdg,hrg⟩:=SV.ck hg (Ar (a:=a) hr g)
 rw[hx] at hdg
 cases hdg
 generalize hvg:a.eval g=vg at hrg
 cases hrg with
 | @fn _ uv cv _ _ FK Vx RK IU=>
 obtain⟨fn0,hf0,hnm,VA⟩:=wW nY
 obtain⟨S1,tU⟩:∃S1:Sets,S1=ρ.S.more l 0 (rec,wH q):=⟨_,rfl⟩
 have av2:ρ.S≤S1:=tU ▸ ρ.S.qw l 0 _
 have hn:ρ.S.n=bs.length:=hst.n
 have hk1:∀(T:Sets),(∀b o,T b o→b<w.heap.size)→bW T w W1:=fun T hT b o hs=>World.cell?_of_block (a:=⟨b,o,none⟩) (y_ b (hT b o hs))
 have hto:∀{v:Value} {d:D},bU w ρ.S v d→bU W1 S1 v d:=fun h=>h.keep (hk1 _ hr.cells) av2
 have Lt:∀b o,S1 b o↔ρ.S b o:=by intro b o;rw[tU];exact Iff.rfl
 have Zv:S1.loc bs.length=l:=by rw[tU,←hn];simp[Sets.more]
 have afG:S1.mH bs.length=(rec,wH q):=by rw[tU,←hn];simp[Sets.more]
 have FN:bs.length<S1.n:=by rw[tU,←hn];simp[Sets.more]
 have RN:dF W1 S1 (fun b=>ρ.aJ b∨b=l) (bs++[.oM false]):=by
  rw[tU]
  refine pK hst (hk1 _ hr.cells) rfl (fun i x hi hx=>?_) (fun _=>Iff.rfl) (fun e sz cs hz=>by cases hz) (fun dL hz=>by cases hz) (fun off hs=>?_) fun _=>?_
  ·have:=IQ _ (hst.jl hi hx)
   exact⟨hi,by omega,y_ _ this⟩
  ·have:=hr.cells _ off hs;omega
  ·rw[hlW]
   simp[A8,Sets.more]
 have N_:nJ W1 S1 (fun b=>ρ.aJ b∨b=l):=by
  intro l' qQ hl'
  rw[tU] at hl'
  obtain⟨g1,g2⟩:=dP l' qQ hl'
  have hlt:=(Array.getElem?_eq_some_iff.1 g1).1
  exact⟨(y_ l' hlt).trans g1,fun h=>h.elim g2 fun e=>by omega⟩
 have xW:bU W1 S1 (.func (.yield l) #[] #[]) (.tW bs.length (rec,wH q) ((cK 0 σ.tmps).map (·.1)) fk):=by
  rw[←Zv]
  refine .tW FN afG fun i s d hi hd=>?_
  simp only[List.getElem?_map,Option.map_eq_some_iff] at hi
  obtain⟨⟨s',x⟩,hi,rfl⟩:=hi
  obtain⟨_,b,hb⟩:=qZ hi
  obtain⟨d',fz,hx'⟩:=n_ (i:=i) (x:=x) Ep (by simp[hi])
  rw[hd] at fz
  cases fz
  have h0:=hr.tmps s'
  simp only[Nat.sub_zero] at hb
  rw[af.gw,List.getD_eq_getElem?_getD,hb] at h0
  obtain⟨d'',h1,h2,_⟩:=ef.kC (x:=x) (s:=b) h0
  rw[h1] at hx'
  cases hx'
  rw[gp]
  exact hto h2
 have hfs:=hspec (rec,wH q) fun ia ds b lg g1 g2 g3 g4=>by
  rw[gp]
  exact CR hr hl Oj hbody Ep g1 g2 g3 g4
 have afV:∀b,(ρ.aJ b∨b=l)→b<W1.heap.size:=fun b hb=>hb.elim (fun h=>Nat.lt_of_lt_of_le (IQ b h) hsz) fun e=>e ▸ N6
 refine⟨l,mark,W1,{ target:=.fn (.func f) cv,args:=uv++#[.func (.yield l) #[] #[]] },W1,f,uv++#[.func (.yield l) #[] #[]]++cv,W1,hent,?_,fun _ _=>trivial,?_,fun e=>(by cases e),Jl.2 ?_⟩
 ·simp only[resolve,hvg,Deferred.ofValue]
  simp[Act.eval]
 ·simp only[invoke,callFunc,run_program,Sem.run_bind,Sem.run_pure,Result.andThen_ok,hf0,hnm,VA,Bool.false_eq_true,if_false]
 refine(hfs W1 S1 _ _ _ rfl RN N_ afV (fun b o hs=>Nat.lt_of_lt_of_le (hr.cells b o ((Lt b o).1 hs)) hsz) (by simp[FK,Vx];omega) (fun i v x hv hx'=>VP (us:=uv.toList) (vs:=[Value.func (.yield l) #[] #[]]) (ws:=cv.toList) (R:=fun v x=>bU W1 S1 v x) (by simpa using FK) rfl (fun i u x hu hx=>hto (RK i u x (by simpa using hu) hx)) (fun i u x hu hx=>by
  cases i with
  | zero=>simp at hu hx;subst hu hx;exact xW
  | succ i=>simp at hu) (fun i u x hu hx=>hto (IU i u x (by simpa using hu) hx)) i v x (by rw[←Array.getElem?_toList] at hv;simpa using hv) hx')).mono ?_
 rintro e W2 ⟨v,S',bV,lg,⟨rfl,_⟩,al3,fp,hk,hS,hos,RL,hout,RM,q_,hf',GU,IW⟩
 cases al3
 have hlp:(bs'.set bs.length (.oM stop))[bs.length]? = some (.oM stop):=by
  rw[List.getElem?_set,if_pos rfl,if_pos (List.getElem?_eq_some_iff.1 Vu).1]
 have Vd:S'.loc bs.length=l:=(hS.loc _ FN).trans Zv
 obtain⟨_,uY,hnl⟩:=fp.FJ _ _ hlp rfl
 simp only[A8,(hS.mH _ FN).trans afG,Vd] at uY
 rw[Vd] at hnl
 obtain⟨r2,CD⟩:∃r2:Loop,r2=(bif stop then { rec with state:=.done,pending:=some (wH q) } else rec):=⟨_,rfl⟩
 rw[←CD] at uY
 have hend:=run_endLoop (P:=P) uY (by rw[CD,gp];cases stop <;> simp)
 have U7:r2.pending=if stop then some (wH q) else none:=by rw[CD,gp];cases stop <;> rfl
 obtain⟨W3,W8⟩:∃W3,W3=W2.putObj l (.loop { r2 with state:=.exhausted }):=⟨_,rfl⟩
 rw[←W8] at hend
 rw[U7] at hend
 refine⟨_,W3,hend,?_⟩
 have hk3:∀(T:Sets),bW T W2 W3:=fun T=>W8 ▸ bW.putObj uY _
 have Yg:∀b,b≠l→W3.heap[b]? = W2.heap[b]?:=fun b hb=>W8 ▸ World.putObj_heap_other hb
 have JG:W3.heap.size=W2.heap.size:=W8 ▸ World.putObj_size
 have Zo:W3.os=W2.os∧TL W3 W2∧W3.output=W2.output:=by rw[W8];exact⟨rfl,⟨rfl,Nat.le_refl _⟩,rfl⟩
 have afl:=fp.drop hlp rfl
 rw[List.set_set,Vd,show bs'.set bs.length (.bh [])=bs' from by
  apply List.ext_getElem?
  intro j
  rw[List.getElem?_set]
  split
  ·rename_i e;subst e;rw[if_pos (List.getElem?_eq_some_iff.1 Vu).1,Vu]
  ·rfl] at afl
 have UX:dF W3 S' (fun b=>bV b∧b≠l) bs':=afl.to ⟨fun _ _ h=>h,rfl,fun _=>rfl,fun _=>rfl,fun _=>rfl⟩ (fun _ _ h=>h) (fun b hb=>Yg b hb.2) fun v d i x hi hp h=>h.keep (hk3 _) (Sets.le_refl _)
 have bn:=(hr.env (prefix_append env [.st bs'])).Qew (w':=W3) (x':=.sym env.length) (S':=S') dN hro (by simp[E.eval]) UX (fun b o hs=>by
   rw[hk3 ρ.S b o hs,hk b o ((Lt b o).2 hs)]
   exact hk1 ρ.S hr.cells b o hs) (Sets.le_trans av2 hS)
  (Zo.1.trans (hos.trans MA)) (Zo.2.1.trans (RL.trans ht1)) (Zo.2.2.trans (hout.trans JF)) (by rw[JG];exact Nat.le_trans hsz RM) (fun b hb hnb=>by
   have af5:b≠l:=by omega
   rw[Yg b af5,q_ b (Nat.lt_of_lt_of_le hb hsz) (fun h=>h.elim hnb af5),y_ b hb]) (fun b hb=>by
   obtain⟨g1,g2⟩:=hf' b hb.1
   refine⟨?_,by rw[JG];exact g2⟩
   rcases g1 with(g1 | g1) | g1
   ·exact .inl g1
   ·exact absurd g1 hb.2
   ·exact .inr (Nat.le_trans hsz g1)) (fun b o hs=>by
   rcases GU b o hs with g | (g | g) | g
   ·exact .inl ((Lt b o).1 g)
   ·exact .inr (.inl g)
   ·exact absurd (g ▸ hs) (hnl o)
   ·exact .inr (.inr (Nat.le_trans hsz g))) (fun b o hs=>by rw[JG];exact IW b o hs)
 obtain⟨Pj,X1',CF,Lh⟩:=Gp hr hro sA hB dG bn (Ln.imp id fun⟨U4,dd,e,hD1,hD2,hD3⟩=>by
  have abB:dd<W1.heap.size:=(Array.getElem?_eq_some_iff.1 hD1).1
  have Lm:¬ρ.aJ dd:=fun hf=>by have:=IQ dd hf;omega
  exact⟨U4,dd,e,by rw[Yg dd hD3,q_ dd abB (fun h=>h.elim Lm hD3)];exact hD1,hD2,fun hf=>by
   rcases(hf' dd hf.1).1 with(g | g) | g
   ·exact Lm g
   ·exact hD3 g
   ·omega⟩)
 have:=hQ Pj X1' _ W3 _ CF Lh
 cases stop
 ·exact this
 ·exact this

def CP (rd:Option Nat)(c:Code)(B:World→kG→Prop):Prop:=gN c=true∨rd≠none∨∀w1 X1 w2 X2,B w1 X1→Ext w1 X1 w2 X2→B w2 X2

theorem CP.sub {rd:Option Nat}{c c':Code}{B:World→kG→Prop}(h:CP rd c B)(hc:gN c=true→gN c'=true):CP rd c' B:=h.imp_left hc

theorem Qmz {σ:af}{x:Option T}{t:T}(h:Qpz σ x=some t):x=some t∨t=anC:=by
 unfold Qpz at h
 split at h
 ·cases h;exact .inl rfl
 ·split at h
  ·cases h;exact .inr rfl
  ·cases h

theorem acI (P:Program){env:List D}{Q:iD→Prop}:¬den P anC env Q:=by
 rintro⟨d,h,_⟩
 simp[E.eval,D.deref] at h

theorem nN {N:Nat} :
  ∀(c:Code) {B:World→kG→Prop} {iS:World→Act→D→Prop} {rv:af→Option E} {rd:Option Nat} {nd:Nat},(∀w1 X1,B w1 X1→∀σ x,rv σ=some x→∀env ρ a w d,cu w1 X1 w a σ env ρ→x.eval env=some d→iS w a d) →
   (∀l,rd=some l→∀w1 X1,B w1 X1→∃r0,w1.heap[l]? = some (.loop r0)∧¬X1.may l∧¬X1.aJ l)→CP rd c B→∀(dp:Nat) (σ:af) (ex:List (Nat×Ex)) (k:Mt) (t:T) (env:List D),compile P rv c dp env.length σ ex k=some t→∀(Q:iD→Prop) (a:Act) (w w0:World) (X:kG) (ρ:dJ),B w0 X→den P t env Q→cu w0 X w a σ env ρ→o6 N σ →
   (∀id e,lK ex id=some e→e.lab<dp∧e.base≤env.length)→c.wpIn (FW rd) nd P (Post P B N iS env dp ex k Q) a w:=by
 intro c
 induction c with
 | skip=>
  intro B iS rv rd nd oP hrd dG dp σ ex k t env hc Q a w w0 X ρ hB hd hr hl hex
  exact wpIn_skip ⟨w0,X,env,σ,ρ,t,hB,List.prefix_refl _,hc,hd,hr,hl⟩
 | label l=>
  intro B iS rv rd nd oP hrd dG dp σ ex k t env hc Q a w w0 X ρ hB hd hr hl hex
  exact wpIn_label ⟨w0,X,env,σ,ρ,t,hB,List.prefix_refl _,hc,hd,hr,hl⟩
 | region id ops draw=>
  intro B iS rv rd nd oP hrd dG dp σ ex k t env hc Q a w w0 X ρ hB hd hr hl hex
  simp only[compile,mQ] at hc
  replace hc:=Qmz hc
  rcases hc with hc | rfl
  case inr=>exact absurd hd (acI P)
  obtain⟨ρ,hr⟩:=hr.rW id
  have hfl:=R8 id σ
  exact Fz hc hd hr (hfl.1.trans hl.1) (hfl.2.trans hl.2) (fun w a σ env' ρ v d bs hr' hrd hst Ce hq=>⟨w0,X,σ,env',ρ,v,d,bs,hB,rfl,hr',hrd,hst,Ce,hq⟩) fun σ' env' t' a' w' ρ' hpre hk fz hr' e1 e2=>⟨w0,X,env',σ',ρ',t',hB,hpre,by first | exact hk | rwa [mQ] at hk,fz,hr',e1,e2⟩
 | seq x y Qf S6=>
  intro B iS rv rd nd oP hrd dG dp σ ex k t env hc Q a w w0 X ρ hB hd hr hl hex
  simp only[compile,mQ] at hc
  refine wpIn_seq (wpIn_mono (Qf oP hrd (dG.sub fun h=>by simp only[gN,Bool.and_eq_true] at h;exact h.1) dp σ ex _ t env hc Q a w w0 X ρ hB hd hr hl hex) fun e a1 w1 h=>?_)
  cases e with
  | normal=>
   obtain⟨Pj,X1,env',σ',ρ',t',CF,hpre,hk,fz,hr',hl'⟩:=h
   refine wpIn_mono (S6 oP hrd (dG.sub fun h=>by simp only[gN,Bool.and_eq_true] at h;exact h.2) dp σ' ex k t' env' hk Q a1 w1 Pj X1 ρ' CF fz hr' hl' fun id e he=>⟨(hex id e he).1,Nat.le_trans (hex id e he).2 (List.IsPrefix.length_le hpre)⟩) fun e a2 w2 h2=>?_
   cases e with
   | normal=>
    obtain⟨w2',X2,bP,σ2,ρ2,t2,hB2,afv,h3⟩:=h2
    exact⟨w2',X2,bP,σ2,ρ2,t2,hB2,hpre.trans afv,h3⟩
   | exit id=>
    obtain⟨w2',X2,e,ds,ρ2,hB2,he,hQ,bn,hlen⟩:=h2
    exact⟨w2',X2,e,ds,ρ2,hB2,he,hQ,by rw[←take_prefix hpre (hex id e he).2];exact bn,hlen⟩
   | _=>exact h2
  | _=>exact h
 | cond c x y Qf S6=>
  intro B iS rv rd nd oP hrd dG dp σ ex k t env hc Q a w w0 X ρ hB hd hr hl hex
  simp only[compile,mQ,Option.bind_eq_some_iff] at hc
  obtain⟨cx,hcx,hc⟩:=hc
  obtain⟨dc,hdc,hrc⟩:=SV.ck hcx (Ar hr c)
  split at hc
  ·simp only[Option.bind_eq_some_iff] at hc
   obtain⟨ra,_,rb,_,hc⟩:=hc
   obtain⟨tb0,tr,ald,htr,rfl⟩:=Bw hc
   obtain⟨ta,tb,hta,htb,rfl⟩:=Ef ald
   obtain⟨v,hv,h1,h2⟩:=hd
   rw[hdc] at hv
   cases hv
   have GP:=hrc.v_eq
   refine wpIn_cond_split GP (fun e=>?_) fun e=>?_
   ·exact wpIn_mono (Qf oP hrd (dG.sub fun h=>by simp only[gN,Bool.and_eq_true] at h;exact h.1) (dp+1) σ ex _ ta env hta _ a w w0 X ρ hB (h1 e) hr hl fun id e he=>⟨Nat.lt_succ_of_lt (hex id e he).1,(hex id e he).2⟩) fun e a' w' h=>Post.join htr (fun id e he=>(hex id e he).1) h
   ·exact wpIn_mono (S6 oP hrd (dG.sub fun h=>by simp only[gN,Bool.and_eq_true] at h;exact h.2) (dp+1) σ ex _ tb env htb _ a w w0 X ρ hB (h2 e) hr hl fun id e he=>⟨Nat.lt_succ_of_lt (hex id e he).1,(hex id e he).2⟩) fun e a' w' h=>Post.join htr (fun id e he=>(hex id e he).1) h
  ·obtain⟨ta,tb,hta,htb,rfl⟩:=Ef hc
   obtain⟨v,hv,h1,h2⟩:=hd
   rw[hdc] at hv
   cases hv
   have GP:=hrc.v_eq
   exact wpIn_cond_split GP (fun e=>Qf oP hrd (dG.sub fun h=>by simp only[gN,Bool.and_eq_true] at h;exact h.1) dp σ ex k ta env hta Q a w w0 X ρ hB (h1 e) hr hl hex) fun e=>S6 oP hrd (dG.sub fun h=>by simp only[gN,Bool.and_eq_true] at h;exact h.2) dp σ ex k tb env htb Q a w w0 X ρ hB (h2 e) hr hl hex
 | block id body ih=>
  intro B iS rv rd nd oP hrd dG dp σ ex k t env hc Q a w w0 X ρ hB hd hr hl hex
  simp only[compile,mQ,Option.bind_eq_some_iff] at hc
  obtain⟨r,_,hc⟩:=hc
  split at hc
  ·refine wpIn_block (wpIn_mono (ih oP hrd (dG.sub fun h=>h) dp σ _ _ t env hc Q a w w0 X ρ hB hd hr hl fun id' e he=>hex id' e (qA he).2) fun e a' w' h=>?_)
   cases e with
   | normal=>obtain⟨_,_,_,_,_,_,_,_,h1,_⟩:=h;cases h1
   | exit id'=>
    obtain⟨Pj,X1,e,ds,ρ',CF,he,h2⟩:=h
    obtain⟨h3,h4⟩:=qA he
    simp only[Exit.inBlock]
    rw[if_neg h3]
    exact⟨Pj,X1,e,ds,ρ',CF,h4,h2⟩
   | ret=>exact h
   | goto l=>exact h
   | panic c=>exact h
   | outgrown=>exact h
  ·obtain⟨tb,tr,htb,htr,rfl⟩:=Bw hc
   refine wpIn_block (wpIn_mono (ih oP hrd (dG.sub fun h=>h) (dp+1) σ _ _ tb env htb _ a w w0 X ρ hB hd hr hl fun id' e he=>?_) fun e a' w' h=>?_)
   ·simp only[lK] at he
    split at he
    ·cases he;exact⟨Nat.lt_succ_self _,Nat.le_refl _⟩
    ·exact⟨Nat.lt_succ_of_lt (hex id' e he).1,(hex id' e he).2⟩
   ·cases e with
    | normal=>
     exact Post.join (iS:=iS) (MF:=dp+1) (e:=.normal) htr (fun id e he=>(hex id e he).1) h
    | exit id'=>
     obtain⟨Pj,X1,e,ds,ρ',CF,he,hQ,bn,hlen⟩:=h
     simp only[lK] at he
     simp only[Exit.inBlock]
     split at he
     ·rename_i e1
      cases he
      subst e1
      rw[if_pos rfl]
      simp only[dD,if_true] at hQ
      rw[Qfj] at bn
      exact⟨Pj,X1,env++ds,_,ρ',tr,CF,prefix_append _ _,by rw[List.length_append,hQ.1];exact htr,hQ.2,bn,hlen⟩
     ·rename_i e1
      rw[if_neg (Ne.symm e1)]
      refine⟨Pj,X1,e,ds,ρ',CF,he,?_,bn,hlen⟩
      simp only[dD] at hQ
      rwa [if_neg (Nat.ne_of_lt (hex id' e he).1)] at hQ
    | ret=>exact h
    | goto l=>exact h
    | panic c=>exact h
    | outgrown=>exact h
 | loop body ih=>
  intro B iS rv rd nd oP hrd dG dp σ ex k t env hc Q a w w0 X ρ hB hd hr hl hex
  simp only[compile,mQ,Option.bind_eq_some_iff] at hc
  obtain⟨⟨tm,n⟩,_,hc⟩:=hc
  obtain⟨inits,tb,hin,htb,hn,rfl⟩:=KM hc
  simp only at hin htb hn
  obtain⟨ds,cV,m,hm⟩:=hd
  obtain⟨ρ1,bn,h1,h2⟩:=pT hr (Nat.le_refl _) hin cV
  rw[mS,Qfj] at bn
  have htl:o6 N tm:=⟨by rw[←h1];exact hl.1,by rw[←h2];exact hl.2⟩
  have key:∀(m:Nat) (ds:List D) (a:Act) (w w0:World) (X:kG) (ρ:dJ),B w0 X→rounds dp (fun ds Q=>ds.length=inits.length∧den P tb (env++ds) Q) Q m ds→cu w0 X w a tm (env++ds) ρ→Code.roundsIn (FW rd) nd P body (Post P B N iS env dp ex k Q) m a w:=by
   intro m
   induction m with
   | zero=>intro ds a w w0 X ρ _ hm _;exact hm.elim
   | succ m ihm=>
    intro ds a w w0 X ρ hB hm bn
    obtain⟨cP,fQ⟩:=hm
    rw[roundsIn_succ]
    have hlen:(env++ds).length=env.length+n:=by rw[List.length_append,cP,hn]
    refine wpIn_mono (ih oP hrd (dG.sub fun h=>h) (dp+1) tm ex _ tb (env++ds) (by rw[hlen];exact htb) _ a w w0 X ρ hB fQ bn htl fun id e he=>⟨Nat.lt_succ_of_lt (hex id e he).1,Nat.le_trans (hex id e he).2 (by simp)⟩) fun e a' w' h=>?_
    cases e with
    | normal=>
     obtain⟨Pj,X1,env',σ',ρ',t',CF,hpre,ht',Lr,me,hl'⟩:=h
     obtain⟨args,hmt,rfl⟩:=Option.map_eq_some_iff.1 ht'
     obtain⟨ds',oQ,hQ⟩:=Lr
     simp only[dD,if_true] at hQ
     have Zq:env <+: env':=(prefix_append env ds).trans hpre
     obtain⟨ρ2,BE,_,_⟩:=pT me (List.IsPrefix.length_le Zq) hmt oQ
     rw[mS,take_prefix Zq (Nat.le_refl _),Qfj] at BE
     exact ihm ds' a' w' Pj X1 ρ2 CF hQ BE
    | exit id=>
     obtain⟨Pj,X1,e,ds',ρ',CF,he,hQ,me,hlen'⟩:=h
     have hb:=(hex id e he)
     refine⟨Pj,X1,e,ds',ρ',CF,he,?_,by rw[←take_prefix (prefix_append env ds) hb.2];exact me,hlen'⟩
     simp only[dD] at hQ
     rwa [if_neg (Nat.ne_of_lt hb.1)] at hQ
    | ret=>exact h
    | goto l=>exact h
    | panic c=>exact h
    | outgrown=>exact h
  exact wpIn_loop_rounds m (key m ds a w w0 X ρ1 hB hm bn)
 | exit id=>
  intro B iS rv rd nd oP hrd dG dp σ ex k t env hc Q a w w0 X ρ hB hd hr hl hex
  simp only[compile,mQ,Option.bind_eq_some_iff] at hc
  obtain⟨e,he,hc⟩:=hc
  obtain⟨args,hm,rfl⟩:=Option.map_eq_some_iff.1 hc
  obtain⟨ds,cV,hQ⟩:=hd
  obtain⟨ρ2,bn,h1,h2⟩:=pT hr (hex id e he).2 hm cV
  exact wpIn_exit ⟨w0,X,e,ds,ρ2,hB,he,hQ,bn,by rw[←h1];exact hl.1,by rw[←h2];exact hl.2⟩
 | ret=>
  intro B iS rv rd nd oP hrd dG dp σ ex k t env hc Q a w w0 X ρ hB hd hr hl hex
  simp only[compile,mQ] at hc
  obtain⟨x,hx,rfl⟩:=Option.map_eq_some_iff.1 hc
  obtain⟨d,cV,hQ⟩:=hd
  exact wpIn_ret ⟨d,hQ,oP w0 X hB σ x hx env ρ a w d hr cV⟩
 | rangeFunc g ps wq body iha ih=>
  intro B iS rv rd nd oP hrd dG dp σ ex k t env hc Q a w w0 X ρ hB hd hr hl hex
  simp only[compile,mQ] at hc
  split at hc
  ·rename_i xg cf hE hg sA
   split at hc
   ·cases hc
   ·rename_i hro
    have hro:cf.ro=false:=by simpa using hro
    split at hc
    ·rename_i q hq
     split at hc
     ·rename_i tb tr tq htb htr htq
      cases hc
      obtain⟨f,us,cs,bs,fk,d,bs',stop,h1,h2,h3,h4,h5,h6,h7,h8⟩:=hd
      have Qsx:o6 N (mo σ (.sym env.length)):=by
       unfold mo
       rw[sA]
       exact⟨by rw[af.aZ];exact hl.1,by rw[af.fG];exact hl.2⟩
      refine Kc (q:=q) hr hl hro sA hB hg (fun l e=>hrd l e w0 X hB) ((dG.resolve_left (by simp[gN]))) (fun l w1 X1 σ1 gU Q1 a1 w2 ρ1 g1 g2 g3 g4 g5 g6=>?_) (fun l w1 X1 σ1 gU t1 b Qhx a1 w2 ρ1 g1 g2 g3 g4 g5 g6=>?_) h1 h2 h3 h4 h5 h6 fun w1 X1 a' w' ρ' CF bn=>?_
      ·refine iha (B:=fun w X=>w=w1∧X=X1) (rv:=fun _=>none) (iS:=fun _ _ _=>False) (rd:=some l) (nd:=0) (fun _ _ _ _ _ h=>by cases h) (fun l' e w3 X3 Qn=>by cases e;rw[Qn.1,Qn.2];exact g1) (.inr (.inl (by simp))) (dp+2) σ1 [] _ tb gU ?_ Q1 a1 w2 w1 X1 ρ1 ⟨rfl,rfl⟩ g4 g5 g6 fun id e he=>by simp[lK] at he
       rw[g2,g3]
       exact htb
      ·refine wpIn_mono (ih (B:=fun w X=>w=w1∧X=X1) (rv:=lu q) (iS:=fun w' a d=>∃σ env ρ x,cu w1 X1 w' a σ env ρ∧lu q σ=some x∧x.eval env=some d) (rd:=some l) (nd:=0) (fun w3 X3 Qn σ x hx env ρ a w d hr hd=>⟨σ,env,ρ,x,by rw[←Qn.1,←Qn.2];exact hr,hx,hd⟩) (fun l' e w3 X3 Qn=>by cases e;rw[Qn.1,Qn.2];exact g1) (.inr (.inl (by simp))) (dp+2) σ1 _ _ t1 gU g2 _ a1 w2 w1 X1 ρ1 ⟨rfl,rfl⟩ g4 g5 g6 fun id e he=>?_) fun e a' w' h=>Fy g3 h
       cases q with
       | none=>simp[mw,lK] at he
       | some id'=>
        simp only[mw,lK] at he
        split at he
        ·cases he;exact⟨by simp,g3⟩
        ·cases he
      ·cases stop with
       | false=>exact⟨w1,X1,env++[.st bs'],_,ρ',tr,CF,prefix_append _ _,by rw[List.length_append];exact htr,h7 rfl,bn,Qsx⟩
       | true=>
        cases q with
        | none=>
         obtain⟨x,hx,rfl⟩:=Option.map_eq_some_iff.1 htq
         obtain⟨d',cV,hQ'⟩:=h8 rfl
         exact wpIn_ret ⟨d',hQ',oP w1 X1 CF _ x hx _ ρ' a' w' d' bn cV⟩
        | some id=>
         simp only[Option.bind_eq_some_iff] at htq
         obtain⟨e,he,htq⟩:=htq
         obtain⟨args,hm,rfl⟩:=Option.map_eq_some_iff.1 htq
         obtain⟨ds,cV,hQ'⟩:=h8 rfl
         obtain⟨ρ2,BE,k1,k2⟩:=pT bn (Nat.le_trans (hex id e he).2 (by simp)) hm cV
         exact wpIn_exit ⟨w1,X1,e,ds,ρ2,CF,he,hQ',by rw[←take_prefix (prefix_append env [.st bs']) (hex id e he).2];exact BE,by rw[←k1];exact Qsx.1,by rw[←k2];exact Qsx.2⟩
     ·cases hc
    ·split at hc
     ·rename_i tb tr htb htr
      cases hc
      obtain⟨f,us,cs,st,fk,d,gO,h1,h2,h3,h4,h5,h6,h7,h8⟩:=hd
      refine M_ hr hl hro sA hB hg (fun l e=>hrd l e w0 X hB) ((dG.resolve_left (by simp[gN]))) (fun l w1 X1 σ1 gU Q1 a1 w2 ρ1 g1 g2 g3 g4 g5 g6=>?_) (fun l w1 X1 σ1 gU t1 Q1 a1 w2 ρ1 g1 g2 g4 g5 g6=>?_) h1 h2 h3 h4 h5 h6 h7 fun w1 X1 a' w' ρ' CF bn=>?_
      ·refine iha (B:=fun w X=>w=w1∧X=X1) (rv:=fun _=>none) (iS:=fun _ _ _=>False) (rd:=some l) (nd:=0) (fun _ _ _ _ _ h=>by cases h) (fun l' e w3 X3 Qn=>by cases e;rw[Qn.1,Qn.2];exact g1) (.inr (.inl (by simp))) (dp+1) σ1 [] _ tb gU ?_ Q1 a1 w2 w1 X1 ρ1 ⟨rfl,rfl⟩ g4 g5 g6 fun id e he=>by simp[lK] at he
       rw[g2,g3]
       exact htb
      ·exact ih (B:=fun w X=>w=w1∧X=X1) (rv:=fun _=>none) (iS:=fun _ _ _=>False) (rd:=some l) (nd:=0) (fun _ _ _ _ _ h=>by cases h) (fun l' e w3 X3 Qn=>by cases e;rw[Qn.1,Qn.2];exact g1) (.inr (.inl (by simp))) (dp+1) σ1 [] _ t1 gU g2 Q1 a1 w2 w1 X1 ρ1 ⟨rfl,rfl⟩ g4 g5 g6 fun id e he=>by simp[lK] at he
      ·exact⟨w1,X1,env++[gO],_,ρ',tr,CF,prefix_append _ _,by rw[List.length_append];exact htr,h8,bn,by
        unfold mo
        rw[sA]
        exact⟨by rw[af.aZ];exact hl.1,by rw[af.fG];exact hl.2⟩⟩
     ·cases hc
  ·cases hc
 | refuse why=>
  intro B iS rv rd nd oP hrd dG dp σ ex k t env hc Q a w w0 X ρ hB hd
  simp only[compile] at hc
  rcases Qmz hc with hc | rfl
  ·cases hc
  ·exact absurd hd (acI P)
 | _=>
  intro B iS rv rd nd oP hrd dG dp σ ex k t env hc
  simp[compile] at hc

end
end
end Go.Am
