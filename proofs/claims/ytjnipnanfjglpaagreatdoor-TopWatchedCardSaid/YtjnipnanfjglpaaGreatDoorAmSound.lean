/-
 What the small language's text means holds of the code that it was made of.
-/
import Derived.Test.YtjnipnanfjglpaaGreatDoorAmCompiletoAmRange
set_option linter.unusedSimpArgs false
set_option linter.unusedVariables false
namespace Go.Am
noncomputable section

section
variable {P:Program} {w0:World} {X:gB}

/-! ## forgetting -/

theorem SV.DJ {w:World}{ρ:cr}{env:List D}{v:Value}{sv:SV}(d:Nat)(h:cu w ρ env v sv):cu w ρ env v (sv.fV d):=by
 rw[SV.lB]
 split
 ·exact h
 ·exact .bS

theorem aE.LW {w:World}{ρ:cr}{env:List D}{o:Nat}{x:aE}(d:Nat)(h:fI w ρ env o x):fI w ρ env o (x.fV d):=by
 cases x with
 | box cs=>
  obtain⟨vs,ty,h1,h2,h3,h4,h5⟩:=h
  refine⟨vs,ty,h1,by simpa using h2,h3,fun i v c hv hc=>?_,h5⟩
  simp only[A0v,A0b] at hc
  obtain⟨c',tC,rfl⟩:=hc
  exact SV.DJ d (h4 i v c' hv tC)
 | row y sz=>exact h
 | tok e sz=>exact h
 | store cf x=>exact h

theorem aE.LV (d:Nat)(x:aE):(x.fV d).ro=x.ro:=by cases x <;> rfl

theorem aE.vA (ρ:cr)(o d:Nat)(x:aE):bw ρ o (x.fV d)=bw ρ o x:=by cases x <;> rfl

theorem bE.fV {w:World}{a:Act}{σ:af}{env:List D}{ρ:cr}(h:bE w0 X w a σ env ρ)(d:Nat):bE w0 X w a (σ.fV d) env ρ:=by
 by_cases hd:d=aO
 ·rw[af.lB,if_pos hd];exact h
 have hpt:(σ.fV d).tmps=σ.tmps.map (SV.fV d):=by rw[af.lB,if_neg hd]
 have ea:∀o y,(σ.fV d).obj o=some y→∃x,σ.obj o=some x∧y=x.fV d:=by
  intro o y hy
  rw[af.lB,if_neg hd] at hy
  simp only[af.cK] at hy ⊢
  by_cases ho:o=aO
  ·rw[if_pos ho] at hy ⊢
   obtain⟨z,hz,rfl⟩:=A0b.1 hy
   exact⟨z,hz,rfl⟩
  rw[if_neg ho] at hy ⊢
  simp only[A0i,A0x,A0v,List.length_map] at hy ⊢
  split at hy
  ·split at hy <;> simp at hy
  ·cases ho:σ.mem[o]? with
   | none=>rw[ho] at hy;simp at hy
   | some z=>
    rw[ho] at hy
    cases z with
    | none=>simp at hy
    | some x=>simp at hy;exact⟨x,rfl,hy.symm⟩
 refine⟨by rw[hpt];simpa using h.size,fun t=>?_,fun o y hy=>?_,?_,?_,h.cells,h.os,h.tape,h.output,h.grown,h.old,h.sub,h.new,h.su,h.hold⟩
 ·have:=h.tmps t
  simp only[af.eH] at this ⊢
  rw[hpt]
  simp only[A0i,A0v] at this ⊢
  cases ht:σ.tmps[t]? with
  | none=>exact .bS
  | some c=>rw[ht] at this;exact SV.DJ d this
 ·obtain⟨x,hx,rfl⟩:=ea o y hy
  exact aE.LW d (h.cn o x hx)
 ·intro o o' y y' b h1 h2 h3 h4
  obtain⟨x,hx,rfl⟩:=ea o y h1
  obtain⟨x',hx',rfl⟩:=ea o' y' h2
  rw[aE.vA] at h3 h4
  exact h.inj o o' x x' b hx hx' h3 h4
 ·intro o y b h1 h2
  obtain⟨x,hx,rfl⟩:=ea o y h1
  rw[aE.vA] at h2
  rw[aE.LV]
  exact h.own o x b hx h2

theorem bE.f_ {w:World}{a:Act}{env:List D}{ρ:cr}:∀(ds:List Nat) {σ:af},bE w0 X w a σ env ρ→bE w0 X w a (f_ ds σ) env ρ
 | [],_,h=>h
 | d :: ds,_,h=>bE.f_ ds (h.fV d)

theorem sM:∀(ds:List Nat) (σ:af),(f_ ds σ).tmps.length=σ.tmps.length∧(f_ ds σ).mem.length=σ.mem.length
 | [],_=>⟨rfl,rfl⟩
 | d :: ds,σ=>by
  have h1:=sM ds (σ.fV d)
  have h2:(σ.fV d).tmps.length=σ.tmps.length∧(σ.fV d).mem.length=σ.mem.length:=by
   rw[af.lB];split <;> simp
  exact⟨h1.1.trans h2.1,h1.2.trans h2.2⟩

theorem Gg {σ:af}{ops:Array Oper}(h:QY σ ops=true):∀(j d:Nat),(ops[j]?).bind (fun(o:Oper)=>o.dst)=some d→d<σ.tmps.length:=by
 intro j d hj
 obtain⟨o,ho,hd⟩:=A0c.1 hj
 have:=Array.all_eq_true'.1 h o (Array.mem_of_getElem? ho)
 rw[hd] at this
 simpa using this

theorem E3 {ops:Array Oper}:∀{l:List Oper} {σ σ':af} {ix:Nat} {bs:List Bind} {rs:List Rec},vf P ops l σ ix=some (σ',bs,rs)→σ'.tmps.length=σ.tmps.length∧σ'.mem.length=σ.mem.length
 | [],σ,σ',ix,bs,rs,h=>by simp[vf] at h;rw[h.1];exact⟨rfl,rfl⟩
 | o :: l,σ,σ',ix,bs,rs,h=>by
  simp only[vf] at h
  split at h
  ·cases h
  ·split at h <;>
   ·obtain⟨⟨τ,bs',rs'⟩,h2,h3⟩:=A0b.1 h
    cases h3
    have h1:=C7 σ o.dst (by assumption)
    have h2:=E3 h2
    exact⟨h2.1.trans h1.1,h2.2.trans h1.2⟩

theorem k8 {ops:Array Oper}{σ σ':af}{u:Nat}{bs:List Bind}(h:k9 P ops σ u=some (σ',bs)):∃R nF xs,vf P ops ops.toList σ u=some (σ',nF,R)∧P.follows .mixedOrders=true∧((mj ops R σ=true∧extras P ops R σ=some xs)∨w6 P ops R σ (u+nF.length)=some xs)∧bs=nF++xs.map .ev:=by
 unfold k9 at h
 split at h
 ·rename_i x hx
  split at h
  ·rename_i hc
   obtain⟨τ,bs',R⟩:=x
   obtain⟨xs,h1,h2⟩:=A0b.1 h
   cases h2
   refine⟨R,bs',xs,hx,hc,?_,rfl⟩
   split at h1
   ·rename_i ho
    exact .inl ⟨ho,h1⟩
   ·exact .inr h1
  ·cases h
 ·cases h

theorem vR {rd:Option Nat} {nd:Nat} {ops:Array Oper} {σ σ':af} {u:Nat} {bs:List Bind} {a:Act} {w:World} {ρ:cr} {env:List D} {Q:Exit→Act→World→Prop} (h:k9 P ops σ u=some (σ',bs)) (hr:bE w0 X w a σ env ρ) (hm:σ.mem.length=σ.tmps.length)
  (hsz:∀(j d:Nat),(ops[j]?).bind (fun(o:Oper)=>o.dst)=some d→d<σ.tmps.length) (hb:qI P env u bs) (hu:u+bs.length≤env.length) (hQ:∀a' w' ρ',bE w0 X w' a' σ' env ρ'→Q .normal a' w'):wpAnyIn (FW rd) nd P .any ops Q ops.size (Array.replicate ops.size false) a { w with drawn:=w.drawn+1 }:=by
 obtain⟨R,nF,xs,hd,P0,fk,rfl⟩:=k8 h
 have hb0:qI P env u nF:=fun i b hi=>hb i b (by rw[A0j (A0a.1 hi).1];exact hi)
 obtain⟨h1,h2⟩:=Bx (R:=R) (k:=0) hd rfl rfl (Nat.zero_le _) rfl hb0 (by simp at hu;omega)
 have bz:∀y,y∈xs→∃d,y.eval env=some d:=fun y hy=>by
  obtain⟨k,hk⟩:=List.mem_iff_getElem?.1 hy
  obtain⟨d,dY,_⟩:=hb (nF.length+k) (.ev y) (by rw[A0l (by omega)];simp[hk])
  exact⟨d,dY⟩
 have hclosed:gK ops (cP (Array.replicate ops.size false)):=by
  intro k o hk
  simp only[cP,A0p,Array.getElem?_replicate] at hk
  split at hk <;> simp at hk
 have hdone:cP (Array.replicate ops.size false)=fun _=>false:=by
  funext j
  simp only[cP,A0p,Array.getElem?_replicate]
  split <;> rfl
 rcases fk with⟨hok,hex⟩ | hex
 ·refine FN (w0:=w0) (X:=X) (env:=env) (R:=R) (σ:=σ) hok (fun i o ho=>?_) hm hsz (fun a' w' ρ' hr'=>hQ a' w' ρ' (by rw[←h1];exact hr')) _ _ _ _ ρ (by simp) hclosed (B0e List.countP_le_length (by simp)) ?_
  ·obtain⟨r,f1,f2,f3,f4,f5⟩:=h2 i o (Nat.zero_le _) ho
   obtain⟨ys,g1,g2⟩:=Bv hex i (A0h.1 ho).1
   exact⟨r,f1,f2,f3,f4,f5,ys,g1,fun y hy=>bz y (g2 y hy)⟩
  ·rw[hdone,ku (i:=0) ops.size (Nat.zero_le _) fun _ _ _=>rfl]
   exact hr.drew
 ·obtain⟨cf,t,hok,hj,hal⟩:=CQ hex
  refine Dl (w0:=w0) (X:=X) (env:=env) (R:=R) (σ:=σ) (cf:=cf) (t:=t) hok (fun i o ho=>?_) hj hm hsz (fun a' w' ρ' hr'=>hQ a' w' ρ' (by rw[←h1];exact hr')) _ _ _ _ ρ (by simp) hclosed (B0e List.countP_le_length (by simp)) ?_
  ·obtain⟨r,f1,f2,f3,f4,f5⟩:=h2 i o (Nat.zero_le _) ho
   obtain⟨ys,g1,g2⟩:=hal i (A0h.1 ho).1
   exact⟨r,f1,f2,f3,f4,f5,ys,g1,fun y hy=>bz y (g2 y hy)⟩
  ·rw[hdone,LI]
   exact hr.drew

theorem vQ {ops:Array Oper}{σ σ':af}{u:Nat}{bs:List Bind}(h:k9 P ops σ u=some (σ',bs)):σ'.tmps.length=σ.tmps.length∧σ'.mem.length=σ.mem.length:=by
 obtain⟨R,nF,xs,hd,_⟩:=k8 h
 exact E3 hd

theorem Av {rd:Option Nat} {nd:Nat} {ops:Array Oper} {draw:Bool} {id:Nat} {σ:af} {t:T} {k:Jm} {a:Act} {w:World} {ρ:cr} {env:List D} {Q:eV→Prop} {Q':Exit→Act→World→Prop} {N:Nat} (h:B4 P ops draw σ env.length k=some t) (eb:den P t env Q) (hr:bE w0 X w a σ env ρ) (h1:σ.tmps.length=N) (h2:σ.mem.length=N)
  (hp:Ux w0 X Q Q') (hQ:∀(σ':af) (env':List D) (t':T) (a':Act) (w':World) (ρ':cr),env <+: env'→k σ' env'.length=some t'→den P t' env' Q→bE w0 X w' a' σ' env' ρ'→σ'.tmps.length=N→σ'.mem.length=N→Q' .normal a' w'):(Code.region id ops draw).wpIn (FW rd) nd P Q' a w:=by
 unfold B4 at h
 simp only at h
 split at h
 ·cases h
 ·rename_i hok
  simp only[Bool.not_eq_true',Bool.not_eq_false] at hok
  have hl:=sM (sites ops) σ
  have hsz:=Gg hok
  have g1:(f_ (sites ops) σ).tmps.length=N:=hl.1.trans h1
  have g2:(f_ (sites ops) σ).mem.length=N:=hl.2.trans h2
  split at h
  ·rename_i hd
   rw[show draw=true from by simpa using hd]
   split at h
   ·rename_i x hx
    have hx:=AN hx
    obtain⟨t',hk,rfl⟩:=A0b.1 h
    obtain⟨ds,eM,dY,fX⟩:=qE eb
    have hlen:=vQ hx
    obtain⟨_,_,_,_,P0,_⟩:=k8 hx
    refine wpIn_region_any P0 (vR hx ((hr.env (prefix_append env ds)).f_ _) (by rw[g1,g2]) hsz fX (by simp[eM]) fun a' w' ρ' hr'=>?_)
    exact hQ _ (env++ds) t' a' w' ρ' (prefix_append _ _) (by rw[A0t,eM];exact hk) dY hr' (hlen.1.trans g1) (hlen.2.trans g2)
   ·split at h
    ·rename_i tu
     split at h
     ·rename_i o x ho hx
      split at h
      ·rename_i s hs
       split at h
       ·rename_i fu
        obtain⟨t',ht',rfl⟩:=A0b.1 h
        obtain⟨ds,eM,dY,fX⟩:=qE eb
        have hlen:=vQ hx
        obtain⟨_,_,_,_,P0,_⟩:=k8 hx
        refine wpIn_region_any P0 ?_
        have adG:∀(j d:Nat),(ops.pop[j]?).bind (fun(o:Oper)=>o.dst)=some d→d<(f_ (sites ops) σ).tmps.length:=fun j d hj=>hsz j d (by
         rw[Array.getElem?_pop] at hj
         split at hj
         ·exact hj
         ·cases hj)
        have aep:=vR (rd:=rd) (nd:=nd) (Q:=fun e a w=>match e with | .normal=>wpOpIn (FW rd) nd P ops Q' (ops.size-1) (Q' .normal) a w | e=>Q' e a w) hx ((hr.env (prefix_append env ds)).f_ _) (by rw[g1,g2]) adG fX (by simp[eM]) (fun a' w' ρ' hr'=>by
         obtain⟨hw,hwp⟩:=A5 (rd:=rd) (nd:=nd) (ops:=ops) (env:=env++ds) hs (qd fu) (rZ fu) (by rw[A0t,eM];exact ht') dY hr' hp (K:=Q' .normal) fun σ2 aW t2 a2 w2 ρ2 hpre hk hd2 CF e1 e2=>hQ σ2 aW t2 a2 w2 ρ2 ((prefix_append env ds).trans hpre) hk hd2 CF (e1.trans (hlen.1.trans g1)) (e2.trans (hlen.2.trans g2))
         show wpOpIn (FW rd) nd P ops Q' (ops.size-1) (Q' .normal) a' w'
         unfold wpOpIn
         rw[ho]
         simp only
         rw[if_pos hw]
         exact hwp)
        have:=FM (Q:=Q') tu.1 tu.2 ops.pop.size (Array.replicate ops.pop.size false) a _ (by simp) (by
         intro k ok hk
         simp only[cP,A0p,Array.getElem?_replicate] at hk
         split at hk <;> simp at hk) aep
        have e1:ops.pop.size+1=ops.size:=by simp;omega
        have e2:(Array.replicate ops.pop.size false).push false=Array.replicate ops.size false:=by
         rw[←e1,Array.replicate_succ]
        rw[e1,e2] at this
        exact this
       ·cases h
      ·cases h
     ·cases h
    ·cases h
  ·rename_i hd
   rw[show draw=false from by simpa using hd]
   exact wpIn_region_list (xF hp (fun j d X8=>by rw[←g1];exact hsz j d X8) h eb (hr.f_ _) g1 g2 hQ)

/-! ## the code -/

def lz (N:Nat)(σ:af):Prop:=σ.tmps.length=N∧σ.mem.length=N

def Post (P:Program)(B:World→gB→Prop)(N:Nat)(fL:World→Act→D→Prop)(env:List D)(dp:Nat)(ex:List (Nat×Ex))(k:Fy)(Q:eV→Prop):Exit→Act→World→Prop
 | .normal,a',w'=>∃w0 X env' σ' ρ' t',B w0 X∧env <+: env'∧k dp env'.length σ'=some t'∧den P t' env' Q∧bE w0 X w' a' σ' env' ρ'∧lz N σ'
 | .exit id,a',w'=>∃w0 X e ds ρ',B w0 X∧iZ ex id=some e∧Q (.jump e.lab ds)∧bE w0 X w' a' e.tm (env.take e.base++ds) ρ'∧lz N e.tm
 | .ret,a',w'=>∃d,Q (.ret d)∧fL w' a' d
 | .panic c,a',w'=>∃w0 X σ env ρ v d bs,B w0 X∧c=[{ v,recovered:=false }]∧bE w0 X w' a' σ env ρ∧aZ w' ρ.S v d∧ck w' ρ.S ρ.an bs∧(∃cf x,σ.obj aO=some (.store cf x))∧∃kd,lX w' ρ.S a' (gH σ) kd∧Q (.dI d (.st bs) (gH σ) kd)
 | _,_,_=>False

theorem take_prefix {env env':List D}(h:env <+: env'){b:Nat}(hb:b≤env.length):env'.take b=env.take b:=by
 obtain⟨r,rfl⟩:=h
 rw[List.take_append_of_le_length hb]

theorem qq (env:List D):env.take env.length=env:=List.take_length

theorem bE.pM {w:World}{a:Act}{env:List D}:∀{ps:List (Nat×Nat)} {σ:af} {ρ:cr},bE w0 X w a σ env ρ→∃ρ',bE w0 X w a (pM ps σ) env ρ'
 | [],_,ρ,h=>⟨ρ,h⟩
 | p :: ps,_,_,h=>by
  obtain⟨ρ1,h1⟩:=h.fZ p.1 p.2
  exact bE.pM (ps:=ps) h1

theorem xO:∀(ps:List (Nat×Nat)) (σ:af),(pM ps σ).tmps.length=σ.tmps.length∧(pM ps σ).mem.length=σ.mem.length
 | [],_=>⟨rfl,rfl⟩
 | p :: ps,σ=>by
  have h1:=xO ps (σ.fZ p.1 p.2)
  have h2:=σ.JE p.1 p.2
  exact⟨h1.1.trans h2.1,h1.2.trans h2.2⟩

theorem bE.fY {w:World}{a:Act}{σ:af}{env:List D}{ρ:cr}(h:bE w0 X w a σ env ρ):bE w0 X w a σ.fY env ρ:=by
 refine⟨by simpa[af.rC] using h.size,fun t=>?_,h.cn,h.inj,h.own,h.cells,h.os,h.tape,h.output,h.grown,h.old,h.sub,h.new,h.su,h.hold⟩
 have:=h.tmps t
 simp only[af.eH] at this ⊢
 simp only[af.rC,A0i,A0v] at this ⊢
 cases ht:σ.tmps[t]? with
 | none=>exact .bS
 | some c=>
  rw[ht] at this
  simp only[B0m,A0y] at this ⊢
  unfold Go.Am.fY
  split
  ·split
   ·exact this
   ·obtain⟨es,h1,h2,_⟩:=this.sP
    exact .e h1 h2 fun _=>rfl
  ·exact this

theorem FR (σ:af):σ.fY.tmps.length=σ.tmps.length∧σ.fY.mem.length=σ.mem.length:=by simp[af.rC]

theorem lO {w:World}{a:Act}{env:List D}{ρ:cr}{base:Nat}{tm σ:af}{args:List E}{ds:List D}(h:bE w0 X w a σ env ρ)(hb:base≤env.length)(hm:uJ base tm σ=some args)(hd:aq env args=some ds) :
  ∃ρ',bE w0 X w a tm (jA env base ds) ρ'∧σ.tmps.length=tm.tmps.length∧σ.mem.length=tm.mem.length:=by
 obtain⟨ρ',h'⟩:=h.fY.pM (ps:=sB tm.tmps σ.fY.tmps)
 obtain⟨h1,h2,h3⟩:=Gv h' hb hm hd
 have hl:=xO (sB tm.tmps σ.fY.tmps) σ.fY
 have hu:=FR σ
 exact⟨ρ',h1,hu.1.symm.trans (hl.1.symm.trans h2),hu.2.symm.trans (hl.2.symm.trans h3)⟩

theorem Post.join {B:World→gB→Prop} {N:Nat} {fL:World→Act→D→Prop} {env:List D} {dp Jf n:Nat} {ex:List (Nat×Ex)} {k:Fy} {Q:eV→Prop} {tm:af} {tr:T} (hk:k dp (env.length+n) tm=some tr) (hex:∀id e,iZ ex id=some e→e.lab<dp) {e:Exit} {a':Act} {w':World}
  (h:Post P B N fL env Jf ex (yR dp env.length tm) (cC dp (fun ds=>ds.length=n∧den P tr (env++ds) Q) Q) e a' w'):Post P B N fL env dp ex k Q e a' w':=by
 cases e with
 | normal=>
  obtain⟨w0,X,env',σ',ρ',t',hB,hpre,ht',eb,aG,hlen⟩:=h
  obtain⟨args,hm,rfl⟩:=A0b.1 ht'
  obtain⟨ds,bz,hQ⟩:=eb
  simp only[cC,if_true] at hQ
  obtain⟨hdn,hd⟩:=hQ
  obtain⟨ρ2,jg,h1,h2⟩:=lO aG (List.IsPrefix.length_le hpre) hm bz
  rw[jA,take_prefix hpre (A0m _),qq] at jg
  exact⟨w0,X,env++ds,tm,ρ2,tr,hB,prefix_append _ _,by rw[A0t,hdn];exact hk,hd,jg,by rw[←h1];exact hlen.1,by rw[←h2];exact hlen.2⟩
 | exit id=>
  obtain⟨w0,X,e,ds,ρ',hB,he,hQ,aG,hlen⟩:=h
  refine⟨w0,X,e,ds,ρ',hB,he,?_,aG,hlen⟩
  simp only[cC] at hQ
  rwa [if_neg (Nat.ne_of_lt (hex id e he))] at hQ
 | ret=>exact h
 | goto l=>exact h
 | panic c=>exact h
 | outgrown=>exact h

theorem vI {dp u:Nat}{m:af×Nat}{body:Option T}{k:Fy}{t:T}(h:Cv dp u m body k=some t):∃tb tr,body=some tb∧k dp (u+m.2) m.1=some tr∧t=.join dp m.2 tb tr:=by
 unfold Cv at h
 split at h
 ·rename_i h1;cases h;exact⟨_,_,rfl,h1,rfl⟩
 ·cases h

theorem yS {x:E}{a b:Option T}{t:T}(h:IU x a b=some t):∃ta tb,a=some ta∧b=some tb∧t=.ite x ta tb:=by
 unfold IU at h
 split at h
 ·cases h;exact⟨_,_,rfl,rfl,rfl⟩
 ·cases h

theorem D8 {dp u:Nat}{m:af×Nat}{σ:af}{body:Option T}{t:T}(h:GB dp u m σ body=some t):∃inits tb,uJ u m.1 σ=some inits∧body=some tb∧inits.length=m.2∧t=.loop dp inits tb:=by
 unfold GB at h
 split at h
 ·rename_i inits tb h1
  split at h
  ·rename_i h2;cases h;exact⟨inits,_,h1,rfl,h2,rfl⟩
  ·cases h
 ·cases h

theorem mw {id : Nat} : ∀ {ex : List (Nat × Ex)} {id' : Nat} {e : Ex}, iZ (ex.filter (·.1 != id)) id' = some e → id' ≠ id ∧ iZ ex id' = some e
  | [], _, _, h => by simp [iZ] at h
  | (i, x) :: r, id', e, h => by
    simp only [List.filter_cons] at h
    split at h
    · rename_i hi
      simp only [bne_iff_ne, ne_eq] at hi
      simp only [iZ] at h ⊢
      split at h
      · rename_i e1
        subst e1
        exact ⟨hi, by rw [if_pos rfl]; exact h⟩
      · rename_i e1
        rw [if_neg e1]
        exact mw h
    · rename_i hi
      simp only [bne_iff_ne, ne_eq, Decidable.not_not] at hi
      obtain ⟨h1, h2⟩ := mw h
      simp only [iZ]
      rw [if_neg (by rw [hi]; exact Ne.symm h1)]
      exact ⟨h1, h2⟩

theorem As {N:Nat} {dp:Nat} {tT body:Code} {tb:T} {σ:af} {cf:bV} {env:List D} {ps:Array Tmp} {fn:FuncId} {KB m:Nat} {a:Act} {w:World} {ρ:cr} (hr:bE w0 X w a σ env ρ) (hl:lz N σ) (_:cf.ro=false)
  (Hh:∀(l:Nat) (w1:World) (X1:gB) (σ1:af) (fw:List D) (Q:eV→Prop) (a1:Act) (w2:World) (ρ1:cr),(∃r0,w1.heap[l]? = some (.loop r0)∧¬X1.may l∧¬X1.an l)→σ1=dB σ cf env.length ps.toList→fw.length=env.length+1+ps.size→den P tb fw Q→bE w1 X1 w2 a1 σ1 fw ρ1→lz N σ1→tT.wpIn (FW (some l)) 0 P (Post P (fun w X=>w=w1∧X=X1) N (fun _ _ _=>False) fw (dp+1) [] (fun Jf u' σ'=>compile P (fun _=>none) body Jf u' σ' [] (fG dp)) Q) a1 w2)
  (hbody:∀(l:Nat) (w1:World) (X1:gB) (σ1:af) (fw:List D) (t1:T) (Q:eV→Prop) (a1:Act) (w2:World) (ρ1:cr),(∃r0,w1.heap[l]? = some (.loop r0)∧¬X1.may l∧¬X1.an l)→compile P (fun _=>none) body (dp+1) fw.length σ1 [] (fG dp)=some t1→den P t1 fw Q→bE w1 X1 w2 a1 σ1 fw ρ1→lz N σ1→body.wpIn (FW (some l)) 0 P (Post P (fun w X=>w=w1∧X=X1) N (fun _ _ _=>False) fw (dp+1) [] (fG dp) Q) a1 w2)
  {cU:List D} (za:aq env ((bU 0 σ.tmps).map (·.2))=some cU) {me:D} {ds:List D} {gA:D} (hnc:aT cU=true) (hn1:me.dG=true) (hn2:aT ds=true) (eM:ds.length=ps.size) (eb:den P tb (env++[me]++ds) fun s=>s=.jump dp [gA]) :
  nI P (.yl m { state:=.ready,pending:=none,fn,tmps:=a.tmps,params:=ps,assign:=tT,body,defers:=KB } ((bU 0 σ.tmps).map (·.1)) cU) me ds gA:=by
 intro wS S an bs vs yv hb hst dF hfl hS hy hvl hrd
 subst hb
 have hn1:aT bs=true:=by simpa[D.dG] using hn1
 obtain⟨rec,fH⟩:∃rec:Loop,rec={ state:=.ready,pending:=none,fn,tmps:=a.tmps,params:=ps,assign:=tT,body,defers:=KB }:=⟨_,rfl⟩
 rw[←fH] at hy
 generalize Rk:(bU 0 σ.tmps).map (·.1)=sl at hy
 cases hy with
 | yl hh hcap=>
 obtain⟨Dh,hnf⟩:=dF m rec hh
 have hlt:m<wS.heap.size:=(A0h.1 Dh).1
 refine⟨m,_,_,_,_,rfl,run_yield Dh (by rw[hvl,eM,fH]),?_⟩
 have G4:rec.body=body:=by rw[fH]
 have M0:rec.assign=tT:=by rw[fH]
 have Tc:rec.params=ps:=by rw[fH]
 have MX:rec.tmps=a.tmps:=by rw[fH]
 rw[G4,M0,Tc,MX]
 refine roundIn_of_wpIn (F:=Fence.wide) trivial ?_
 obtain⟨Sr,Ys⟩:∃Sr:Sets,Sr=S.under fun l=>if l=m then none else S.hold l:=⟨_,rfl⟩
 have jv:S.KY Sr:=by rw[Ys];exact S.jU _
 have hmem:∀b o,Sr b o↔S b o:=by intro b o;rw[Ys];exact Iff.rfl
 have hto:∀{v:Value} {d:D},d.dG=true→aZ wS S v d→aZ wS Sr v d:=fun hn h=>h.like jv hn
 have lR:ck wS Sr an bs:=hst.to jv (fun b o h=>(hmem b o).1 h) (fun b hb=>rfl) fun v d i x hi hp h=>hto (Bd hn1 hi hp) h
 have Ns:∀(t:Nat) (x:E) (b:Bool),σ.tmps[t]? = some (.e x b)→∃d,x.eval env=some d∧aZ wS Sr (a.tmps.getD t undef) d∧(b=true→d.one=true):=by
  intro t x b ht
  have h0:=hr.tmps t
  rw[af.eH,A0i,ht] at h0
  obtain⟨d,hd,_,h1⟩:=cu.gj (x:=x) (s:=b) h0
  obtain⟨i,hi⟩:=mK (k:=0) ht
  rw[B0k] at hi
  obtain⟨d',dY,hx'⟩:=kC (i:=i) (x:=x) za (by simp[hi])
  rw[hd] at hx'
  cases hx'
  have:=hcap i t d (by rw[←Rk];simp[hi]) dY
  rw[MX] at this
  exact⟨d,hd,hto (ef hnc dY) this,h1⟩
 obtain⟨ρr,G0⟩:∃ρr:cr,ρr={ bh:=fun _=>0,val:=fun _=>undef,S:=Sr,an:=an }:=⟨_,rfl⟩
 have zj:ρr.S=Sr:=by rw[G0]
 have Nj:env <+: env++[.st bs]++ds:=by rw[B0b];exact prefix_append _ _
 have hargs:=rG (w:=wS) (ρ:=ρr) (env:=env++[.st bs]++ds) (ps:=ps.toList) (vs:=vs.toList) (u:=env.length+1) (tm:=a.tmps) (nP:=σ.tmps.map SV.data) (by simp[hr.size]) (by simp[hvl,eM]) (fun t=>by
  rw[A0i,A0v]
  cases ht:σ.tmps[t]? with
  | none=>exact .bS
  | some sv=>
   simp only[A0y,B0m]
   cases sv with
   | e x b=>
    obtain⟨d,h1,h2,h3⟩:=Ns t x b ht
    exact .e (E.bN Nj _ h1) (by rw[zj];exact h2) h3
   | _=>exact .bS) (fun i v hi=>by
  have hlt:i<ds.length:=by
   have:=(A0a.1 hi).1
   simp at this
   omega
  refine⟨ds[i],?_,?_⟩
  ·rw[A0l (by simp),A0t]
   simp[show env.length+1+i-(env.length+1)=i from by omega]
  ·rw[zj]
   exact hto (ef hn2 (A0f hlt)) (hrd i v _ (by simpa using hi) (A0f hlt)))
 have EH:(ps.zip vs).foldl (fun tmps (x:Tmp×Value)=>tmps.setIfInBounds x.1 x.2) a.tmps=(ps.toList.zip vs.toList).foldl (fun tmps (x:Tmp×Value)=>tmps.setIfInBounds x.1 x.2) a.tmps:=by
  rw[←Array.foldl_toList,Array.toList_zip]
 have rR:bE wS { may:=an,S:=Sr,an:=an,zK:=[] } wS { tmps:=(ps.zip vs).foldl (fun tmps (x:Tmp×Value)=>tmps.setIfInBounds x.1 x.2) a.tmps,defers:=[] } (dB σ cf env.length ps.toList) (env++[.st bs]++ds) ρr:=by
  have ea:∀o x,(dB σ cf env.length ps.toList).obj o=some x→o=aO∧x=.store cf (.sym env.length):=by
   intro o x hx
   simp only[af.cK,dB,A0i,List.getElem?_replicate] at hx
   split at hx
   ·cases hx;exact⟨by assumption,rfl⟩
   ·split at hx <;> simp at hx
  refine⟨by rw[EH];exact hargs.1,fun t=>by rw[EH,af.eH];exact hargs.2 t,fun o x hx=>?_,fun o o' x x' b hx hx' _ _=>?_,fun o x b hx hb=>?_,fun b o hs=>?_,rfl,.refl _,rfl,A0m _,fun _ _ _=>rfl,by rw[zj];exact Sets.le_refl _,fun b o hs=>.inl (by rw[zj] at hs;exact hs),rfl,fun l mF hl'=>?_⟩
  ·obtain⟨rfl,rfl⟩:=ea o x hx
   refine⟨bs,?_,by rw[G0];exact lR,rfl⟩
   simp only[E.eval]
   rw[B0b,A0l (A0m _)]
   simp
  ·obtain⟨rfl,_⟩:=ea o x hx
   obtain⟨rfl,_⟩:=ea o' x' hx'
   rfl
  ·obtain⟨rfl,rfl⟩:=ea o x hx
   have hb:an b:=by rw[G0] at hb;exact hb
   exact⟨.inr (.inr hb),hfl b hb⟩
  ·rw[zj] at hs
   exact hS b o ((hmem b o).1 hs)
  ·have pg:Sr.hold l=some mF:=hl'
   rw[Ys] at pg
   simp only[Sets.under] at pg
   split at pg
   ·cases pg
   ·rename_i hne
    obtain⟨g1,g2⟩:=dF l mF pg
    exact⟨g1,g2,g2⟩
 have nk:lz N (dB σ cf env.length ps.toList):=⟨by simp[dB,lM,hl.1],by simp[dB,hl.2]⟩
 refine wpIn_mono (Hh m wS _ _ (env++[.st bs]++ds) _ _ wS ρr ⟨_,Dh,hnf,hnf⟩ rfl (by simp[eM];omega) eb rR nk) fun e a1 w1 hp=>?_
 cases e with
 | exit id=>obtain⟨_,_,e,_,_,_,he,_⟩:=hp;simp[iZ] at he
 | ret=>obtain⟨_,_,hf⟩:=hp;exact hf.elim
 | goto l=>exact hp.elim
 | panic c=>obtain⟨_,_,_,_,_,_,_,_,_,_,_,_,_,_,_,_,hq⟩:=hp;cases hq
 | outgrown=>exact hp.elim
 | normal=>
 obtain⟨wB,XB,Ql,σB,ρB,tB,⟨hwB,hXB⟩,Rq,hkB,Nn,pY,G7⟩:=hp
 rw[hwB,hXB] at pY
 have aev:Sr.hold m=none:=by rw[Ys];simp[Sets.under]
 obtain⟨hm1,pY⟩:=pY.IA (r':={ rec with state:=.busy }) Dh hnf hnf aev
 refine⟨_,run_beginRound hm1 (by rw[fH]),?_⟩
 have hk2:bp S wS (wS.putObj m (.loop { rec with state:=.busy })):=bp.putObj Dh _
 generalize PK:wS.putObj m (.loop { rec with state:=.busy })=w2 at pY hk2
 have hm2:w2.heap[m]? = some (.loop { rec with state:=.busy }):=by rw[←PK];exact World.putObj_heap_same hlt
 have PX:∀b,b≠m→w2.heap[b]? = wS.heap[b]?:=fun b hb=>by rw[←PK];exact World.putObj_heap_other hb
 have jH:w2.heap.size=wS.heap.size:=by rw[←PK];simp
 have e2:w2.os=wS.os∧TL w2 wS∧w2.output=wS.output:=by rw[←PK];exact⟨rfl,⟨rfl,A0m _⟩,rfl⟩
 refine wpIn_mono (hbody m w2 _ _ Ql _ _ _ _ ρB ⟨_,hm2,hnf,hnf⟩ hkB Nn pY G7) fun e a3 w3 hp=>?_
 cases e with
 | normal=>
  obtain⟨w0',X',env',σ',ρ',t',⟨hw0,Yr⟩,hpre,hk,EJ,jg,M9⟩:=hp
  rw[hw0,Yr] at jg
  unfold fG at hk
  split at hk
  ·rename_i tP h' nK
   cases hk
   obtain⟨ds',bz,hq⟩:=EJ
   cases hq
   have bW:σ'.obj aO=some (.store tP h'):=by rw[af.cK,if_pos rfl];exact nK
   obtain⟨bs',lY,cL,_⟩:=jg.cn _ _ bW
   simp only[aq,lY,A0d,A0y,A0u,List.cons.injEq,and_true] at bz
   subst bz
   have hleft:=kz jg cL ⟨tP,h',bW⟩ fun _ h=>h
   have Tj:m<w2.heap.size:=by rw[jH];exact hlt
   have Ti:w3.heap[m]? = some (.loop { rec with state:=.busy }):=(hleft.old m Tj hnf).trans hm2
   have hend:=run_endRound (P:=P) none Ti
   have agG:({ rec with state:=.busy }:Loop)={ { rec with state:=.busy } with state:=.busy }:=rfl
   refine⟨_,_,hend,ρ'.S.under S.hold,ρ'.an,bs',rfl,rfl,?_⟩
   have M7:({ ({ rec with state:=LoopState.busy }:Loop) with state:=if(none:Option Code).isNone then LoopState.ready else LoopState.done,pending:=none }:Loop)=rec:=by rw[fH];rfl
   rw[M7]
   have Nc:∀(T:Sets),bp T w3 (w3.putObj m (.loop rec)):=fun T=>bp.putObj Ti rec
   have P1:m<w3.heap.size:=(A0h.1 Ti).1
   have Kb:¬ρ'.an m:=fun hf=>by
    rcases(hleft.ft m hf).1 with g | g
    ·exact hnf g
    ·omega
   have hho:ρ'.S.hold=Sr.hold:=hleft.le.hold
   refine⟨cL.to (ρ'.S.jU _) (fun _ _ h=>h) (fun b hb=>World.putObj_heap_other fun e=>Kb (e ▸ hb)) (fun v d i x hi hp h=>(h.keep (Nc _) (Sets.le_refl _)).LR (ρ'.S.jU _) fun l r hlr=>?_),?_,?_,?_,?_,?_,?_,?_,?_,?_,?_⟩
   ·rw[hho,Ys] at hlr
    simp only[Sets.under] at hlr ⊢
    split at hlr
    ·cases hlr
    ·exact hlr
   ·intro b o hs
    rw[Nc S b o hs]
    refine Eq.trans (World.cell?_of_block (a:=⟨b,o,none⟩) (hleft.old b (by rw[jH];exact hS b o hs) fun hf=>hst.rH b o hf hs)) (hk2 b o hs)
   ·refine⟨fun b o hs=>hleft.le.mem b o ((hmem b o).2 hs),?_,fun i hi=>?_,fun i hi=>?_,rfl,fun i hi=>(hleft.le.jt i (by rw[←jv.n];exact hi)).trans (jv.jt i)⟩
    ·rw[jv.n];exact hleft.le.n
    ·exact(hleft.le.loc i (by rw[←jv.n];exact hi)).trans (jv.loc i)
    ·exact(hleft.le.cap i (by rw[←jv.n];exact hi)).trans (jv.cap i)
   ·exact hleft.os.trans e2.1
   ·exact⟨hleft.tape.tape.trans e2.2.1.tape,B0e e2.2.1.dr hleft.tape.dr⟩
   ·exact hleft.output.trans e2.2.2
   ·simp only[World.putObj_size];rw[←jH];exact hleft.size
   ·intro b hb hnb
    by_cases e:b=m
    ·subst e;rw[World.putObj_heap_same P1,Dh]
    ·rw[World.putObj_heap_other e,hleft.old b (by rw[jH];exact hb) hnb,PX b e]
   ·intro b hb
    have:=hleft.ft b hb
    rw[jH] at this
    simp only[World.putObj_size]
    exact this
   ·intro b o hs
    have:=hleft.new b o hs
    rw[jH] at this
    exact this.imp_left fun h=>(hmem b o).1 h
   ·intro b o hs
    simp only[World.putObj_size]
    exact hleft.lt b o hs
  ·cases hk
 | exit id=>obtain⟨_,_,e,_,_,_,he,_⟩:=hp;simp[iZ] at he
 | ret=>obtain⟨_,_,hf⟩:=hp;exact hf.elim
 | goto l=>exact hp.elim
 | panic c=>obtain⟨_,_,_,_,_,_,_,_,_,_,_,_,_,_,_,_,hq⟩:=hp;cases hq
 | outgrown=>exact hp.elim

def OB (w1:World)(X1:gB)(w':World)(st:D):Prop:=∃(a:Act) (σ:af) (env:List D) (ρ:cr) (bs:List D),bE w1 X1 w' a σ env ρ∧(∃cf x,σ.obj aO=some (.store cf x))∧st=.st bs∧ck w' ρ.S ρ.an bs

def OA (w1:World)(X1:gB)(q:Option Nat)(b:Bool)(st:D):Exit→Act→World→Prop
 | .normal,_,w'=>b=true∧OB w1 X1 w' st
 | .ret,_,w'=>b=false∧q=none∧OB w1 X1 w' st
 | .exit id,_,w'=>b=false∧q=some id∧OB w1 X1 w' st
 | _,_,_=>False

theorem Au {w1:World} {X1:gB} {N dp base:Nat} {σ:af} {cf:bV} {q:Option Nat} {fw:List D} {b:Bool} {st:D} (hb:base≤fw.length) {e:Exit} {a':Act} {w':World}
  (h:Post P (fun w X=>w=w1∧X=X1) N (fun w' a d=>∃σ env ρ x,bE w1 X1 w' a σ env ρ∧jr q σ=some x∧x.eval env=some d) fw (dp+2) (j7 dp base σ cf q) (fG dp) (fun s=>s=xL dp q b st) e a' w'):OA w1 X1 q b st e a' w':=by
 have ofs:∀{a:Act} {σ:af} {env:List D} {ρ:cr} {cf:bV} {x:E} {d:D},bE w1 X1 w' a σ env ρ→σ.obj aO=some (.store cf x)→x.eval env=some d→OB w1 X1 w' d:=by
  intro a σ env ρ cf x d hr ho hx
  obtain⟨bs,h1,h2,_⟩:=hr.cn _ _ ho
  rw[hx] at h1
  cases h1
  exact⟨a,σ,env,ρ,bs,hr,⟨cf,x,ho⟩,rfl,h2⟩
 cases e with
 | normal=>
  obtain⟨w0',X',env',σ',ρ',t',⟨hw0,Yr⟩,hpre,hk,EJ,jg,M9⟩:=h
  rw[hw0,Yr] at jg
  unfold fG at hk
  split at hk
  ·rename_i tP h' nK
   cases hk
   obtain⟨ds',bz,hq⟩:=EJ
   obtain⟨d,hd,rfl⟩:∃d,h'.eval env'=some d∧ds'=[d]:=by
    simp only[aq,A0c,A0b,A0d,A0u] at bz
    obtain⟨d,h1,r,rfl,rfl⟩:=bz
    exact⟨d,h1,rfl⟩
   cases b with
   | true=>cases hq;exact⟨rfl,ofs jg (by rw[af.cK,if_pos rfl];exact nK) hd⟩
   | false=>
    cases q with
    | none=>cases hq
    | some id=>
     simp only[xL,cond_false,eV.jump.injEq] at hq
     omega
  ·cases hk
 | ret=>
  obtain⟨d,hq,σ',env',ρ',x,jg,hx,hd⟩:=h
  cases b with
  | true=>cases hq
  | false=>
   cases q with
   | some id=>cases hq
   | none=>
    cases hq
    refine⟨rfl,rfl,?_⟩
    unfold jr at hx
    split at hx
    ·rename_i tP h' _ nK
     cases hx
     exact ofs jg (by rw[af.cK,if_pos rfl];exact nK) hd
    ·cases hx
 | exit id=>
  obtain⟨w0',X',e,ds',ρ',⟨hw0,Yr⟩,he,hq,jg,M9⟩:=h
  rw[hw0,Yr] at jg
  cases q with
  | none=>simp[j7,iZ] at he
  | some id'=>
   simp only[j7,iZ] at he
   split at he
   ·rename_i e1
    cases he
    subst e1
    cases b with
    | true=>
     simp only[xL,cond_true,eV.jump.injEq] at hq
     omega
    | false=>
     cases hq
     refine⟨rfl,rfl,ofs jg (by rw[af.cK,if_pos rfl]) ?_⟩
     simp only[E.eval]
     rw[A0l (by simp;omega)]
     simp[Nat.min_eq_left hb]
   ·cases he
 | goto l=>exact h.elim
 | panic c=>obtain⟨_,_,_,_,_,_,_,_,_,_,_,_,_,_,_,_,hq⟩:=h;cases b <;> cases q <;> cases hq
 | outgrown=>exact h.elim

theorem xj {N:Nat} {dp:Nat} {q:Option Nat} {tT body:Code} {tb:T} {σ:af} {cf:bV} {env:List D} {ps:Array Tmp} {fn:FuncId} {KB:Nat} {a:Act} {w:World} {ρ:cr} (hr:bE w0 X w a σ env ρ) (hl:lz N σ)
  (Hh:∀(l:Nat) (w1:World) (X1:gB) (σ1:af) (fw:List D) (Q:eV→Prop) (a1:Act) (w2:World) (ρ1:cr),(∃r0,w1.heap[l]? = some (.loop r0)∧¬X1.may l∧¬X1.an l)→σ1=dB σ cf env.length ps.toList→fw.length=env.length+1+ps.size→den P tb fw Q→bE w1 X1 w2 a1 σ1 fw ρ1→lz N σ1→tT.wpIn (FW (some l)) 0 P (Post P (fun w X=>w=w1∧X=X1) N (fun _ _ _=>False) fw (dp+2) [] (fun Jf u' σ'=>compile P (jr q) body Jf u' σ' (j7 dp (env.length+1+ps.size) σ cf q) (fG dp)) Q) a1 w2)
  (hbody:∀(l:Nat) (w1:World) (X1:gB) (σ1:af) (fw:List D) (t1:T) (b:Bool) (gA:D) (a1:Act) (w2:World) (ρ1:cr),(∃r0,w1.heap[l]? = some (.loop r0)∧¬X1.may l∧¬X1.an l)→compile P (jr q) body (dp+2) fw.length σ1 (j7 dp (env.length+1+ps.size) σ cf q) (fG dp)=some t1→env.length+1+ps.size≤fw.length→den P t1 fw (fun s=>s=xL dp q b gA)→bE w1 X1 w2 a1 σ1 fw ρ1→lz N σ1→body.wpIn (FW (some l)) 0 P (OA w1 X1 q b gA) a1 w2)
  {cU:List D} (za:aq env ((bU 0 σ.tmps).map (·.2))=some cU) {i:Nat} {ew gi ds:List D} {b:Bool} (XY:ew[i]? = some (.mO false)) (eM:ds.length=ps.size) (q9:gi[i]? = some (.aM [])) (eb:den P tb (env++[.st (ew.set i (.aM []))]++ds) fun s=>s=xL dp q b (.st gi)) :
  sk P (.uc i ({ state:=.ready,pending:=none,fn,tmps:=a.tmps,params:=ps,assign:=tT,body,defers:=KB },qR q) ((bU 0 σ.tmps).map (·.1)) cU) (.st ew) ds b (.st (gi.set i (.mO !b))):=by
 intro wS S an bs vs yv hb hst dF hfl hS hy hvl hrd
 cases hb
 obtain⟨rec,fH⟩:∃rec:Loop,rec={ state:=.ready,pending:=none,fn,tmps:=a.tmps,params:=ps,assign:=tT,body,defers:=KB }:=⟨_,rfl⟩
 rw[←fH] at hy
 generalize Rk:(bU 0 σ.tmps).map (·.1)=sl at hy
 cases hy with
 | uc hi hlr hcap=>
 obtain⟨hfm,Dh,hnm⟩:=hst.pV i _ XY rfl
 simp only[qm,hlr,cond_false] at Dh
 generalize hm:S.loc i=m at hfm Dh hnm
 have hlt:m<wS.heap.size:=(A0h.1 Dh).1
 refine⟨m,_,_,_,_,rfl,run_yield Dh (by rw[hvl,eM,fH]),?_⟩
 have G4:rec.body=body:=by rw[fH]
 have M0:rec.assign=tT:=by rw[fH]
 have Tc:rec.params=ps:=by rw[fH]
 have MX:rec.tmps=a.tmps:=by rw[fH]
 rw[G4,M0,Tc,MX]
 refine roundIn_of_wpIn (F:=Fence.wide) trivial ?_
 have lR:ck wS S (fun b=>an b∧b≠m) (ew.set i (.aM [])):=hm ▸ hst.drop XY rfl
 obtain⟨rf,hfr⟩:∃rf:Nat→Prop,rf=fun b=>an b∧b≠m:=⟨_,rfl⟩
 rw[←hfr] at lR
 have Kh:∀b,rf b→an b:=fun b hb=>by rw[hfr] at hb;exact hb.1
 have hnf:¬rf m:=fun hb=>by rw[hfr] at hb;exact hb.2 rfl
 have hhm:S.hold m=none:=by
  cases hx:S.hold m with
  | none=>rfl
  | some r=>exact absurd hfm (dF m r hx).2
 have Ns:∀(t:Nat) (x:E) (b:Bool),σ.tmps[t]? = some (.e x b)→∃d,x.eval env=some d∧aZ wS S (a.tmps.getD t undef) d∧(b=true→d.one=true):=by
  intro t x b ht
  have h0:=hr.tmps t
  rw[af.eH,A0i,ht] at h0
  obtain⟨d,hd,_,h1⟩:=cu.gj (x:=x) (s:=b) h0
  obtain⟨i,hi⟩:=mK (k:=0) ht
  rw[B0k] at hi
  obtain⟨d',dY,hx'⟩:=kC (i:=i) (x:=x) za (by simp[hi])
  rw[hd] at hx'
  cases hx'
  have:=hcap i t d (by rw[←Rk];simp[hi]) dY
  rw[MX] at this
  exact⟨d,hd,this,h1⟩
 obtain⟨ρr,G0⟩:∃ρr:cr,ρr={ bh:=fun _=>0,val:=fun _=>undef,S:=S,an:=rf }:=⟨_,rfl⟩
 have zj:ρr.S=S:=by rw[G0]
 have Nj:env <+: env++[.st (ew.set i (.aM []))]++ds:=by rw[B0b];exact prefix_append _ _
 have hargs:=rG (w:=wS) (ρ:=ρr) (env:=env++[.st (ew.set i (.aM []))]++ds) (ps:=ps.toList) (vs:=vs.toList) (u:=env.length+1) (tm:=a.tmps) (nP:=σ.tmps.map SV.data) (by simp[hr.size]) (by simp[hvl,eM]) (fun t=>by
  rw[A0i,A0v]
  cases ht:σ.tmps[t]? with
  | none=>exact .bS
  | some sv=>
   simp only[A0y,B0m]
   cases sv with
   | e x b=>
    obtain⟨d,h1,h2,h3⟩:=Ns t x b ht
    exact .e (E.bN Nj _ h1) (by rw[zj];exact h2) h3
   | _=>exact .bS) (fun j v hj=>by
  have hlt:j<ds.length:=by
   have:=(A0a.1 hj).1
   simp at this
   omega
  refine⟨ds[j],?_,?_⟩
  ·rw[A0l (by simp),A0t]
   simp[show env.length+1+j-(env.length+1)=j from by omega]
  ·rw[zj]
   exact hrd j v _ (by simpa using hj) (A0f hlt))
 have EH:(ps.zip vs).foldl (fun tmps (x:Tmp×Value)=>tmps.setIfInBounds x.1 x.2) a.tmps=(ps.toList.zip vs.toList).foldl (fun tmps (x:Tmp×Value)=>tmps.setIfInBounds x.1 x.2) a.tmps:=by
  rw[←Array.foldl_toList,Array.toList_zip]
 have rR:bE wS { may:=rf,S:=S,an:=rf,zK:=[] } wS { tmps:=(ps.zip vs).foldl (fun tmps (x:Tmp×Value)=>tmps.setIfInBounds x.1 x.2) a.tmps,defers:=[] } (dB σ cf env.length ps.toList) (env++[.st (ew.set i (.aM []))]++ds) ρr:=by
  have ea:∀o x,(dB σ cf env.length ps.toList).obj o=some x→o=aO∧x=.store cf (.sym env.length):=by
   intro o x hx
   simp only[af.cK,dB,A0i,List.getElem?_replicate] at hx
   split at hx
   ·cases hx;exact⟨by assumption,rfl⟩
   ·split at hx <;> simp at hx
  refine⟨by rw[EH];exact hargs.1,fun t=>by rw[EH,af.eH];exact hargs.2 t,fun o x hx=>?_,fun o o' x x' b hx hx' _ _=>?_,fun o x b hx hb=>?_,fun b o hs=>?_,rfl,.refl _,rfl,A0m _,fun _ _ _=>rfl,by rw[zj];exact Sets.le_refl _,fun b o hs=>.inl (by rw[zj] at hs;exact hs),rfl,fun l mF hl'=>?_⟩
  ·obtain⟨rfl,rfl⟩:=ea o x hx
   refine⟨ew.set i (.aM []),?_,by rw[G0];exact lR,rfl⟩
   simp only[E.eval]
   rw[B0b,A0l (A0m _)]
   simp
  ·obtain⟨rfl,_⟩:=ea o x hx
   obtain⟨rfl,_⟩:=ea o' x' hx'
   rfl
  ·obtain⟨rfl,rfl⟩:=ea o x hx
   have hb:rf b:=by rw[G0] at hb;exact hb
   exact⟨.inr (.inr hb),hfl b (Kh b hb)⟩
  ·rw[zj] at hs
   exact hS b o hs
  ·obtain⟨g1,g2⟩:=dF l mF hl'
   exact⟨g1,fun h=>g2 (Kh _ h),fun h=>g2 (Kh _ h)⟩
 have nk:lz N (dB σ cf env.length ps.toList):=⟨by simp[dB,lM,hl.1],by simp[dB,hl.2]⟩
 refine wpIn_mono (Hh m wS _ _ (env++[.st (ew.set i (.aM []))]++ds) _ _ wS ρr ⟨_,Dh,hnf,hnf⟩ rfl (by simp[eM];omega) eb rR nk) fun e a1 w1 hp=>?_
 cases e with
 | exit id=>obtain⟨_,_,e,_,_,_,he,_⟩:=hp;simp[iZ] at he
 | ret=>obtain⟨_,_,hf⟩:=hp;exact hf.elim
 | goto l=>exact hp.elim
 | panic c=>obtain⟨_,_,_,_,_,_,_,_,_,_,_,_,_,_,_,_,hq⟩:=hp;cases b <;> cases q <;> cases hq
 | outgrown=>exact hp.elim
 | normal=>
 obtain⟨wB,XB,Ql,σB,ρB,tB,⟨hwB,hXB⟩,Rq,hkB,Nn,pY,G7⟩:=hp
 rw[hwB,hXB] at pY
 obtain⟨hm1,pY⟩:=pY.IA (r':={ rec with state:=.busy }) Dh hnf hnf hhm
 refine⟨_,run_beginRound hm1 (by rw[fH]),?_⟩
 have hk2:bp S wS (wS.putObj m (.loop { rec with state:=.busy })):=bp.putObj Dh _
 generalize PK:wS.putObj m (.loop { rec with state:=.busy })=w2 at pY hk2
 have hm2:w2.heap[m]? = some (.loop { rec with state:=.busy }):=by rw[←PK];exact World.putObj_heap_same hlt
 have PX:∀b,b≠m→w2.heap[b]? = wS.heap[b]?:=fun b hb=>by rw[←PK];exact World.putObj_heap_other hb
 have jH:w2.heap.size=wS.heap.size:=by rw[←PK];simp
 have e2:w2.os=wS.os∧TL w2 wS∧w2.output=wS.output:=by rw[←PK];exact⟨rfl,⟨rfl,A0m _⟩,rfl⟩
 have hlB:env.length+1+ps.size≤Ql.length:=by
  have:=List.IsPrefix.length_le Rq
  simp[eM] at this
  omega
 have Tj:m<w2.heap.size:=by rw[jH];exact hlt
 have fin:∀(w3:World) (jump:Option Code),OB w2 { may:=rf,S:=S,an:=rf,zK:=[] } w3 (.st gi)→({ ({ rec with state:=LoopState.busy }:Loop) with state:=if jump.isNone then LoopState.ready else LoopState.done,pending:=jump }:Loop)=(bif !b then { rec with state:=.done,pending:=some (qR q) } else rec)→jump.isNone=b →
   ∃v w',(Instr.endRound m jump).run P w3=.ok v w'∧∃(S':Sets) (bf:Nat→Prop) (bs':List D),(Ending.returned v)=.returned (.bool b)∧D.st (gi.set i (.mO !b))=.st bs'∧ck w' S' bf bs'∧bp S wS w'∧S≤S'∧w'.os=wS.os∧TL w' wS∧w'.output=wS.output∧wS.heap.size≤w'.heap.size ∧
    (∀b,b<wS.heap.size→¬an b→w'.heap[b]? = wS.heap[b]?)∧(∀b,bf b→(an b∨wS.heap.size≤b)∧b<w'.heap.size)∧(∀b o,S' b o→S b o∨an b∨wS.heap.size≤b)∧∀b o,S' b o→b<w'.heap.size:=by
  rintro w3 jump ⟨a',σ',env',ρ',bs',jg,uV,fX,cL⟩ M7 hjb
  cases fX
  have hleft:=kz jg cL uV fun _ h=>h
  have Ti:w3.heap[m]? = some (.loop { rec with state:=.busy }):=(hleft.old m Tj hnf).trans hm2
  have hend:=run_endRound (P:=P) jump Ti
  rw[M7] at hend
  have P1:m<w3.heap.size:=(A0h.1 Ti).1
  have Kb:¬ρ'.an m:=fun hf=>by
   rcases(hleft.ft m hf).1 with g | g
   ·exact hnf g
   ·omega
  have ji:ρ'.S.loc i=m:=(hleft.le.loc i hi).trans hm
  obtain⟨r4,hr4⟩:∃r4:Loop,r4=(bif !b then { rec with state:=.done,pending:=some (qR q) } else rec):=⟨_,rfl⟩
  rw[←hr4] at hend
  have Nc:∀(T:Sets),bp T w3 (w3.putObj m (.loop r4)):=fun T=>bp.putObj Ti r4
  have adU:∀off,¬ρ'.S m off:=fun off hs=>by
   rcases hleft.new m off hs with g | g | g
   ·exact hnm off g
   ·exact hnf g
   ·omega
  have kE:=cL.Sk (w':=w3.putObj m (.loop r4)) (z:=.mO !b) q9 rfl (by
   rw[ji,World.putObj_heap_same P1,hr4]
   simp only[qm,(hleft.le.jt i hi).trans hlr]) (by rw[ji];exact Kb) (by rw[ji];exact adU) (Nc _) fun b hb=>World.putObj_heap_other fun e=>Kb (e ▸ hb)
  refine⟨_,_,hend,ρ'.S,_,_,by rw[hjb],rfl,kE,?_,hleft.le,hleft.os.trans e2.1,⟨hleft.tape.tape.trans e2.2.1.tape,B0e e2.2.1.dr hleft.tape.dr⟩,hleft.output.trans e2.2.2,?_,?_,?_,?_,?_⟩
  ·intro b o hs
   rw[Nc S b o hs]
   exact Eq.trans (World.cell?_of_block (a:=⟨b,o,none⟩) (hleft.old b (by rw[jH];exact hS b o hs) fun hf=>lR.rH b o hf hs)) (hk2 b o hs)
  ·simp only[World.putObj_size];rw[←jH];exact hleft.size
  ·intro b hb hnb
   have TE:b≠m:=fun e=>hnb (e ▸ hfm)
   rw[World.putObj_heap_other TE,hleft.old b (by rw[jH];exact hb) (fun h=>hnb (Kh b h)),PX b TE]
  ·intro b hb
   simp only[World.putObj_size]
   rcases hb with hb | hb
   ·have:=hleft.ft b hb
    rw[jH] at this
    exact⟨this.1.imp_left (Kh b),this.2⟩
   ·rw[ji] at hb
    subst hb
    exact⟨.inl hfm,P1⟩
  ·intro b o hs
   have:=hleft.new b o hs
   rw[jH] at this
   exact this.imp_right fun h=>h.imp_left (Kh b)
  ·intro b o hs
   simp only[World.putObj_size]
   exact hleft.lt b o hs
 refine wpIn_mono (hbody m w2 _ _ Ql _ b _ _ _ ρB ⟨_,hm2,hnf,hnf⟩ hkB hlB Nn pY G7) fun e a3 w3 hp=>?_
 cases e with
 | normal=>
  obtain⟨hb,he⟩:=hp
  subst hb
  exact fin w3 none he (by rw[fH];rfl) rfl
 | ret=>
  obtain⟨hb,hq,he⟩:=hp
  subst hb hq
  exact fin w3 (some .ret) he (by rw[fH];rfl) rfl
 | exit id=>
  obtain⟨hb,hq,he⟩:=hp
  subst hb hq
  exact fin w3 (some (.exit id)) he (by rw[fH];rfl) rfl
 | goto l=>exact hp.elim
 | panic c=>exact hp.elim
 | outgrown=>exact hp.elim

theorem A8 {B:World→gB→Prop} {rd:Option Nat} {σ:af} {cf:bV} {hE:E} {env:List D} {a:Act} {w W3:World} {ρ:cr} {S3:Sets} {zx:Nat→Prop} {cG:D} {mark:List Deferred} (hr:bE w0 X w a σ env ρ) (hro:cf.ro=false) (nK:σ.hs=some (.store cf hE)) (hB:B w0 X) (dP:rd≠none∨∀w1 X1 w2 X2,B w1 X1→Ext w1 X1 w2 X2→B w2 X2)
  (aG:bE w0 X W3 a (σ.setObj aO (some (.store cf (.sym env.length)))) (env++[cG]) { ρ with S:=S3,an:=zx }) (EG:mark=[]∨(rd=none∧∃dd,mark=[{ target:=.collected dd,args:=#[] }]∧W3.heap[dd]? = some (.deferred (some []))∧w.heap.size≤dd∧¬zx dd)) :
  ∃w1 X1,B w1 X1∧bE w1 X1 W3 { a with defers:=mark++a.defers } (jG σ (.sym env.length)) (env++[cG]) { ρ with S:=S3,an:=zx }:=by
 have iX:jG σ (.sym env.length)=σ.setObj aO (some (.store cf (.sym env.length))):=by unfold jG;rw[nK]
 have uV:∀o y,o≠aO→(σ.setObj aO (some (.store cf (.sym env.length)))).obj o=some y→σ.obj o=some y:=fun o y ho hy=>by rwa [af.dQ (.inl rfl),if_neg ho] at hy
 obtain⟨ρ2,J5⟩:∃ρ2:cr,ρ2={ ρ with S:=S3,an:=zx }:=⟨_,rfl⟩
 rw[←J5] at aG
 rw[←J5]
 rcases EG with rfl | ⟨MY,dd,rfl,hDW,Yw,EF⟩
 ·exact⟨w0,X,hB,by rw[iX];exact aG⟩
 ·have dP:=dP.resolve_left (fun h=>h MY)
  have Hf:ρ2.an=zx:=by rw[J5]
  have Td:∀o y,(σ.setObj aO (some (.store cf (.sym env.length)))).obj o=some y→y.ro=false:=by
   intro o y hy
   by_cases ho:o=aO
   ·subst ho
    rw[af.dQ (.inl rfl),if_pos rfl] at hy
    cases hy
    exact hro
   ·have:=uV o y ho hy
    cases y with
    | store c z=>obtain⟨_,_,_,e⟩:=hr.cn o _ this;exact absurd e ho
    | _=>rfl
  have hown:∀o y b,(σ.setObj aO (some (.store cf (.sym env.length)))).obj o=some y→bw ρ2 o y b→(w0.heap.size≤b∨X.may b):=fun o y b hy hb=>by
   rcases(aG.own o y b hy hb).1 with g | g
   ·rw[Td o y hy] at g;cases g.1
   ·exact g
  have Th:(σ.setObj aO (some (.store cf (.sym env.length)))).obj aO=some (.store cf (.sym env.length)):=by rw[af.dQ (.inl rfl),if_pos rfl]
  obtain⟨X1,TJ⟩:∃X1:gB,X1={ may:=fun b=>∃o y,(σ.setObj aO (some (.store cf (.sym env.length)))).obj o=some y∧bw ρ2 o y b,S:=ρ2.S,an:=zx,zK:=[{ target:=.collected dd,args:=#[] }]++X.zK }:=⟨_,rfl⟩
  have hmay:∀b,X1.may b↔∃o y,(σ.setObj aO (some (.store cf (.sym env.length)))).obj o=some y∧bw ρ2 o y b:=fun b=>by rw[TJ]
  have Hg:X1.an=zx:=by rw[TJ]
  have NA:X1.S=ρ2.S:=by rw[TJ]
  have hnD:¬X1.may dd:=by
   rw[hmay]
   rintro⟨o,y,hy,hb⟩
   by_cases ho:o=aO
   ·subst ho
    rw[Th] at hy
    cases hy
    exact EF (by rw[←Hf];exact hb)
   ·have hy':=uV o y ho hy
    have hb':bw ρ o y dd:=by
     cases y with
     | store c z=>obtain⟨_,_,_,e⟩:=hr.cn o _ hy';exact absurd e ho
     | box cs=>rw[J5] at hb;exact hb
     | row x' sz=>rw[J5] at hb;exact hb
     | tok e' sz=>rw[J5] at hb;exact hb
    have:=(hr.own o y dd hy' hb').2
    omega
  have Tv:∀l' mF,X.S.hold l'=some mF→W3.heap[l']? = some (.loop mF)∧¬X1.may l'∧¬X1.an l':=by
   intro l' mF hl'
   have h1:ρ2.S.hold l'=some mF:=by rw[aG.sub.hold];exact hl'
   obtain⟨g1,g2⟩:=aG.ju Th l' mF h1
   obtain⟨k1,k2,k3⟩:=hr.hold l' mF hl'
   have hlt:=(A0h.1 k1).1
   refine⟨g1,?_,by rw[Hg,←Hf];exact g2⟩
   rw[hmay]
   rintro⟨o,y,hy,hb⟩
   rcases hown o y l' hy hb with g | g
   ·omega
   ·exact k2 g
  have yZ:Ext w0 X W3 X1:=by
   refine⟨by rw[NA];exact aG.sub,aG.os,aG.tape,aG.output,aG.grown,aG.old,fun b hb=>?_,fun b hb=>?_,fun b o hs=>?_,[dd],by rw[TJ];rfl,by simp,fun D hD=>?_⟩
   ·obtain⟨o,y,hy,hb⟩:=(hmay b).1 hb
    exact(hown o y b hy hb).symm
   ·rw[Hg,←Hf] at hb
    exact .inr (hown aO _ b Th hb).symm
   ·rw[NA] at hs
    exact aG.new b o hs
   ·simp at hD
    subst hD
    exact⟨hDW,hnD,by rw[Hg];exact EF,B0e hr.grown Yw⟩
  refine⟨W3,X1,dP w0 X W3 X1 hB yZ,?_⟩
  rw[iX]
  refine⟨aG.size,aG.tmps,aG.cn,aG.inj,fun o y b hy hb=>⟨.inr (.inr ((hmay b).2 ⟨o,y,hy,hb⟩)),(aG.own o y b hy hb).2⟩,aG.cells,rfl,.refl _,rfl,A0m _,fun _ _ _=>rfl,by rw[NA];exact Sets.le_refl _,fun b o hs=>.inl (by rw[NA];exact hs),?_,fun l' mF hl'=>Tv l' mF ?_⟩
  ·rw[TJ]
   show[({ target:=.collected dd,args:=#[] }:Deferred)]++a.defers=[{ target:=.collected dd,args:=#[] }]++X.zK
   rw[hr.su]
  ·rw[NA,aG.sub.hold] at hl'
   exact hl'

theorem zF {rd:Option Nat}{ps:Array Tmp}{tT body:Code}{σ:af}{env:List D}{a:Act}{w:World}{ρ:cr}(hr:bE w0 X w a σ env ρ)(hrd:∀l,rd=some l→∃r0,w0.heap[l]? = some (.loop r0)∧¬X.may l∧¬X.an l)(fn:FuncId) :
  ∃(l:Nat) (mark:List Deferred) (W1:World) (rec:Loop) (KB:Nat),rec={ state:=.ready,pending:=none,fn,tmps:=a.tmps,params:=ps,assign:=tT,body,defers:=KB } ∧
   (Instr.enterLoop fn a.tmps ps tT body (FW rd).round).run P w=.ok (l,mark) W1∧W1.heap[l]? = some (.loop rec)∧w.heap.size≤l∧w.heap.size≤W1.heap.size∧(∀b,b<w.heap.size→W1.heap[b]? = w.heap[b]?)∧W1.os=w.os∧TL W1 w∧W1.output=w.output ∧
   (mark=[]∨(rd=none∧∃dd,mark=[{ target:=.collected dd,args:=#[] }]∧W1.heap[dd]? = some (.deferred (some []))∧w.heap.size≤dd∧dd≠l)):=by
 cases rd with
 | none=>
  refine⟨_,_,_,_,w.heap.size,rfl,run_enterLoop_outer fn a.tmps ps tT body,?_,by omega,by simp;omega,fun b hb=>?_,rfl,⟨rfl,A0m _⟩,rfl,.inr ⟨rfl,_,rfl,?_,A0m _,by omega⟩⟩
  ·have:=World.alloc_heap_new (w.alloc (.deferred (some []))) (.loop { state:=.ready,pending:=none,fn,tmps:=a.tmps,params:=ps,assign:=tT,body,defers:=w.heap.size })
   rwa [World.size_alloc] at this
  ·rw[gr _ _ b (by simp;omega),gr _ _ b hb]
  ·rw[gr _ _ _ (by simp)]
   exact World.alloc_heap_new w _
 | some l0=>
  obtain⟨r0,g1,g2,g3⟩:=hrd l0 rfl
  have OL:w.heap[l0]? = some (.loop r0):=(hr.old l0 (A0h.1 g1).1 g2).trans g1
  refine⟨_,_,_,_,r0.defers,rfl,run_enterLoop_inner OL fn a.tmps ps tT body,World.alloc_heap_new w _,A0m _,by simp,fun b hb=>gr _ _ b hb,rfl,⟨rfl,A0m _⟩,rfl,.inl rfl⟩

theorem rq {f : FuncId} (kB : bu P f = true) : ∃ fn0, P.funcs[f]? = some fn0 ∧ (fn0.name == "runtime.NumGoroutine") = false ∧ fn0.body.isNone = false := by
 unfold bu at kB
 split at kB
 ·rename_i fn0 hf
  simp only[A0g,Bool.not_eq_true',Option.isSome_iff_ne_none] at kB
  refine⟨fn0,hf,kB.1,?_⟩
  cases hb:fn0.body with
  | none=>exact absurd hb kB.2
  | some _=>rfl
 ·cases kB

theorem Gc {B:World→gB→Prop} {N:Nat} {rd:Option Nat} {nd:Nat} {g:Operand} {ps:Array Tmp} {dp:Nat} {tT body:Code} {tb:T} {σ:af} {cf:bV} {xg hE:E} {env:List D} {a:Act} {w:World} {ρ:cr} {Q:Exit→Act→World→Prop}
  (hr:bE w0 X w a σ env ρ) (hl:lz N σ) (hro:cf.ro=false) (nK:σ.hs=some (.store cf hE)) (hB:B w0 X) (hg:(σ.uG g).toE=some xg)
  (hrd:∀l,rd=some l→∃r0,w0.heap[l]? = some (.loop r0)∧¬X.may l∧¬X.an l) (dP:rd≠none∨∀w1 X1 w2 X2,B w1 X1→Ext w1 X1 w2 X2→B w2 X2)
  (Hh:∀(l:Nat) (w1:World) (X1:gB) (σ1:af) (fw:List D) (Q:eV→Prop) (a1:Act) (w2:World) (ρ1:cr),(∃r0,w1.heap[l]? = some (.loop r0)∧¬X1.may l∧¬X1.an l)→σ1=dB σ cf env.length ps.toList→fw.length=env.length+1+ps.size→den P tb fw Q→bE w1 X1 w2 a1 σ1 fw ρ1→lz N σ1→tT.wpIn (FW (some l)) 0 P (Post P (fun w X=>w=w1∧X=X1) N (fun _ _ _=>False) fw (dp+1) [] (fun Jf u' σ'=>compile P (fun _=>none) body Jf u' σ' [] (fG dp)) Q) a1 w2)
  (hbody:∀(l:Nat) (w1:World) (X1:gB) (σ1:af) (fw:List D) (t1:T) (Q:eV→Prop) (a1:Act) (w2:World) (ρ1:cr),(∃r0,w1.heap[l]? = some (.loop r0)∧¬X1.may l∧¬X1.an l)→compile P (fun _=>none) body (dp+1) fw.length σ1 [] (fG dp)=some t1→den P t1 fw Q→bE w1 X1 w2 a1 σ1 fw ρ1→lz N σ1→body.wpIn (FW (some l)) 0 P (Post P (fun w X=>w=w1∧X=X1) N (fun _ _ _=>False) fw (dp+1) [] (fG dp) Q) a1 w2)
  {f:FuncId} {us cs cU:List D} {st d cG:D} (hx:xg.eval env=some (.fn f us cs)) (kB:bu P f=true) (hh:hE.eval env=some st) (za:aq env ((bU 0 σ.tmps).map (·.2))=some cU) (hnc:aT cU=true) (hn':cG.dG=true)
  (hspec:∀(m:Nat) (rec:Loop),(∀me ds gA,me.dG=true→aT ds=true→ds.length=ps.size→den P tb (env++[me]++ds) (fun s=>s=.jump dp [gA])→nI P (.yl m rec ((bU 0 σ.tmps).map (·.1)) cU) me ds gA)→bt P f st (us++[.yl m rec ((bU 0 σ.tmps).map (·.1)) cU]++cs) d cG)
  (hQ:∀(w1:World) (X1:gB) (a':Act) (w':World) (ρ':cr),B w1 X1→bE w1 X1 w' a' (jG σ (.sym env.length)) (env++[cG]) ρ'→Q .normal a' w'):(Code.rangeFunc g ps tT body).wpIn (FW rd) nd P Q a w:=by
 have bW:σ.obj aO=some (.store cf hE):=by rw[af.cK,if_pos rfl];exact nK
 obtain⟨bs,lY,hst,_⟩:=hr.cn _ _ bW
 rw[lY] at hh
 cases hh
 have CH:∀b,ρ.an b→b<w.heap.size:=eC hr bW
 have dF:=hr.ju bW
 refine wpIn_rangeFunc fun fn _=>?_
 obtain⟨l,mark,W1,rec,KB,fH,hent,UO,hle,hsz,tt,FG,PN,Ap,EG⟩:∃(l:Nat) (mark:List Deferred) (W1:World) (rec:Loop) (KB:Nat),rec={ state:=.ready,pending:=none,fn,tmps:=a.tmps,params:=ps,assign:=tT,body,defers:=KB } ∧
   (Instr.enterLoop fn a.tmps ps tT body (FW rd).round).run P w=.ok (l,mark) W1∧W1.heap[l]? = some (.loop rec)∧w.heap.size≤l∧w.heap.size≤W1.heap.size∧(∀b,b<w.heap.size→W1.heap[b]? = w.heap[b]?)∧W1.os=w.os∧TL W1 w∧W1.output=w.output ∧
   (mark=[]∨(rd=none∧∃dd,mark=[{ target:=.collected dd,args:=#[] }]∧W1.heap[dd]? = some (.deferred (some []))∧w.heap.size≤dd∧dd≠l)):=zF hr hrd fn
 have Tl:l<W1.heap.size:=(A0h.1 UO).1
 have PY:¬ρ.an l:=fun hf=>by have:=CH l hf;omega
 obtain⟨dg,Yh,XN⟩:=SV.toE_rd hg (uF (a:=a) hr g)
 rw[hx] at Yh
 cases Yh
 generalize hvg:a.eval g=vg at XN
 cases XN with
 | @fn _ uv cv _ _ Bp Nr G1 Np=>
 obtain⟨fn0,Ki,hnm,I8⟩:=rq kB
 obtain⟨S1,jF⟩:∃S1:Sets,S1=ρ.S.under fun l'=>if l'=l then some rec else ρ.S.hold l':=⟨_,rfl⟩
 have jv:ρ.S.KY S1:=by rw[jF];exact ρ.S.jU _
 have hmem:∀b o,S1 b o↔ρ.S b o:=by intro b o;rw[jF];exact Iff.rfl
 have hk1:∀(T:Sets),(∀b o,T b o→b<w.heap.size)→bp T w W1:=fun T hT b o hs=>World.cell?_of_block (a:=⟨b,o,none⟩) (tt b (hT b o hs))
 have adV:∀l' mF,ρ.S.hold l'=some mF→l'≠l:=fun l' mF h e=>by
  have:=(A0h.1 (dF l' mF h).1).1
  omega
 have hto:∀{v:Value} {d:D},aZ w ρ.S v d→aZ W1 S1 v d:=fun h=>(h.keep (hk1 _ hr.cells) (Sets.le_refl _)).LR jv fun l' r' hl'=>by
  rw[jF]
  simp only[Sets.under]
  rw[if_neg (adV l' r' hl')]
  exact hl'
 have J6:ck W1 S1 ρ.an bs:=hst.to jv (fun b o h=>(hmem b o).1 h) (fun b hb=>tt b (CH b hb)) fun v d i x hi hp h=>hto h
 have G_:oT W1 S1 ρ.an:=by
  intro l' mF hl'
  rw[jF] at hl'
  simp only[Sets.under] at hl'
  split at hl'
  ·rename_i e
   cases hl'
   subst e
   exact⟨UO,PY⟩
  ·obtain⟨g1,g2⟩:=dF l' mF hl'
   exact⟨(tt l' (A0h.1 g1).1).trans g1,g2⟩
 have rO:aZ W1 S1 (.func (.yield l) #[] #[]) (.yl l rec ((bU 0 σ.tmps).map (·.1)) cU):=by
  refine .yl (by rw[jF];simp[Sets.under]) fun i s d hi hd=>?_
  simp only[A0v,A0b] at hi
  obtain⟨⟨s',x⟩,hi,rfl⟩:=hi
  obtain⟨_,b,hb⟩:=mL hi
  obtain⟨d',dY,hx'⟩:=kC (i:=i) (x:=x) za (by simp[hi])
  rw[hd] at dY
  cases dY
  have h0:=hr.tmps s'
  simp only[Nat.sub_zero] at hb
  rw[af.eH,A0i,hb] at h0
  obtain⟨d'',h1,h2,_⟩:=cu.gj (x:=x) (s:=b) h0
  rw[h1] at hx'
  cases hx'
  rw[fH]
  exact hto h2
 have hfs:=hspec l rec fun me ds gA g1 g2 g3 g4=>by
  rw[fH]
  exact As hr hl hro Hh hbody za hnc g1 g2 g3 g4
 refine⟨l,mark,W1,{ target:=.fn (.func f) cv,args:=uv++#[.func (.yield l) #[] #[]] },W1,f,uv++#[.func (.yield l) #[] #[]]++cv,W1,hent,?_,fun _ _=>trivial,?_,fun e=>(by cases e),C0.2 ?_⟩
 ·simp only[resolve,hvg,Deferred.ofValue]
  simp[Act.eval]
 ·simp only[invoke,callFunc,run_program,A0k,A0n,A0e,Ki,hnm,I8,B0f,if_false]
 refine(hfs W1 S1 ρ.an bs _ rfl J6 G_ (fun b hb=>A0s (CH b hb) hsz) (fun b o hs=>A0s (hr.cells b o ((hmem b o).1 hs)) hsz) (by simp[Bp,Nr];omega) (fun i v x hv hx'=>NG (us:=uv.toList) (vs:=[Value.func (.yield l) #[] #[]]) (ws:=cv.toList) (R:=fun v x=>aZ W1 S1 v x) (by simpa using Bp) rfl (fun i u x hu hx=>hto (G1 i u x (by simpa using hu) hx)) (fun i u x hu hx=>by
  cases i with
  | zero=>simp at hu hx;subst hu hx;exact rO
  | succ i=>simp at hu) (fun i u x hu hx=>hto (Np i u x (by simpa using hu) hx)) i v x (by rw[←Array.getElem?_toList] at hv;simpa using hv) hx')).mono ?_
 rintro e W2 ⟨v,S',bf,bs',⟨rfl,_⟩,rfl,cL,hk,hS,hos,Ey,hout,Ta,oY,hf',Bs,CL⟩
 have hn2:aT bs'=true:=by simpa[D.dG] using hn'
 have pg:W2.heap[l]? = some (.loop rec):=(oY l Tl PY).trans UO
 have hend:=run_endLoop (P:=P) pg (by rw[fH];simp)
 have M1:rec.pending=none:=by rw[fH]
 obtain⟨W3,OU⟩:∃W3,W3=W2.putObj l (.loop { rec with state:=.exhausted }):=⟨_,rfl⟩
 rw[←OU] at hend
 rw[M1] at hend
 refine⟨none,W3,hend,?_⟩
 have Tq:∀(T:Sets),bp T W2 (W2.putObj l (.loop { rec with state:=.exhausted })):=fun T=>bp.putObj pg _
 have PW:∀b,b≠l→(W2.putObj l (.loop { rec with state:=.exhausted })).heap[b]? = W2.heap[b]?:=fun b hb=>World.putObj_heap_other hb
 have Df:(W2.putObj l (.loop { rec with state:=.exhausted })).heap.size=W2.heap.size:=World.putObj_size
 have Rp:(W2.putObj l (.loop { rec with state:=.exhausted })).os=W2.os∧TL (W2.putObj l (.loop { rec with state:=.exhausted })) W2∧(W2.putObj l (.loop { rec with state:=.exhausted })).output=W2.output:=⟨rfl,⟨rfl,A0m _⟩,rfl⟩
 rw[←OU] at Df Rp
 replace Tq:∀(T:Sets),bp T W2 W3:=fun T=>OU ▸ Tq T
 replace PW:∀b,b≠l→W3.heap[b]? = W2.heap[b]?:=fun b hb=>OU ▸ PW b hb
 have Kb:∀b,bf b→b≠l:=fun b hb e=>by
  rcases(hf' b hb).1 with g | g
  ·exact PY (e ▸ g)
  ·omega
 have MS:ck W3 (S'.under ρ.S.hold) bf bs':=cL.to (S'.jU _) (fun _ _ h=>h) (fun b hb=>PW b (Kb b hb)) fun v d i x hi hp h=>(h.keep (Tq _) (Sets.le_refl _)).like (S'.jU _) (Bd hn2 hi hp)
 have iX:jG σ (.sym env.length)=σ.setObj aO (some (.store cf (.sym env.length))):=by unfold jG;rw[nK]
 have uV:∀o y,o≠aO→(σ.setObj aO (some (.store cf (.sym env.length)))).obj o=some y→σ.obj o=some y:=fun o y ho hy=>by rwa [af.dQ (.inl rfl),if_neg ho] at hy
 have aG:=(hr.env (prefix_append env [.st bs'])).eI (w':=W3) (x':=.sym env.length) (S':=S'.under ρ.S.hold) bW hro (by simp[E.eval]) MS (fun b o hs=>by
   rw[Tq ρ.S b o hs,hk b o ((hmem b o).2 hs)]
   exact hk1 ρ.S hr.cells b o hs) ⟨fun b o hs=>hS.mem b o ((hmem b o).2 hs),by rw[jv.n];exact hS.n,fun i hi=>(hS.loc i (by rw[←jv.n];exact hi)).trans (jv.loc i),fun i hi=>(hS.cap i (by rw[←jv.n];exact hi)).trans (jv.cap i),rfl,fun i hi=>(hS.jt i (by rw[←jv.n];exact hi)).trans (jv.jt i)⟩
  (Rp.1.trans (hos.trans FG)) (Rp.2.1.trans (Ey.trans PN)) (Rp.2.2.trans (hout.trans Ap)) (by rw[Df];exact B0e hsz Ta) (fun b hb hnb=>by
   rw[PW b (by omega),oY b (A0s hb hsz) hnb,tt b hb]) (fun b hb=>by
   obtain⟨g1,g2⟩:=hf' b hb
   refine⟨g1.imp_right fun h=>B0e hsz h,by rw[Df];exact g2⟩) (fun b o hs=>by
   rcases Bs b o hs with g | g | g
   ·exact .inl ((hmem b o).1 g)
   ·exact .inr (.inl g)
   ·exact .inr (.inr (B0e hsz g))) (fun b o hs=>by rw[Df];exact CL b o hs)
 obtain⟨Ik,X1',zk,EB⟩:=A8 hr hro nK hB dP aG (EG.imp id fun⟨MY,dd,e,Yx,Yw,Yv⟩=>by
  have TK:dd<W1.heap.size:=(A0h.1 Yx).1
  have EF:¬ρ.an dd:=fun hf=>by have:=CH dd hf;omega
  exact⟨MY,dd,e,by rw[PW dd Yv,oY dd TK EF];exact Yx,Yw,fun hf=>by
   rcases(hf' dd hf).1 with g | g
   ·exact EF g
   ·omega⟩)
 exact hQ Ik X1' _ W3 _ zk EB

theorem DE {B:World→gB→Prop} {N:Nat} {rd:Option Nat} {nd:Nat} {g:Operand} {ps:Array Tmp} {dp:Nat} {q:Option Nat} {tT body:Code} {tb:T} {σ:af} {cf:bV} {xg hE:E} {env:List D} {a:Act} {w:World} {ρ:cr} {Q:Exit→Act→World→Prop}
  (hr:bE w0 X w a σ env ρ) (hl:lz N σ) (hro:cf.ro=false) (nK:σ.hs=some (.store cf hE)) (hB:B w0 X) (hg:(σ.uG g).toE=some xg)
  (hrd:∀l,rd=some l→∃r0,w0.heap[l]? = some (.loop r0)∧¬X.may l∧¬X.an l) (dP:rd≠none∨∀w1 X1 w2 X2,B w1 X1→Ext w1 X1 w2 X2→B w2 X2)
  (Hh:∀(l:Nat) (w1:World) (X1:gB) (σ1:af) (fw:List D) (Q:eV→Prop) (a1:Act) (w2:World) (ρ1:cr),(∃r0,w1.heap[l]? = some (.loop r0)∧¬X1.may l∧¬X1.an l)→σ1=dB σ cf env.length ps.toList→fw.length=env.length+1+ps.size→den P tb fw Q→bE w1 X1 w2 a1 σ1 fw ρ1→lz N σ1→tT.wpIn (FW (some l)) 0 P (Post P (fun w X=>w=w1∧X=X1) N (fun _ _ _=>False) fw (dp+2) [] (fun Jf u' σ'=>compile P (jr q) body Jf u' σ' (j7 dp (env.length+1+ps.size) σ cf q) (fG dp)) Q) a1 w2)
  (hbody:∀(l:Nat) (w1:World) (X1:gB) (σ1:af) (fw:List D) (t1:T) (b:Bool) (gA:D) (a1:Act) (w2:World) (ρ1:cr),(∃r0,w1.heap[l]? = some (.loop r0)∧¬X1.may l∧¬X1.an l)→compile P (jr q) body (dp+2) fw.length σ1 (j7 dp (env.length+1+ps.size) σ cf q) (fG dp)=some t1→env.length+1+ps.size≤fw.length→den P t1 fw (fun s=>s=xL dp q b gA)→bE w1 X1 w2 a1 σ1 fw ρ1→lz N σ1→body.wpIn (FW (some l)) 0 P (OA w1 X1 q b gA) a1 w2)
  {f:FuncId} {us cs cU bs bs':List D} {d:D} {stop:Bool} (hx:xg.eval env=some (.fn f us cs)) (kB:bu P f=true) (hh:hE.eval env=some (.st bs)) (za:aq env ((bU 0 σ.tmps).map (·.2))=some cU) (No:bs'[bs.length]? = some (.aM []))
  (hspec:∀(rec:Loop×Code),(∀ew ds b gi,ew[bs.length]? = some (.mO false)→ds.length=ps.size→gi[bs.length]? = some (.aM [])→den P tb (env++[.st (ew.set bs.length (.aM []))]++ds) (fun s=>s=xL dp q b (.st gi))→sk P (.uc bs.length rec ((bU 0 σ.tmps).map (·.1)) cU) (.st ew) ds b (.st (gi.set bs.length (.mO !b)))) →
    bt P f (.st (bs++[.mO false])) (us++[.uc bs.length rec ((bU 0 σ.tmps).map (·.1)) cU]++cs) d (.st (bs'.set bs.length (.mO stop))))
  (hQ:∀(w1:World) (X1:gB) (a':Act) (w':World) (ρ':cr),B w1 X1→bE w1 X1 w' a' (jG σ (.sym env.length)) (env++[.st bs']) ρ'→if stop then(qR q).wpIn (FW rd) nd P Q a' w' else Q .normal a' w'):(Code.rangeFunc g ps tT body).wpIn (FW rd) nd P Q a w:=by
 have bW:σ.obj aO=some (.store cf hE):=by rw[af.cK,if_pos rfl];exact nK
 obtain⟨nF,lY,hst,_⟩:=hr.cn _ _ bW
 rw[hh] at lY
 cases lY
 have CH:∀b,ρ.an b→b<w.heap.size:=eC hr bW
 have dF:=hr.ju bW
 refine wpIn_rangeFunc fun fn _=>?_
 obtain⟨l,mark,W1,rec,KB,fH,hent,UO,hle,hsz,tt,FG,PN,Ap,EG⟩:∃(l:Nat) (mark:List Deferred) (W1:World) (rec:Loop) (KB:Nat),rec={ state:=.ready,pending:=none,fn,tmps:=a.tmps,params:=ps,assign:=tT,body,defers:=KB } ∧
   (Instr.enterLoop fn a.tmps ps tT body (FW rd).round).run P w=.ok (l,mark) W1∧W1.heap[l]? = some (.loop rec)∧w.heap.size≤l∧w.heap.size≤W1.heap.size∧(∀b,b<w.heap.size→W1.heap[b]? = w.heap[b]?)∧W1.os=w.os∧TL W1 w∧W1.output=w.output ∧
   (mark=[]∨(rd=none∧∃dd,mark=[{ target:=.collected dd,args:=#[] }]∧W1.heap[dd]? = some (.deferred (some []))∧w.heap.size≤dd∧dd≠l)):=zF hr hrd fn
 have Tl:l<W1.heap.size:=(A0h.1 UO).1
 have PY:¬ρ.an l:=fun hf=>by have:=CH l hf;omega
 obtain⟨dg,Yh,XN⟩:=SV.toE_rd hg (uF (a:=a) hr g)
 rw[hx] at Yh
 cases Yh
 generalize hvg:a.eval g=vg at XN
 cases XN with
 | @fn _ uv cv _ _ Bp Nr G1 Np=>
 obtain⟨fn0,Ki,hnm,I8⟩:=rq kB
 obtain⟨S1,jF⟩:∃S1:Sets,S1=ρ.S.more l 0 (rec,qR q):=⟨_,rfl⟩
 have X5:ρ.S≤S1:=jF ▸ ρ.S.qx l 0 _
 have hn:ρ.S.n=bs.length:=hst.n
 have hk1:∀(T:Sets),(∀b o,T b o→b<w.heap.size)→bp T w W1:=fun T hT b o hs=>World.cell?_of_block (a:=⟨b,o,none⟩) (tt b (hT b o hs))
 have hto:∀{v:Value} {d:D},aZ w ρ.S v d→aZ W1 S1 v d:=fun h=>h.keep (hk1 _ hr.cells) X5
 have Hi:∀b o,S1 b o↔ρ.S b o:=by intro b o;rw[jF];exact Iff.rfl
 have Rx:S1.loc bs.length=l:=by rw[jF,←hn];simp[Sets.more]
 have XX:S1.jt bs.length=(rec,qR q):=by rw[jF,←hn];simp[Sets.more]
 have Tk:bs.length<S1.n:=by rw[jF,←hn];simp[Sets.more]
 have J6:ck W1 S1 (fun b=>ρ.an b∨b=l) (bs++[.mO false]):=by
  rw[jF]
  refine nR hst (hk1 _ hr.cells) rfl (fun i x hi hx=>?_) (fun _=>Iff.rfl) (fun e sz cs hz=>by cases hz) (fun bH hz=>by cases hz) (fun off hs=>?_) fun _=>?_
  ·have:=CH _ (hst.gF hi hx)
   exact⟨hi,by omega,tt _ this⟩
  ·have:=hr.cells _ off hs;omega
  ·rw[UO]
   simp[qm,Sets.more]
 have G_:oT W1 S1 (fun b=>ρ.an b∨b=l):=by
  intro l' mF hl'
  rw[jF] at hl'
  obtain⟨g1,g2⟩:=dF l' mF hl'
  have hlt:=(A0h.1 g1).1
  exact⟨(tt l' hlt).trans g1,fun h=>h.elim g2 fun e=>by omega⟩
 have rO:aZ W1 S1 (.func (.yield l) #[] #[]) (.uc bs.length (rec,qR q) ((bU 0 σ.tmps).map (·.1)) cU):=by
  rw[←Rx]
  refine .uc Tk XX fun i s d hi hd=>?_
  simp only[A0v,A0b] at hi
  obtain⟨⟨s',x⟩,hi,rfl⟩:=hi
  obtain⟨_,b,hb⟩:=mL hi
  obtain⟨d',dY,hx'⟩:=kC (i:=i) (x:=x) za (by simp[hi])
  rw[hd] at dY
  cases dY
  have h0:=hr.tmps s'
  simp only[Nat.sub_zero] at hb
  rw[af.eH,A0i,hb] at h0
  obtain⟨d'',h1,h2,_⟩:=cu.gj (x:=x) (s:=b) h0
  rw[h1] at hx'
  cases hx'
  rw[fH]
  exact hto h2
 have hfs:=hspec (rec,qR q) fun ew ds b gi g1 g2 g3 g4=>by
  rw[fH]
  exact xj hr hl Hh hbody za g1 g2 g3 g4
 have Yb:∀b,(ρ.an b∨b=l)→b<W1.heap.size:=fun b hb=>hb.elim (fun h=>A0s (CH b h) hsz) fun e=>e ▸ Tl
 refine⟨l,mark,W1,{ target:=.fn (.func f) cv,args:=uv++#[.func (.yield l) #[] #[]] },W1,f,uv++#[.func (.yield l) #[] #[]]++cv,W1,hent,?_,fun _ _=>trivial,?_,fun e=>(by cases e),C0.2 ?_⟩
 ·simp only[resolve,hvg,Deferred.ofValue]
  simp[Act.eval]
 ·simp only[invoke,callFunc,run_program,A0k,A0n,A0e,Ki,hnm,I8,B0f,if_false]
 refine(hfs W1 S1 _ _ _ rfl J6 G_ Yb (fun b o hs=>A0s (hr.cells b o ((Hi b o).1 hs)) hsz) (by simp[Bp,Nr];omega) (fun i v x hv hx'=>NG (us:=uv.toList) (vs:=[Value.func (.yield l) #[] #[]]) (ws:=cv.toList) (R:=fun v x=>aZ W1 S1 v x) (by simpa using Bp) rfl (fun i u x hu hx=>hto (G1 i u x (by simpa using hu) hx)) (fun i u x hu hx=>by
  cases i with
  | zero=>simp at hu hx;subst hu hx;exact rO
  | succ i=>simp at hu) (fun i u x hu hx=>hto (Np i u x (by simpa using hu) hx)) i v x (by rw[←Array.getElem?_toList] at hv;simpa using hv) hx')).mono ?_
 rintro e W2 ⟨v,S',bf,gi,⟨rfl,_⟩,aem,cL,hk,hS,hos,Ey,hout,Ta,oY,hf',Bs,CL⟩
 cases aem
 have XY:(bs'.set bs.length (.mO stop))[bs.length]? = some (.mO stop):=by
  rw[A0x,if_pos rfl,if_pos (A0a.1 No).1]
 have oW:S'.loc bs.length=l:=(hS.loc _ Tk).trans Rx
 obtain⟨_,pg,Ka⟩:=cL.pV _ _ XY rfl
 simp only[qm,(hS.jt _ Tk).trans XX,oW] at pg
 rw[oW] at Ka
 obtain⟨r2,CF⟩:∃r2:Loop,r2=(bif stop then { rec with state:=.done,pending:=some (qR q) } else rec):=⟨_,rfl⟩
 rw[←CF] at pg
 have hend:=run_endLoop (P:=P) pg (by rw[CF,fH];cases stop <;> simp)
 have M1:r2.pending=if stop then some (qR q) else none:=by rw[CF,fH];cases stop <;> rfl
 obtain⟨W3,OU⟩:∃W3,W3=W2.putObj l (.loop { r2 with state:=.exhausted }):=⟨_,rfl⟩
 rw[←OU] at hend
 rw[M1] at hend
 refine⟨_,W3,hend,?_⟩
 have Tq:∀(T:Sets),bp T W2 W3:=fun T=>OU ▸ bp.putObj pg _
 have PW:∀b,b≠l→W3.heap[b]? = W2.heap[b]?:=fun b hb=>OU ▸ World.putObj_heap_other hb
 have Df:W3.heap.size=W2.heap.size:=OU ▸ World.putObj_size
 have Rp:W3.os=W2.os∧TL W3 W2∧W3.output=W2.output:=by rw[OU];exact⟨rfl,⟨rfl,A0m _⟩,rfl⟩
 have XI:=cL.drop XY rfl
 rw[List.set_set,oW,show bs'.set bs.length (.aM [])=bs' from by
  apply List.ext_getElem?
  intro j
  rw[A0x]
  split
  ·rename_i e;subst e;rw[if_pos (A0a.1 No).1,No]
  ·rfl] at XI
 have MS:ck W3 S' (fun b=>bf b∧b≠l) bs':=XI.to ⟨fun _ _ h=>h,rfl,fun _=>rfl,fun _=>rfl,fun _=>rfl⟩ (fun _ _ h=>h) (fun b hb=>PW b hb.2) fun v d i x hi hp h=>h.keep (Tq _) (Sets.le_refl _)
 have aG:=(hr.env (prefix_append env [.st bs'])).eI (w':=W3) (x':=.sym env.length) (S':=S') bW hro (by simp[E.eval]) MS (fun b o hs=>by
   rw[Tq ρ.S b o hs,hk b o ((Hi b o).2 hs)]
   exact hk1 ρ.S hr.cells b o hs) (Sets.le_trans X5 hS)
  (Rp.1.trans (hos.trans FG)) (Rp.2.1.trans (Ey.trans PN)) (Rp.2.2.trans (hout.trans Ap)) (by rw[Df];exact B0e hsz Ta) (fun b hb hnb=>by
   have Ym:b≠l:=by omega
   rw[PW b Ym,oY b (A0s hb hsz) (fun h=>h.elim hnb Ym),tt b hb]) (fun b hb=>by
   obtain⟨g1,g2⟩:=hf' b hb.1
   refine⟨?_,by rw[Df];exact g2⟩
   rcases g1 with(g1 | g1) | g1
   ·exact .inl g1
   ·exact absurd g1 hb.2
   ·exact .inr (B0e hsz g1)) (fun b o hs=>by
   rcases Bs b o hs with g | (g | g) | g
   ·exact .inl ((Hi b o).1 g)
   ·exact .inr (.inl g)
   ·exact absurd (g ▸ hs) (Ka o)
   ·exact .inr (.inr (B0e hsz g))) (fun b o hs=>by rw[Df];exact CL b o hs)
 obtain⟨Ik,X1',zk,EB⟩:=A8 hr hro nK hB dP aG (EG.imp id fun⟨MY,dd,e,Yx,Yw,Yv⟩=>by
  have TK:dd<W1.heap.size:=(A0h.1 Yx).1
  have EF:¬ρ.an dd:=fun hf=>by have:=CH dd hf;omega
  exact⟨MY,dd,e,by rw[PW dd Yv,oY dd TK (fun h=>h.elim EF Yv)];exact Yx,Yw,fun hf=>by
   rcases(hf' dd hf.1).1 with(g | g) | g
   ·exact EF g
   ·exact Yv g
   ·omega⟩)
 have:=hQ Ik X1' _ W3 _ zk EB
 cases stop
 ·exact this
 ·exact this

def xb (rd:Option Nat)(c:Code)(B:World→gB→Prop):Prop:=fJ c=true∨rd≠none∨∀w1 X1 w2 X2,B w1 X1→Ext w1 X1 w2 X2→B w2 X2

theorem xb.sub {rd:Option Nat}{c c':Code}{B:World→gB→Prop}(h:xb rd c B)(hc:fJ c=true→fJ c'=true):xb rd c' B:=h.imp_left hc

theorem sQ {σ:af}{x:Option T}{t:T}(h:wL σ x=some t):x=some t∨t=F0:=by
 unfold wL at h
 split at h
 ·cases h;exact .inl rfl
 ·split at h
  ·cases h;exact .inr rfl
  ·cases h

theorem A3 (P:Program){env:List D}{Q:eV→Prop}:¬den P F0 env Q:=by
 rintro⟨d,h,_⟩
 simp[E.eval,D.deref] at h

theorem j_ {N:Nat} :
  ∀(c:Code) {B:World→gB→Prop} {fL:World→Act→D→Prop} {rv:af→Option E} {rd:Option Nat} {nd:Nat},(∀w1 X1,B w1 X1→∀σ x,rv σ=some x→∀env ρ a w d,bE w1 X1 w a σ env ρ→x.eval env=some d→fL w a d) →
   (∀l,rd=some l→∀w1 X1,B w1 X1→∃r0,w1.heap[l]? = some (.loop r0)∧¬X1.may l∧¬X1.an l)→xb rd c B→∀(dp:Nat) (σ:af) (ex:List (Nat×Ex)) (k:Fy) (t:T) (env:List D),compile P rv c dp env.length σ ex k=some t→∀(Q:eV→Prop) (a:Act) (w w0:World) (X:gB) (ρ:cr),B w0 X→den P t env Q→bE w0 X w a σ env ρ→lz N σ →
   (∀id e,iZ ex id=some e→e.lab<dp∧e.base≤env.length)→c.wpIn (FW rd) nd P (Post P B N fL env dp ex k Q) a w:=by
 intro c
 induction c with
 | skip=>
  intro B fL rv rd nd kE hrd dP dp σ ex k t env hc Q a w w0 X ρ hB hd hr hl hex
  exact wpIn_skip ⟨w0,X,env,σ,ρ,t,hB,List.prefix_refl _,hc,hd,hr,hl⟩
 | label l=>
  intro B fL rv rd nd kE hrd dP dp σ ex k t env hc Q a w w0 X ρ hB hd hr hl hex
  exact wpIn_label ⟨w0,X,env,σ,ρ,t,hB,List.prefix_refl _,hc,hd,hr,hl⟩
 | region id ops draw=>
  intro B fL rv rd nd kE hrd dP dp σ ex k t env hc Q a w w0 X ρ hB hd hr hl hex
  simp only[compile,jy] at hc
  replace hc:=sQ hc
  rcases hc with hc | rfl
  case inr=>exact absurd hd (A3 P)
  obtain⟨ρ,hr⟩:=hr.tG id
  have hfl:=Ks id σ
  exact Av hc hd hr (hfl.1.trans hl.1) (hfl.2.trans hl.2) (fun w a σ env' ρ v d bs hr' hrd hst uf hq=>⟨w0,X,σ,env',ρ,v,d,bs,hB,rfl,hr',hrd,hst,uf,hq⟩) fun σ' env' t' a' w' ρ' hpre hk dY hr' e1 e2=>⟨w0,X,env',σ',ρ',t',hB,hpre,by first | exact hk | rwa [jy] at hk,dY,hr',e1,e2⟩
 | seq x y IX K1=>
  intro B fL rv rd nd kE hrd dP dp σ ex k t env hc Q a w w0 X ρ hB hd hr hl hex
  simp only[compile,jy] at hc
  refine wpIn_seq (wpIn_mono (IX kE hrd (dP.sub fun h=>by simp only[fJ,A0g] at h;exact h.1) dp σ ex _ t env hc Q a w w0 X ρ hB hd hr hl hex) fun e a1 w1 h=>?_)
  cases e with
  | normal=>
   obtain⟨Ik,X1,env',σ',ρ',t',zk,hpre,hk,dY,hr',hl'⟩:=h
   refine wpIn_mono (K1 kE hrd (dP.sub fun h=>by simp only[fJ,A0g] at h;exact h.2) dp σ' ex k t' env' hk Q a1 w1 Ik X1 ρ' zk dY hr' hl' fun id e he=>⟨(hex id e he).1,B0e (hex id e he).2 (List.IsPrefix.length_le hpre)⟩) fun e a2 w2 h2=>?_
   cases e with
   | normal=>
    obtain⟨w2',X2,aW,σ2,ρ2,t2,hB2,XQ,h3⟩:=h2
    exact⟨w2',X2,aW,σ2,ρ2,t2,hB2,hpre.trans XQ,h3⟩
   | exit id=>
    obtain⟨w2',X2,e,ds,ρ2,hB2,he,hQ,aG,hlen⟩:=h2
    exact⟨w2',X2,e,ds,ρ2,hB2,he,hQ,by rw[←take_prefix hpre (hex id e he).2];exact aG,hlen⟩
   | _=>exact h2
  | _=>exact h
 | cond c x y IX K1=>
  intro B fL rv rd nd kE hrd dP dp σ ex k t env hc Q a w w0 X ρ hB hd hr hl hex
  simp only[compile,jy,A0c] at hc
  obtain⟨cx,hcx,hc⟩:=hc
  obtain⟨dc,hdc,hrc⟩:=SV.toE_rd hcx (uF hr c)
  split at hc
  ·simp only[A0c] at hc
   obtain⟨ra,_,rb,_,hc⟩:=hc
   obtain⟨tb0,tr,adD,PL,rfl⟩:=vI hc
   obtain⟨ta,tb,XH,htb,rfl⟩:=yS adD
   obtain⟨v,hv,h1,h2⟩:=hd
   rw[hdc] at hv
   cases hv
   have qB:=hrc.v_eq
   refine wpIn_cond_split qB (fun e=>?_) fun e=>?_
   ·exact wpIn_mono (IX kE hrd (dP.sub fun h=>by simp only[fJ,A0g] at h;exact h.1) (dp+1) σ ex _ ta env XH _ a w w0 X ρ hB (h1 e) hr hl fun id e he=>⟨Nat.lt_succ_of_lt (hex id e he).1,(hex id e he).2⟩) fun e a' w' h=>Post.join PL (fun id e he=>(hex id e he).1) h
   ·exact wpIn_mono (K1 kE hrd (dP.sub fun h=>by simp only[fJ,A0g] at h;exact h.2) (dp+1) σ ex _ tb env htb _ a w w0 X ρ hB (h2 e) hr hl fun id e he=>⟨Nat.lt_succ_of_lt (hex id e he).1,(hex id e he).2⟩) fun e a' w' h=>Post.join PL (fun id e he=>(hex id e he).1) h
  ·obtain⟨ta,tb,XH,htb,rfl⟩:=yS hc
   obtain⟨v,hv,h1,h2⟩:=hd
   rw[hdc] at hv
   cases hv
   have qB:=hrc.v_eq
   exact wpIn_cond_split qB (fun e=>IX kE hrd (dP.sub fun h=>by simp only[fJ,A0g] at h;exact h.1) dp σ ex k ta env XH Q a w w0 X ρ hB (h1 e) hr hl hex) fun e=>K1 kE hrd (dP.sub fun h=>by simp only[fJ,A0g] at h;exact h.2) dp σ ex k tb env htb Q a w w0 X ρ hB (h2 e) hr hl hex
 | block id body ih=>
  intro B fL rv rd nd kE hrd dP dp σ ex k t env hc Q a w w0 X ρ hB hd hr hl hex
  simp only[compile,jy,A0c] at hc
  obtain⟨r,_,hc⟩:=hc
  split at hc
  ·refine wpIn_block (wpIn_mono (ih kE hrd (dP.sub fun h=>h) dp σ _ _ t env hc Q a w w0 X ρ hB hd hr hl fun id' e he=>hex id' e (mw he).2) fun e a' w' h=>?_)
   cases e with
   | normal=>obtain⟨_,_,_,_,_,_,_,_,h1,_⟩:=h;cases h1
   | exit id'=>
    obtain⟨Ik,X1,e,ds,ρ',zk,he,h2⟩:=h
    obtain⟨h3,h4⟩:=mw he
    simp only[Exit.inBlock]
    rw[if_neg h3]
    exact⟨Ik,X1,e,ds,ρ',zk,h4,h2⟩
   | ret=>exact h
   | goto l=>exact h
   | panic c=>exact h
   | outgrown=>exact h
  ·obtain⟨tb,tr,htb,PL,rfl⟩:=vI hc
   refine wpIn_block (wpIn_mono (ih kE hrd (dP.sub fun h=>h) (dp+1) σ _ _ tb env htb _ a w w0 X ρ hB hd hr hl fun id' e he=>?_) fun e a' w' h=>?_)
   ·simp only[iZ] at he
    split at he
    ·cases he;exact⟨Nat.lt_succ_self _,A0m _⟩
    ·exact⟨Nat.lt_succ_of_lt (hex id' e he).1,(hex id' e he).2⟩
   ·cases e with
    | normal=>
     exact Post.join (fL:=fL) (Jf:=dp+1) (e:=.normal) PL (fun id e he=>(hex id e he).1) h
    | exit id'=>
     obtain⟨Ik,X1,e,ds,ρ',zk,he,hQ,aG,hlen⟩:=h
     simp only[iZ] at he
     simp only[Exit.inBlock]
     split at he
     ·rename_i e1
      cases he
      subst e1
      rw[if_pos rfl]
      simp only[cC,if_true] at hQ
      rw[qq] at aG
      exact⟨Ik,X1,env++ds,_,ρ',tr,zk,prefix_append _ _,by rw[A0t,hQ.1];exact PL,hQ.2,aG,hlen⟩
     ·rename_i e1
      rw[if_neg (Ne.symm e1)]
      refine⟨Ik,X1,e,ds,ρ',zk,he,?_,aG,hlen⟩
      simp only[cC] at hQ
      rwa [if_neg (Nat.ne_of_lt (hex id' e he).1)] at hQ
    | ret=>exact h
    | goto l=>exact h
    | panic c=>exact h
    | outgrown=>exact h
 | loop body ih=>
  intro B fL rv rd nd kE hrd dP dp σ ex k t env hc Q a w w0 X ρ hB hd hr hl hex
  simp only[compile,jy,A0c] at hc
  obtain⟨⟨tm,n⟩,_,hc⟩:=hc
  obtain⟨inits,tb,hin,htb,hn,rfl⟩:=D8 hc
  simp only at hin htb hn
  obtain⟨ds,bz,m,hm⟩:=hd
  obtain⟨ρ1,aG,h1,h2⟩:=lO hr (A0m _) hin bz
  rw[jA,qq] at aG
  have S_:lz N tm:=⟨by rw[←h1];exact hl.1,by rw[←h2];exact hl.2⟩
  have key:∀(m:Nat) (ds:List D) (a:Act) (w w0:World) (X:gB) (ρ:cr),B w0 X→rounds dp (fun ds Q=>ds.length=inits.length∧den P tb (env++ds) Q) Q m ds→bE w0 X w a tm (env++ds) ρ→Code.roundsIn (FW rd) nd P body (Post P B N fL env dp ex k Q) m a w:=by
   intro m
   induction m with
   | zero=>intro ds a w w0 X ρ _ hm _;exact hm.elim
   | succ m ihm=>
    intro ds a w w0 X ρ hB hm aG
    obtain⟨eM,eb⟩:=hm
    rw[roundsIn_succ]
    have hlen:(env++ds).length=env.length+n:=by rw[A0t,eM,hn]
    refine wpIn_mono (ih kE hrd (dP.sub fun h=>h) (dp+1) tm ex _ tb (env++ds) (by rw[hlen];exact htb) _ a w w0 X ρ hB eb aG S_ fun id e he=>⟨Nat.lt_succ_of_lt (hex id e he).1,B0e (hex id e he).2 (by simp)⟩) fun e a' w' h=>?_
    cases e with
    | normal=>
     obtain⟨Ik,X1,env',σ',ρ',t',zk,hpre,ht',EJ,jg,hl'⟩:=h
     obtain⟨args,hmt,rfl⟩:=A0b.1 ht'
     obtain⟨ds',kW,hQ⟩:=EJ
     simp only[cC,if_true] at hQ
     have Rr:env <+: env':=(prefix_append env ds).trans hpre
     obtain⟨ρ2,I1,_,_⟩:=lO jg (List.IsPrefix.length_le Rr) hmt kW
     rw[jA,take_prefix Rr (A0m _),qq] at I1
     exact ihm ds' a' w' Ik X1 ρ2 zk hQ I1
    | exit id=>
     obtain⟨Ik,X1,e,ds',ρ',zk,he,hQ,jg,hlen'⟩:=h
     have hb:=(hex id e he)
     refine⟨Ik,X1,e,ds',ρ',zk,he,?_,by rw[←take_prefix (prefix_append env ds) hb.2];exact jg,hlen'⟩
     simp only[cC] at hQ
     rwa [if_neg (Nat.ne_of_lt hb.1)] at hQ
    | ret=>exact h
    | goto l=>exact h
    | panic c=>exact h
    | outgrown=>exact h
  exact wpIn_loop_rounds m (key m ds a w w0 X ρ1 hB hm aG)
 | exit id=>
  intro B fL rv rd nd kE hrd dP dp σ ex k t env hc Q a w w0 X ρ hB hd hr hl hex
  simp only[compile,jy,A0c] at hc
  obtain⟨e,he,hc⟩:=hc
  obtain⟨args,hm,rfl⟩:=A0b.1 hc
  obtain⟨ds,bz,hQ⟩:=hd
  obtain⟨ρ2,aG,h1,h2⟩:=lO hr (hex id e he).2 hm bz
  exact wpIn_exit ⟨w0,X,e,ds,ρ2,hB,he,hQ,aG,by rw[←h1];exact hl.1,by rw[←h2];exact hl.2⟩
 | ret=>
  intro B fL rv rd nd kE hrd dP dp σ ex k t env hc Q a w w0 X ρ hB hd hr hl hex
  simp only[compile,jy] at hc
  obtain⟨x,hx,rfl⟩:=A0b.1 hc
  obtain⟨d,bz,hQ⟩:=hd
  exact wpIn_ret ⟨d,hQ,kE w0 X hB σ x hx env ρ a w d hr bz⟩
 | rangeFunc g ps tT body iha ih=>
  intro B fL rv rd nd kE hrd dP dp σ ex k t env hc Q a w w0 X ρ hB hd hr hl hex
  simp only[compile,jy] at hc
  split at hc
  ·rename_i xg cf hE hg nK
   split at hc
   ·cases hc
   ·rename_i hro
    have hro:cf.ro=false:=by simpa using hro
    split at hc
    ·rename_i q hq
     split at hc
     ·rename_i tb tr tq htb PL XG
      cases hc
      obtain⟨f,us,cs,bs,cU,d,bs',stop,h1,h2,h3,h4,h5,h6,h7,h8⟩:=hd
      have nk:lz N (jG σ (.sym env.length)):=by
       unfold jG
       rw[nK]
       exact⟨by rw[af.aA];exact hl.1,by rw[af.ei];exact hl.2⟩
      refine DE (q:=q) hr hl hro nK hB hg (fun l e=>hrd l e w0 X hB) ((dP.resolve_left (by simp[fJ]))) (fun l w1 X1 σ1 fw Q1 a1 w2 ρ1 g1 g2 g3 g4 g5 g6=>?_) (fun l w1 X1 σ1 fw t1 b gA a1 w2 ρ1 g1 g2 g3 g4 g5 g6=>?_) h1 h2 h3 h4 h5 h6 fun w1 X1 a' w' ρ' zk aG=>?_
      ·refine iha (B:=fun w X=>w=w1∧X=X1) (rv:=fun _=>none) (fL:=fun _ _ _=>False) (rd:=some l) (nd:=0) (fun _ _ _ _ _ h=>by cases h) (fun l' e w3 X3 I_=>by cases e;rw[I_.1,I_.2];exact g1) (.inr (.inl (by simp))) (dp+2) σ1 [] _ tb fw ?_ Q1 a1 w2 w1 X1 ρ1 ⟨rfl,rfl⟩ g4 g5 g6 fun id e he=>by simp[iZ] at he
       rw[g2,g3]
       exact htb
      ·refine wpIn_mono (ih (B:=fun w X=>w=w1∧X=X1) (rv:=jr q) (fL:=fun w' a d=>∃σ env ρ x,bE w1 X1 w' a σ env ρ∧jr q σ=some x∧x.eval env=some d) (rd:=some l) (nd:=0) (fun w3 X3 I_ σ x hx env ρ a w d hr hd=>⟨σ,env,ρ,x,by rw[←I_.1,←I_.2];exact hr,hx,hd⟩) (fun l' e w3 X3 I_=>by cases e;rw[I_.1,I_.2];exact g1) (.inr (.inl (by simp))) (dp+2) σ1 _ _ t1 fw g2 _ a1 w2 w1 X1 ρ1 ⟨rfl,rfl⟩ g4 g5 g6 fun id e he=>?_) fun e a' w' h=>Au g3 h
       cases q with
       | none=>simp[j7,iZ] at he
       | some id'=>
        simp only[j7,iZ] at he
        split at he
        ·cases he;exact⟨by simp,g3⟩
        ·cases he
      ·cases stop with
       | false=>exact⟨w1,X1,env++[.st bs'],_,ρ',tr,zk,prefix_append _ _,by rw[A0t];exact PL,h7 rfl,aG,nk⟩
       | true=>
        cases q with
        | none=>
         obtain⟨x,hx,rfl⟩:=A0b.1 XG
         obtain⟨d',bz,hQ'⟩:=h8 rfl
         exact wpIn_ret ⟨d',hQ',kE w1 X1 zk _ x hx _ ρ' a' w' d' aG bz⟩
        | some id=>
         simp only[A0c] at XG
         obtain⟨e,he,XG⟩:=XG
         obtain⟨args,hm,rfl⟩:=A0b.1 XG
         obtain⟨ds,bz,hQ'⟩:=h8 rfl
         obtain⟨ρ2,I1,k1,k2⟩:=lO aG (B0e (hex id e he).2 (by simp)) hm bz
         exact wpIn_exit ⟨w1,X1,e,ds,ρ2,zk,he,hQ',by rw[←take_prefix (prefix_append env [.st bs']) (hex id e he).2];exact I1,by rw[←k1];exact nk.1,by rw[←k2];exact nk.2⟩
     ·cases hc
    ·split at hc
     ·rename_i tb tr htb PL
      cases hc
      obtain⟨f,us,cs,st,cU,d,cG,h1,h2,h3,h4,h5,h6,h7,h8⟩:=hd
      refine Gc hr hl hro nK hB hg (fun l e=>hrd l e w0 X hB) ((dP.resolve_left (by simp[fJ]))) (fun l w1 X1 σ1 fw Q1 a1 w2 ρ1 g1 g2 g3 g4 g5 g6=>?_) (fun l w1 X1 σ1 fw t1 Q1 a1 w2 ρ1 g1 g2 g4 g5 g6=>?_) h1 h2 h3 h4 h5 h6 h7 fun w1 X1 a' w' ρ' zk aG=>?_
      ·refine iha (B:=fun w X=>w=w1∧X=X1) (rv:=fun _=>none) (fL:=fun _ _ _=>False) (rd:=some l) (nd:=0) (fun _ _ _ _ _ h=>by cases h) (fun l' e w3 X3 I_=>by cases e;rw[I_.1,I_.2];exact g1) (.inr (.inl (by simp))) (dp+1) σ1 [] _ tb fw ?_ Q1 a1 w2 w1 X1 ρ1 ⟨rfl,rfl⟩ g4 g5 g6 fun id e he=>by simp[iZ] at he
       rw[g2,g3]
       exact htb
      ·exact ih (B:=fun w X=>w=w1∧X=X1) (rv:=fun _=>none) (fL:=fun _ _ _=>False) (rd:=some l) (nd:=0) (fun _ _ _ _ _ h=>by cases h) (fun l' e w3 X3 I_=>by cases e;rw[I_.1,I_.2];exact g1) (.inr (.inl (by simp))) (dp+1) σ1 [] _ t1 fw g2 Q1 a1 w2 w1 X1 ρ1 ⟨rfl,rfl⟩ g4 g5 g6 fun id e he=>by simp[iZ] at he
      ·exact⟨w1,X1,env++[cG],_,ρ',tr,zk,prefix_append _ _,by rw[A0t];exact PL,h8,aG,by
        unfold jG
        rw[nK]
        exact⟨by rw[af.aA];exact hl.1,by rw[af.ei];exact hl.2⟩⟩
     ·cases hc
  ·cases hc
 | refuse why=>
  intro B fL rv rd nd kE hrd dP dp σ ex k t env hc Q a w w0 X ρ hB hd
  simp only[compile] at hc
  rcases sQ hc with hc | rfl
  ·cases hc
  ·exact absurd hd (A3 P)
 | _=>
  intro B fL rv rd nd kE hrd dP dp σ ex k t env hc
  simp[compile] at hc

end
end
end Go.Am
