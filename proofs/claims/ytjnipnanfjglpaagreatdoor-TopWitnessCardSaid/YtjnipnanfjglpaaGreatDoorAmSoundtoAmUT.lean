/- Texts. -/
import Derived.Test.YtjnipnanfjglpaaGreatDoorAmDrawtoAmRange
import Derived.Defers
import Derived.Recover
import Derived.ProofKit
import Derived.OpenShut
import Derived.Carry
import Derived.Handed
set_option linter.unusedSimpArgs false
set_option linter.unusedVariables false
namespace Go.Am
section
noncomputable section
section
variable {P:Program} {w0:World} {X:jN}
theorem SV.IN {w:World}{ρ:dD}{env:List D}{v:Value}{sv:SV}(d:Nat)(h:cS w ρ env v sv):cS w ρ env v (sv.ir d):=by
 rw[SV.nJ];split
 ·exact h
 ·exact .cz
theorem aY.SO {w:World}{ρ:dD}{env:List D}{o:Nat}{x:aY}(d:Nat)(h:gP w ρ env o x):gP w ρ env o (x.ir d):=by
 cases x with
 | box cs=>
  obtain⟨vs,ty,h1,h2,h3,h4,h5⟩:=h;refine⟨vs,ty,h1,by simpa using h2,h3,fun i v c hv hc=>?_,h5⟩;simp only[A0w,A0a] at hc;obtain⟨c',rY,rfl⟩:=hc;exact SV.IN d (h4 i v c' hv rY)
 | row y sz=>exact h
 | tok e sz=>exact h
 | store cf x=>exact h
theorem aY.SN (d:Nat)(x:aY):(x.ir d).ro=x.ro:=by cases x <;> rfl
theorem aY.zW (ρ:dD)(o d:Nat)(x:aY):bN ρ o (x.ir d)=bN ρ o x:=by cases x <;> rfl
theorem aF.ir {w:World}{a:Act}{σ:ah}{env:List D}{ρ:dD}(h:aF w0 X w a σ env ρ)(d:Nat):aF w0 X w a (σ.ir d) env ρ:=by
 by_cases hd:d=br
 ·rw[ah.nJ,A0z hd];exact h
 have Z4:(σ.ir d).tmps=σ.tmps.map (SV.ir d):=by rw[ah.nJ,A0B hd]
 have fC:∀o y,(σ.ir d).obj o=some y→∃x,σ.obj o=some x∧y=x.ir d:=by
  intro o y hy;rw[ah.nJ,A0B hd] at hy;simp only[ah.ey] at hy ⊢
  by_cases ho:o=br
  ·rw[A0z ho] at hy ⊢;obtain⟨z,hz,rfl⟩:=A0a.1 hy;exact⟨z,hz,rfl⟩
  rw[A0B ho] at hy ⊢;simp only[A0k,A0N,A0w,B0u] at hy ⊢;split at hy
  ·split at hy <;> simp at hy
  ·cases ho:σ.mem[o]? with
   | none=>rw[ho] at hy;simp at hy
   | some z=>
    rw[ho] at hy;cases z with
    | none=>simp at hy
    | some x=>simp at hy;exact⟨x,rfl,hy.symm⟩
 refine⟨by rw[Z4];simpa using h.size,fun t=>?_,fun o y hy=>?_,?_,?_,h.cells,h.os,h.tape,h.output,h.grown,h.old,h.sub,h.new,h.yo,h.hold⟩
 ·have:=h.tmps t;simp only[ah.gD] at this ⊢;rw[Z4];simp only[A0k,A0w] at this ⊢;cases ht:σ.tmps[t]? with
  | none=>exact .cz
  | some c=>rw[ht] at this;exact SV.IN d this
 ·obtain⟨x,hx,rfl⟩:=fC o y hy;exact aY.SO d (h.cT o x hx)
 ·intro o o' y y' b h1 h2 h3 h4;obtain⟨x,hx,rfl⟩:=fC o y h1;obtain⟨x',fm,rfl⟩:=fC o' y' h2;rw[aY.zW] at h3 h4;exact h.inj o o' x x' b hx fm h3 h4
 ·intro o y b h1 h2;obtain⟨x,hx,rfl⟩:=fC o y h1;rw[aY.zW] at h2;rw[aY.SN];exact h.own o x b hx h2
theorem aF.iA {w:World}{a:Act}{env:List D}{ρ:dD}:∀(ds:List Nat) {σ:ah},aF w0 X w a σ env ρ→aF w0 X w a (iA ds σ) env ρ
 | [],_,h=>h
 | d :: ds,_,h=>aF.iA ds (h.ir d)
theorem wM:∀(ds:List Nat) (σ:ah),(iA ds σ).tmps.length=σ.tmps.length∧(iA ds σ).mem.length=σ.mem.length
 | [],_=>⟨rfl,rfl⟩
 | d :: ds,σ=>by
  have h1:=wM ds (σ.ir d);have h2:(σ.ir d).tmps.length=σ.tmps.length∧(σ.ir d).mem.length=σ.mem.length:=by rw[ah.nJ];split <;> simp
  exact⟨h1.1.trans h2.1,h1.2.trans h2.2⟩
theorem L1 {σ:ah}{ops:Array Oper}(h:ZD σ ops=true):∀(j d:Nat),(ops[j]?).bind (fun(o:Oper)=>o.dst)=some d→d<σ.tmps.length:=by intro j d hj;obtain⟨o,ho,hd⟩:=A0b.1 hj;have:=C0W.1 h o (Array.mem_of_getElem? ho);rw[hd] at this;simpa using this
theorem Km {ops:Array Oper}:∀{l:List Oper} {σ σ':ah} {ix:Nat} {bs:List Bind} {rs:List Rec},zA P ops l σ ix=some (σ',bs,rs)→σ'.tmps.length=σ.tmps.length∧σ'.mem.length=σ.mem.length
 | [],σ,σ',ix,bs,rs,h=>by simp[zA] at h;rw[h.1];exact⟨rfl,rfl⟩
 | o :: l,σ,σ',ix,bs,rs,h=>by
  simp only[zA] at h;split at h
  ·cases h
  ·split at h <;>
   ·obtain⟨⟨τ,bs',yS⟩,h2,h3⟩:=A0a.1 h;cases h3;have h1:=HP σ o.dst (by assumption);have h2:=Km h2;exact⟨h2.1.trans h1.1,h2.2.trans h1.2⟩
theorem nA {ops:Array Oper}{σ σ':ah}{u:Nat}{bs:List Bind}(h:nB P ops σ u=some (σ',bs)):∃R oD xs,zA P ops ops.toList σ u=some (σ',oD,R)∧P.follows .mixedOrders=true∧((o7 ops R σ=true∧extras P ops R σ=some xs)∨Bt P ops R σ (u+oD.length)=some xs)∧bs=oD++xs.map .ev:=by
 unfold nB at h;split at h
 ·rename_i x hx;split at h
  ·rename_i hc;obtain⟨τ,bs',R⟩:=x;obtain⟨xs,h1,h2⟩:=A0a.1 h;cases h2;refine⟨R,bs',xs,hx,hc,?_,rfl⟩;split at h1
   ·rename_i ho;exact .inl ⟨ho,h1⟩
   ·exact .inr h1
  ·cases h
 ·cases h
theorem As {rd:Option Nat} {nd:Nat} {ops:Array Oper} {σ σ':ah} {u:Nat} {bs:List Bind} {a:Act} {w:World} {ρ:dD} {env:List D} {Q:Exit→Act→World→Prop} (h:nB P ops σ u=some (σ',bs)) (hr:aF w0 X w a σ env ρ) (hm:σ.mem.length=σ.tmps.length)
  (bV:∀(j d:Nat),(ops[j]?).bind (fun(o:Oper)=>o.dst)=some d→d<σ.tmps.length) (hb:uz P env u bs) (hu:u+bs.length≤env.length) (hQ:∀a' w' ρ',aF w0 X w' a' σ' env ρ'→Q .normal a' w'):wpAnyIn (FW rd) nd P .any ops Q ops.size (Array.replicate ops.size false) a { w with drawn:=w.drawn+1 }:=by
 obtain⟨R,oD,xs,hd,Yd,gd,rfl⟩:=nA h;have Bq:uz P env u oD:=fun i b hi=>hb i b (by rw[A0g (A0c.1 hi).1];exact hi);obtain⟨h1,h2⟩:=FL (R:=R) (k:=0) hd rfl rfl (B0e _) rfl Bq (by simp at hu;omega);have bX:∀y,y∈xs→∃d,y.eval env=some d:=fun y hy=>by obtain⟨k,hk⟩:=D0b.1 hy;obtain⟨d,fo,_⟩:=hb (oD.length+k) (.ev y) (by rw[A0o (by omega)];simp[hk]);exact⟨d,fo⟩
 have OZ:jd ops (dI (Array.replicate ops.size false)):=by intro k o hk;simp only[dI,A0s,D0o] at hk;split at hk <;> simp at hk
 have lH:dI (Array.replicate ops.size false)=fun _=>false:=by
  funext j
  simp only[dI,A0s,D0o];split <;> rfl
 rcases gd with⟨eE,hex⟩ | hex
 ·refine Lv (w0:=w0) (X:=X) (env:=env) (R:=R) (σ:=σ) eE (fun i o ho=>?_) hm bV (fun a' w' ρ' kg=>hQ a' w' ρ' (by rw[←h1];exact kg)) _ _ _ _ ρ (by simp) OZ (A0J List.countP_le_length (by simp)) ?_
  ·obtain⟨r,f1,f2,f3,f4,f5⟩:=h2 i o (B0e _) ho;obtain⟨ys,g1,g2⟩:=FK hex i (A0l.1 ho).1;exact⟨r,f1,f2,f3,f4,f5,ys,g1,fun y hy=>bX y (g2 y hy)⟩
  ·rw[lH,mq (i:=0) ops.size (B0e _) fun _ _ _=>rfl];exact hr.drew
 ·obtain⟨cf,t,eE,hj,hal⟩:=HB hex;refine Ih (w0:=w0) (X:=X) (env:=env) (R:=R) (σ:=σ) (cf:=cf) (t:=t) eE (fun i o ho=>?_) hj hm bV (fun a' w' ρ' kg=>hQ a' w' ρ' (by rw[←h1];exact kg)) _ _ _ _ ρ (by simp) OZ (A0J List.countP_le_length (by simp)) ?_
  ·obtain⟨r,f1,f2,f3,f4,f5⟩:=h2 i o (B0e _) ho;obtain⟨ys,g1,g2⟩:=hal i (A0l.1 ho).1;exact⟨r,f1,f2,f3,f4,f5,ys,g1,fun y hy=>bX y (g2 y hy)⟩
  ·rw[lH,Sx];exact hr.drew
theorem Ar {ops:Array Oper}{σ σ':ah}{u:Nat}{bs:List Bind}(h:nB P ops σ u=some (σ',bs)):σ'.tmps.length=σ.tmps.length∧σ'.mem.length=σ.mem.length:=by obtain⟨R,oD,xs,hd,_⟩:=nA h;exact Km hd
theorem En {rd:Option Nat} {nd:Nat} {ops:Array Oper} {draw:Bool} {id:Nat} {σ:ah} {t:T} {k:Pw} {a:Act} {w:World} {ρ:dD} {env:List D} {Q:gu→Prop} {Q':Exit→Act→World→Prop} {N:Nat} (h:Gv P ops draw σ env.length k=some t) (fD:den P t env Q) (hr:aF w0 X w a σ env ρ) (h1:σ.tmps.length=N) (h2:σ.mem.length=N)
  (hp:adN w0 X Q Q') (hQ:∀(σ':ah) (env':List D) (t':T) (a':Act) (w':World) (ρ':dD),env <+: env'→k σ' env'.length=some t'→den P t' env' Q→aF w0 X w' a' σ' env' ρ'→σ'.tmps.length=N→σ'.mem.length=N→Q' .normal a' w'):(Code.region id ops draw).wpIn (FW rd) nd P Q' a w:=by
 unfold Gv at h;simp only at h;split at h
 ·cases h
 ·rename_i eE;simp only[B0j,Bool.not_eq_false] at eE;have hl:=wM (sites ops) σ;have bV:=L1 eE;have g1:(iA (sites ops) σ).tmps.length=N:=hl.1.trans h1;have g2:(iA (sites ops) σ).mem.length=N:=hl.2.trans h2;split at h
  ·rename_i hd;rw[show draw=true from by simpa using hd];split at h
   ·rename_i x hx;have hx:=EI hx;obtain⟨t',hk,rfl⟩:=A0a.1 h;obtain⟨ds,fR,fo,jc⟩:=um fD;have hlen:=Ar hx;obtain⟨_,_,_,_,Yd,_⟩:=nA hx;refine wpIn_region_any Yd (As hx ((hr.env (prefix_append env ds)).iA _) (by rw[g1,g2]) bV jc (by simp[fR]) fun a' w' ρ' kg=>?_);exact hQ _ (env++ds) t' a' w' ρ' (prefix_append _ _) (by rw[A0u,fR];exact hk) fo kg (hlen.1.trans g1) (hlen.2.trans g2)
   ·split at h
    ·rename_i Db;split at h
     ·rename_i o x ho hx;split at h
      ·rename_i s hs;split at h
       ·rename_i gB;obtain⟨t',zf,rfl⟩:=A0a.1 h;obtain⟨ds,fR,fo,jc⟩:=um fD;have hlen:=Ar hx;obtain⟨_,_,_,_,Yd,_⟩:=nA hx;refine wpIn_region_any Yd ?_;have anJ:∀(j d:Nat),(ops.pop[j]?).bind (fun(o:Oper)=>o.dst)=some d→d<(iA (sites ops) σ).tmps.length:=fun j d hj=>bV j d (by
         rw[D0Z] at hj;split at hj
         ·exact hj
         ·cases hj)
        have aoI:=As (rd:=rd) (nd:=nd) (Q:=fun e a w=>match e with | .normal=>wpOpIn (FW rd) nd P ops Q' (ops.size-1) (Q' .normal) a w | e=>Q' e a w) hx ((hr.env (prefix_append env ds)).iA _) (by rw[g1,g2]) anJ jc (by simp[fR]) (fun a' w' ρ' kg=>by
         obtain⟨hw,hwp⟩:=E2 (rd:=rd) (nd:=nd) (ops:=ops) (env:=env++ds) hs (tH gB) (vO gB) (by rw[A0u,fR];exact zf) fo kg hp (K:=Q' .normal) fun σ2 bB t2 a2 w2 ρ2 gm hk zj Fz e1 e2=>hQ σ2 bB t2 a2 w2 ρ2 ((prefix_append env ds).trans gm) hk zj Fz (e1.trans (hlen.1.trans g1)) (e2.trans (hlen.2.trans g2));show wpOpIn (FW rd) nd P ops Q' (ops.size-1) (Q' .normal) a' w';unfold wpOpIn;rw[ho];simp only;rw[A0z hw];exact hwp)
        have:=Lu (Q:=Q') Db.1 Db.2 ops.pop.size (Array.replicate ops.pop.size false) a _ (by simp) (by
         intro k ok hk;simp only[dI,A0s,D0o] at hk;split at hk <;> simp at hk) aoI
        have e1:ops.pop.size+1=ops.size:=by simp;omega
        have e2:(Array.replicate ops.pop.size false).push false=Array.replicate ops.size false:=by rw[←e1,Array.replicate_succ]
        rw[e1,e2] at this;exact this
       ·cases h
      ·cases h
     ·cases h
    ·cases h
  ·rename_i hd;rw[show draw=false from by simpa using hd];exact wpIn_region_list (BS hp (fun j d hjd=>by rw[←g1];exact bV j d hjd) h fD (hr.iA _) g1 g2 hQ)
def uD (N:Nat)(σ:ah):Prop:=σ.tmps.length=N∧σ.mem.length=N
def AX (P:Program)(B:World→jN→Prop)(N:Nat)(iv:World→Act→D→Prop)(env:List D)(dp:Nat)(ex:List (Nat×Ex))(k:K8)(Q:gu→Prop):Exit→Act→World→Prop
 | .normal,a',w'=>∃w0 X env' σ' ρ' t',B w0 X∧env <+: env'∧k dp env'.length σ'=some t'∧den P t' env' Q∧aF w0 X w' a' σ' env' ρ'∧uD N σ'
 | .exit id,a',w'=>∃w0 X e ds ρ',B w0 X∧nu ex id=some e∧Q (.jump e.lab ds)∧aF w0 X w' a' e.tm (env.take e.base++ds) ρ'∧uD N e.tm
 | .ret,a',w'=>∃d,Q (.ret d)∧iv w' a' d
 | .panic c,a',w'=>∃w0 X σ env ρ v d bs,B w0 X∧c=[{ v,recovered:=false }]∧aF w0 X w' a' σ env ρ∧bA w' ρ.S v d∧cI w' ρ.S ρ.az bs∧(∃cf x,σ.obj br=some (.store cf x))∧∃kd,oG w' ρ.S a' (jb σ) kd∧Q (.ee d (.st bs) (jb σ) kd)
 | _,_,_=>False
theorem take_prefix {env env':List D}(h:env <+: env'){b:Nat}(hb:b≤env.length):env'.take b=env.take b:=by obtain⟨r,rfl⟩:=h;rw[List.take_append_of_le_length hb]
theorem tS (env:List D):env.take env.length=env:=C0d
theorem aF.sL {w:World}{a:Act}{env:List D}:∀{ps:List (Nat×Nat)} {σ:ah} {ρ:dD},aF w0 X w a σ env ρ→∃ρ',aF w0 X w a (sL ps σ) env ρ'
 | [],_,ρ,h=>⟨ρ,h⟩
 | p :: ps,_,_,h=>by obtain⟨ρ1,h1⟩:=h.iz p.1 p.2;exact aF.sL (ps:=ps) h1
theorem B4:∀(ps:List (Nat×Nat)) (σ:ah),(sL ps σ).tmps.length=σ.tmps.length∧(sL ps σ).mem.length=σ.mem.length
 | [],_=>⟨rfl,rfl⟩
 | p :: ps,σ=>by have h1:=B4 ps (σ.iz p.1 p.2);have h2:=σ.PV p.1 p.2;exact⟨h1.1.trans h2.1,h1.2.trans h2.2⟩
theorem aF.iy {w:World}{a:Act}{σ:ah}{env:List D}{ρ:dD}(h:aF w0 X w a σ env ρ):aF w0 X w a σ.iy env ρ:=by
 refine⟨by simpa[ah.ve] using h.size,fun t=>?_,h.cT,h.inj,h.own,h.cells,h.os,h.tape,h.output,h.grown,h.old,h.sub,h.new,h.yo,h.hold⟩;have:=h.tmps t;simp only[ah.gD] at this ⊢;simp only[ah.ve,A0k,A0w] at this ⊢;cases ht:σ.tmps[t]? with
 | none=>exact .cz
 | some c=>
  rw[ht] at this;simp only[B0l,A0y] at this ⊢;unfold Go.Am.iy;split
  ·split
   ·exact this
   ·obtain⟨es,h1,h2,_⟩:=this.wO;exact .e h1 h2 fun _=>rfl
  ·exact this
theorem Lz (σ:ah):σ.iy.tmps.length=σ.tmps.length∧σ.iy.mem.length=σ.mem.length:=by simp[ah.ve]
theorem rm {w:World}{a:Act}{env:List D}{ρ:dD}{base:Nat}{tm σ:ah}{args:List E}{ds:List D}(h:aF w0 X w a σ env ρ)(hb:base≤env.length)(hm:Cw base tm σ=some args)(hd:aA env args=some ds) :
  ∃ρ',aF w0 X w a tm (lB env base ds) ρ'∧σ.tmps.length=tm.tmps.length∧σ.mem.length=tm.mem.length:=by
 obtain⟨ρ',h'⟩:=h.iy.sL (ps:=wu tm.tmps σ.iy.tmps);obtain⟨h1,h2,h3⟩:=Ma h' hb hm hd;have hl:=B4 (wu tm.tmps σ.iy.tmps) σ.iy;have hu:=Lz σ;exact⟨ρ',h1,hu.1.symm.trans (hl.1.symm.trans h2),hu.2.symm.trans (hl.2.symm.trans h3)⟩
theorem AX.join {B:World→jN→Prop} {N:Nat} {iv:World→Act→D→Prop} {env:List D} {dp dp' n:Nat} {ex:List (Nat×Ex)} {k:K8} {Q:gu→Prop} {tm:ah} {tr:T} (hk:k dp (env.length+n) tm=some tr) (hex:∀id e,nu ex id=some e→e.lab<dp) {e:Exit} {a':Act} {w':World}
  (h:AX P B N iv env dp' ex (CV dp env.length tm) (cU dp (fun ds=>ds.length=n∧den P tr (env++ds) Q) Q) e a' w'):AX P B N iv env dp ex k Q e a' w':=by
 cases e with
 | normal=>
  obtain⟨w0,X,env',σ',ρ',t',hB,gm,zf,fD,bg,hlen⟩:=h;obtain⟨args,hm,rfl⟩:=A0a.1 zf;obtain⟨ds,bX,hQ⟩:=fD;simp only[cU,B0d] at hQ;obtain⟨hdn,hd⟩:=hQ;obtain⟨ρ2,uQ,h1,h2⟩:=rm bg (C0Q gm) hm bX;rw[lB,take_prefix gm (A0m _),tS] at uQ;exact⟨w0,X,env++ds,tm,ρ2,tr,hB,prefix_append _ _,by rw[A0u,hdn];exact hk,hd,uQ,by rw[←h1];exact hlen.1,by rw[←h2];exact hlen.2⟩
 | exit id=>
  obtain⟨w0,X,e,ds,ρ',hB,he,hQ,bg,hlen⟩:=h;refine⟨w0,X,e,ds,ρ',hB,he,?_,bg,hlen⟩;simp only[cU] at hQ;rwa [A0B (D0f (hex id e he))] at hQ
 | ret=>exact h
 | goto l=>exact h
 | panic c=>exact h
 | outgrown=>exact h
theorem Aa {dp u:Nat}{m:ah×Nat}{body:Option T}{k:K8}{t:T}(h:G7 dp u m body k=some t):∃tb tr,body=some tb∧k dp (u+m.2) m.1=some tr∧t=.join dp m.2 tb tr:=by
 unfold G7 at h;split at h
 ·rename_i h1;cases h;exact⟨_,_,rfl,h1,rfl⟩
 ·cases h
theorem CW {x:E}{a b:Option T}{t:T}(h:OI x a b=some t):∃ta tb,a=some ta∧b=some tb∧t=.ite x ta tb:=by
 unfold OI at h;split at h
 ·cases h;exact⟨_,_,rfl,rfl,rfl⟩
 ·cases h
theorem Jk {dp u:Nat}{m:ah×Nat}{σ:ah}{body:Option T}{t:T}(h:Mi dp u m σ body=some t):∃inits tb,Cw u m.1 σ=some inits∧body=some tb∧inits.length=m.2∧t=.loop dp inits tb:=by
 unfold Mi at h;split at h
 ·rename_i inits tb h1;split at h
  ·rename_i h2;cases h;exact⟨inits,_,h1,rfl,h2,rfl⟩
  ·cases h
 ·cases h
theorem pz {id : Nat} : ∀ {ex : List (Nat × Ex)} {Rx : Nat} {e : Ex}, nu (ex.filter (·.1 != id)) Rx = some e → Rx ≠ id ∧ nu ex Rx = some e
  | [], _, _, h => by simp [nu] at h
  | (i, x) :: r, Rx, e, h => by
    simp only [C0e] at h;split at h
    · rename_i hi
      simp only [E0j, ne_eq] at hi;simp only [nu] at h ⊢;split at h
      · rename_i e1
        subst e1;exact ⟨hi, by rw [A0z rfl]; exact h⟩
      · rename_i e1
        rw [A0B e1];exact pz h
    · rename_i hi
      simp only [E0j, ne_eq, D0k] at hi;obtain ⟨h1, h2⟩ := pz h;simp only [nu];rw [A0B (by rw [hi]; exact B0O h1)];exact ⟨h1, h2⟩
theorem Ek {N:Nat} {dp:Nat} {Ib body:Code} {tb:T} {σ:ah} {cf:cF} {env:List D} {ps:Array Tmp} {fn:FuncId} {dfb m:Nat} {a:Act} {w:World} {ρ:dD} (hr:aF w0 X w a σ env ρ) (hl:uD N σ) (_:cf.ro=false)
  (acL:∀(l:Nat) (w1:World) (X1:jN) (σ1:ah) (ot:List D) (Q:gu→Prop) (a1:Act) (w2:World) (ρ1:dD),(∃r0,w1.heap[l]? = some (.loop r0)∧¬X1.may l∧¬X1.az l)→σ1=iQ σ cf env.length ps.toList→ot.length=env.length+1+ps.size→den P tb ot Q→aF w1 X1 w2 a1 σ1 ot ρ1→uD N σ1→Ib.wpIn (FW (some l)) 0 P (AX P (fun w X=>w=w1∧X=X1) N (fun _ _ _=>False) ot (dp+1) [] (fun dp' u' σ'=>compile P (fun _=>none) body dp' u' σ' [] (mu dp)) Q) a1 w2)
  (xK:∀(l:Nat) (w1:World) (X1:jN) (σ1:ah) (ot:List D) (t1:T) (Q:gu→Prop) (a1:Act) (w2:World) (ρ1:dD),(∃r0,w1.heap[l]? = some (.loop r0)∧¬X1.may l∧¬X1.az l)→compile P (fun _=>none) body (dp+1) ot.length σ1 [] (mu dp)=some t1→den P t1 ot Q→aF w1 X1 w2 a1 σ1 ot ρ1→uD N σ1→body.wpIn (FW (some l)) 0 P (AX P (fun w X=>w=w1∧X=X1) N (fun _ _ _=>False) ot (dp+1) [] (mu dp) Q) a1 w2)
  {eH:List D} (QK:aA env ((eu 0 σ.tmps).map (·.2))=some eH) {st1:D} {ds:List D} {st2:D} (Lm:aN eH=true) (Qy:st1.bZ=true) (Ee:aN ds=true) (fR:ds.length=ps.size) (fD:den P tb (env++[st1]++ds) fun s=>s=.jump dp [st2]) :
  r7 P (.yl m { state:=.ready,pending:=none,fn,tmps:=a.tmps,params:=ps,assign:=Ib,body,defers:=dfb } ((eu 0 σ.tmps).map (·.1)) eH) st1 ds st2:=by
 intro wS S az bs vs yv hb hst dN fG hS hy iL bO;subst hb;have Qy:aN bs=true:=by simpa[D.bZ] using Qy
 obtain⟨rec,kC⟩:∃rec:Loop,rec={ state:=.ready,pending:=none,fn,tmps:=a.tmps,params:=ps,assign:=Ib,body,defers:=dfb }:=⟨_,rfl⟩;rw[←kC] at hy;generalize ZZ:(eu 0 σ.tmps).map (·.1)=sl at hy;cases hy with
 | yl hh nq=>
 obtain⟨WB,FD⟩:=dN m rec hh;have hlt:m<wS.heap.size:=(A0l.1 WB).1;refine⟨m,_,_,_,_,rfl,run_yield WB (by rw[iL,fR,kC]),?_⟩;have ab1:rec.body=body:=by rw[kC]
 have ahz:rec.assign=Ib:=by rw[kC]
 have anQ:rec.params=ps:=by rw[kC]
 have ahx:rec.tmps=a.tmps:=by rw[kC]
 rw[ab1,ahz,anQ,ahx];refine roundIn_of_wpIn (F:=Fence.wide) trivial ?_;obtain⟨Sr,hSr⟩:∃Sr:Sets,Sr=S.under fun l=>if l=m then none else S.hold l:=⟨_,rfl⟩
 have k9:S.Rs Sr:=by rw[hSr];exact S.lT _
 have iK:∀b o,Sr b o↔S b o:=by intro b o;rw[hSr];exact E0J
 have Ud:∀{v:Value} {d:D},d.bZ=true→bA wS S v d→bA wS Sr v d:=fun hn h=>h.like k9 hn;have C3:cI wS Sr az bs:=hst.to k9 (fun b o h=>(iK b o).1 h) (fun b hb=>rfl) fun v d i x hi hp h=>Ud (Ff Qy hi hp) h;have aie:∀(t:Nat) (x:E) (b:Bool),σ.tmps[t]? = some (.e x b)→∃d,x.eval env=some d∧bA wS Sr (a.tmps.getD t undef) d∧(b=true→d.one=true):=by intro t x b ht;have h0:=hr.tmps t;rw[ah.gD,A0k,ht] at h0;obtain⟨d,hd,_,h1⟩:=cS.jL (x:=x) (s:=b) h0;obtain⟨i,hi⟩:=uW (k:=0) ht;rw[A0Q] at hi;obtain⟨d',fo,fm⟩:=tC (i:=i) (x:=x) QK (by simp[hi]);rw[hd] at fm;cases fm;have:=nq i t d (by rw[←ZZ];simp[hi]) fo;rw[ahx] at this;exact⟨d,hd,Ud (dH Lm fo) this,h1⟩
 obtain⟨ρr,hρr⟩:∃ρr:dD,ρr={ blk:=fun _=>0,val:=fun _=>undef,S:=Sr,az:=az }:=⟨_,rfl⟩;have U6:ρr.S=Sr:=by rw[hρr]
 have acz:env <+: env++[.st bs]++ds:=by rw[A0A];exact prefix_append _ _
 have eF:=B9 (w:=wS) (ρ:=ρr) (env:=env++[.st bs]++ds) (ps:=ps.toList) (vs:=vs.toList) (u:=env.length+1) (tm:=a.tmps) (rU:=σ.tmps.map SV.data) (by simp[hr.size]) (by simp[iL,fR]) (fun t=>by
  rw[A0k,A0w];cases ht:σ.tmps[t]? with
  | none=>exact .cz
  | some sv=>
   simp only[A0y,B0l];cases sv with
   | e x b=>
    obtain⟨d,h1,h2,h3⟩:=aie t x b ht;exact .e (E.ck acz _ h1) (by rw[U6];exact h2) h3
   | _=>exact .cz) (fun i v hi=>by
  have hlt:i<ds.length:=by have:=(A0c.1 hi).1;simp at this;omega
  refine⟨ds[i],?_,?_⟩
  ·rw[A0o (by simp),A0u];simp[show env.length+1+i-(env.length+1)=i from by omega]
  ·rw[U6];exact Ud (dH Ee (A0e hlt)) (bO i v _ (by simpa using hi) (A0e hlt)))
 have aah:(ps.zip vs).foldl (fun tmps (x:Tmp×Value)=>tmps.setIfInBounds x.1 x.2) a.tmps=(ps.toList.zip vs.toList).foldl (fun tmps (x:Tmp×Value)=>tmps.setIfInBounds x.1 x.2) a.tmps:=by rw[←Array.foldl_toList,Array.toList_zip]
 have C5:aF wS { may:=az,S:=Sr,az:=az,EJ:=[] } wS { tmps:=(ps.zip vs).foldl (fun tmps (x:Tmp×Value)=>tmps.setIfInBounds x.1 x.2) a.tmps,defers:=[] } (iQ σ cf env.length ps.toList) (env++[.st bs]++ds) ρr:=by
  have fC:∀o x,(iQ σ cf env.length ps.toList).obj o=some x→o=br∧x=.store cf (.sym env.length):=by
   intro o x hx;simp only[ah.ey,iQ,A0k,B0o] at hx;split at hx
   ·cases hx;exact⟨by assumption,rfl⟩
   ·split at hx <;> simp at hx
  refine⟨by rw[aah];exact eF.1,fun t=>by rw[aah,ah.gD];exact eF.2 t,fun o x hx=>?_,fun o o' x x' b hx fm _ _=>?_,fun o x b hx hb=>?_,fun b o hs=>?_,rfl,.refl _,rfl,A0m _,fun _ _ _=>rfl,by rw[U6];exact Sets.le_refl _,fun b o hs=>.inl (by rw[U6] at hs;exact hs),rfl,fun l sO iH=>?_⟩
  ·obtain⟨rfl,rfl⟩:=fC o x hx;refine⟨bs,?_,by rw[hρr];exact C3,rfl⟩;simp only[E.eval];rw[A0A,A0o (A0m _)];simp
  ·obtain⟨rfl,_⟩:=fC o x hx;obtain⟨rfl,_⟩:=fC o' x' fm;rfl
  ·obtain⟨rfl,rfl⟩:=fC o x hx;have hb:az b:=by rw[hρr] at hb;exact hb
   exact⟨.inr (.inr hb),fG b hb⟩
  ·rw[U6] at hs;exact hS b o ((iK b o).1 hs)
  ·have uf:Sr.hold l=some sO:=iH;rw[hSr] at uf;simp only[Sets.under] at uf;split at uf
   ·cases uf
   ·rename_i bQ;obtain⟨g1,g2⟩:=dN l sO uf;exact⟨g1,g2,g2⟩
 have Da:uD N (iQ σ cf env.length ps.toList):=⟨by simp[iQ,sP,hl.1],by simp[iQ,hl.2]⟩;refine wpIn_mono (acL m wS _ _ (env++[.st bs]++ds) _ _ wS ρr ⟨_,WB,FD,FD⟩ rfl (by simp[fR];omega) fD C5 Da) fun e a1 w1 hp=>?_;cases e with
 | exit id=>obtain⟨_,_,e,_,_,_,he,_⟩:=hp;simp[nu] at he
 | ret=>obtain⟨_,_,hf⟩:=hp;exact hf.elim
 | goto l=>exact hp.elim
 | panic c=>obtain⟨_,_,_,_,_,_,_,_,_,_,_,_,_,_,_,_,hq⟩:=hp;cases hq
 | outgrown=>exact hp.elim
 | normal=>
 obtain⟨wB,XB,ao8,σB,ρB,tB,⟨hwB,hXB⟩,asZ,hkB,ah_,JL,acf⟩:=hp;rw[hwB,hXB] at JL;have aoM:Sr.hold m=none:=by rw[hSr];simp[Sets.under]
 obtain⟨hm1,JL⟩:=JL.Xj (r':={ rec with state:=.busy }) WB FD FD aoM;refine⟨_,run_beginRound hm1 (by rw[kC]),?_⟩;have Ef:bM S wS (wS.putObj m (.loop { rec with state:=.busy })):=bM.putObj WB _;generalize hw2:wS.putObj m (.loop { rec with state:=.busy })=w2 at JL Ef;have hm2:w2.heap[m]? = some (.loop { rec with state:=.busy }):=by rw[←hw2];exact World.putObj_heap_same hlt
 have ho2:∀b,b≠m→w2.heap[b]? = wS.heap[b]?:=fun b hb=>by rw[←hw2];exact World.putObj_heap_other hb
 have oH:w2.heap.size=wS.heap.size:=by rw[←hw2];simp
 have e2:w2.os=wS.os∧TL w2 wS∧w2.output=wS.output:=by rw[←hw2];exact⟨rfl,⟨rfl,A0m _⟩,rfl⟩
 refine wpIn_mono (xK m w2 _ _ ao8 _ _ _ _ ρB ⟨_,hm2,FD,FD⟩ hkB ah_ JL acf) fun e a3 w3 hp=>?_;cases e with
 | normal=>
  obtain⟨w0',X',env',σ',ρ',t',⟨hw0,hX0⟩,gm,hk,UX,uQ,aod⟩:=hp;rw[hw0,hX0] at uQ;unfold mu at hk;split at hk
  ·rename_i zF h' vG;cases hk;obtain⟨kL,bX,hq⟩:=UX;cases hq;have cO:σ'.obj br=some (.store zF h'):=by rw[ah.ey,A0z rfl];exact vG
   obtain⟨bs',sk,dP,_⟩:=uQ.cT _ _ cO;simp only[aA,sk,A0d,A0y,A0x,C0a,E0a] at bX;subst bX;have jX:=o_ uQ dP ⟨zF,h',cO⟩ fun _ h=>h;have aoa:m<w2.heap.size:=by rw[oH];exact hlt
   have hm3:w3.heap[m]? = some (.loop { rec with state:=.busy }):=(jX.old m aoa FD).trans hm2;have mM:=run_endRound (P:=P) none hm3;have asW:({ rec with state:=.busy }:Loop)={ { rec with state:=.busy } with state:=.busy }:=rfl;refine⟨_,_,mM,ρ'.S.under S.hold,ρ'.az,bs',rfl,rfl,?_⟩;have ahP:({ ({ rec with state:=LoopState.busy }:Loop) with state:=if(none:Option Code).isNone then LoopState.ready else LoopState.done,pending:=none }:Loop)=rec:=by rw[kC];rfl
   rw[ahP];have ahW:∀(T:Sets),bM T w3 (w3.putObj m (.loop rec)):=fun T=>bM.putObj hm3 rec;have aob:m<w3.heap.size:=(A0l.1 hm3).1;have ab_:¬ρ'.az m:=fun hf=>by
    rcases(jX.ft m hf).1 with g | g
    ·exact FD g
    ·omega
   have hho:ρ'.S.hold=Sr.hold:=jX.le.hold;refine⟨dP.to (ρ'.S.lT _) (fun _ _ h=>h) (fun b hb=>World.putObj_heap_other fun e=>ab_ (e ▸ hb)) (fun v d i x hi hp h=>(h.keep (ahW _) (Sets.le_refl _)).SL (ρ'.S.lT _) fun l r Z_=>?_),?_,?_,?_,?_,?_,?_,?_,?_,?_,?_⟩
   ·rw[hho,hSr] at Z_;simp only[Sets.under] at Z_ ⊢;split at Z_
    ·cases Z_
    ·exact Z_
   ·intro b o hs;rw[ahW S b o hs];refine Eq.trans (A0V (a:=⟨b,o,none⟩) (jX.old b (by rw[oH];exact hS b o hs) fun hf=>hst.v_ b o hf hs)) (Ef b o hs)
   ·refine⟨fun b o hs=>jX.le.mem b o ((iK b o).2 hs),?_,fun i hi=>?_,fun i hi=>?_,rfl,fun i hi=>(jX.le.mz i (by rw[←k9.n];exact hi)).trans (k9.mz i)⟩
    ·rw[k9.n];exact jX.le.n
    ·exact(jX.le.loc i (by rw[←k9.n];exact hi)).trans (k9.loc i)
    ·exact(jX.le.cap i (by rw[←k9.n];exact hi)).trans (k9.cap i)
   ·exact jX.os.trans e2.1
   ·exact⟨jX.tape.tape.trans e2.2.1.tape,A0J e2.2.1.dr jX.tape.dr⟩
   ·exact jX.output.trans e2.2.2
   ·simp only[World.putObj_size];rw[←oH];exact jX.size
   ·intro b hb RC
    by_cases e:b=m
    ·subst e;rw[World.putObj_heap_same aob,WB]
    ·rw[World.putObj_heap_other e,jX.old b (by rw[oH];exact hb) RC,ho2 b e]
   ·intro b hb;have:=jX.ft b hb;rw[oH] at this;simp only[World.putObj_size];exact this
   ·intro b o hs;have:=jX.new b o hs;rw[oH] at this;exact this.imp_left fun h=>(iK b o).1 h
   ·intro b o hs;simp only[World.putObj_size];exact jX.lt b o hs
  ·cases hk
 | exit id=>obtain⟨_,_,e,_,_,_,he,_⟩:=hp;simp[nu] at he
 | ret=>obtain⟨_,_,hf⟩:=hp;exact hf.elim
 | goto l=>exact hp.elim
 | panic c=>obtain⟨_,_,_,_,_,_,_,_,_,_,_,_,_,_,_,_,hq⟩:=hp;cases hq
 | outgrown=>exact hp.elim
theorem PU {B:World→jN→Prop} {rd:Option Nat} {σ:ah} {cf:cF} {hE:E} {env:List D} {a:Act} {w W3:World} {ρ:dD} {S3:Sets} {Dt:Nat→Prop} {eT:D} {mark:List Deferred} (hr:aF w0 X w a σ env ρ) (fQ:cf.ro=false) (vG:σ.hs=some (.store cf hE)) (hB:B w0 X) (dU:rd≠none∨∀w1 X1 w2 X2,B w1 X1→Ext w1 X1 w2 X2→B w2 X2)
  (bg:aF w0 X W3 a (σ.setObj br (some (.store cf (.sym env.length)))) (env++[eT]) { ρ with S:=S3,az:=Dt }) (UA:mark=[]∨(rd=none∧∃dd,mark=[{ target:=.collected dd,args:=#[] }]∧W3.heap[dd]? = some (.deferred (some []))∧w.heap.size≤dd∧¬Dt dd)) :
  ∃w1 X1,B w1 X1∧aF w1 X1 W3 { a with defers:=mark++a.defers } (oL σ (.sym env.length)) (env++[eT]) { ρ with S:=S3,az:=Dt }:=by
 have gT:oL σ (.sym env.length)=σ.setObj br (some (.store cf (.sym env.length))):=by unfold oL;rw[vG]
 have C6:∀o y,o≠br→(σ.setObj br (some (.store cf (.sym env.length)))).obj o=some y→σ.obj o=some y:=fun o y ho hy=>by rwa [ah.eC (.inl rfl),A0B ho] at hy
 obtain⟨ρ2,Qs⟩:∃ρ2:dD,ρ2={ ρ with S:=S3,az:=Dt }:=⟨_,rfl⟩;rw[←Qs] at bg;rw[←Qs];rcases UA with rfl | ⟨ab0,dd,rfl,hDW,hD2,Uw⟩
 ·exact⟨w0,X,hB,by rw[gT];exact bg⟩
 ·have dU:=dU.resolve_left (fun h=>h ab0);have MW:ρ2.az=Dt:=by rw[Qs]
  have abY:∀o y,(σ.setObj br (some (.store cf (.sym env.length)))).obj o=some y→y.ro=false:=by
   intro o y hy
   by_cases ho:o=br
   ·subst ho;rw[ah.eC (.inl rfl),A0z rfl] at hy;cases hy;exact fQ
   ·have:=C6 o y ho hy;cases y with
    | store c z=>obtain⟨_,_,_,e⟩:=hr.cT o _ this;exact absurd e ho
    | _=>rfl
  have eB:∀o y b,(σ.setObj br (some (.store cf (.sym env.length)))).obj o=some y→bN ρ2 o y b→(w0.heap.size≤b∨X.may b):=fun o y b hy hb=>by
   rcases(bg.own o y b hy hb).1 with g | g
   ·rw[abY o y hy] at g;cases g.1
   ·exact g
  have ab6:(σ.setObj br (some (.store cf (.sym env.length)))).obj br=some (.store cf (.sym env.length)):=by rw[ah.eC (.inl rfl),A0z rfl]
  obtain⟨X1,Al⟩:∃X1:jN,X1={ may:=fun b=>∃o y,(σ.setObj br (some (.store cf (.sym env.length)))).obj o=some y∧bN ρ2 o y b,S:=ρ2.S,az:=Dt,EJ:=[{ target:=.collected dd,args:=#[] }]++X.EJ }:=⟨_,rfl⟩;have JR:∀b,X1.may b↔∃o y,(σ.setObj br (some (.store cf (.sym env.length)))).obj o=some y∧bN ρ2 o y b:=fun b=>by rw[Al]
  have MX:X1.az=Dt:=by rw[Al]
  have U5:X1.S=ρ2.S:=by rw[Al]
  have hnD:¬X1.may dd:=by
   rw[JR]
   rintro⟨o,y,hy,hb⟩
   by_cases ho:o=br
   ·subst ho;rw[ab6] at hy;cases hy;exact Uw (by rw[←MW];exact hb)
   ·have yp:=C6 o y ho hy;have fI:bN ρ o y dd:=by
     cases y with
     | store c z=>obtain⟨_,_,_,e⟩:=hr.cT o _ yp;exact absurd e ho
     | box cs=>rw[Qs] at hb;exact hb
     | row x' sz=>rw[Qs] at hb;exact hb
     | tok e' sz=>rw[Qs] at hb;exact hb
    have:=(hr.own o y dd yp fI).2;omega
  have acr:∀l' sO,X.S.hold l'=some sO→W3.heap[l']? = some (.loop sO)∧¬X1.may l'∧¬X1.az l':=by
   intro l' sO iH;have h1:ρ2.S.hold l'=some sO:=by rw[bg.sub.hold];exact iH
   obtain⟨g1,g2⟩:=bg.lY ab6 l' sO h1;obtain⟨k1,k2,k3⟩:=hr.hold l' sO iH;have hlt:=(A0l.1 k1).1;refine⟨g1,?_,by rw[MX,←MW];exact g2⟩;rw[JR]
   rintro⟨o,y,hy,hb⟩
   rcases eB o y l' hy hb with g | g
   ·omega
   ·exact k2 g
  have Ht:Ext w0 X W3 X1:=by
   refine⟨by rw[U5];exact bg.sub,bg.os,bg.tape,bg.output,bg.grown,bg.old,fun b hb=>?_,fun b hb=>?_,fun b o hs=>?_,[dd],by rw[Al];rfl,by simp,fun D hD=>?_⟩
   ·obtain⟨o,y,hy,hb⟩:=(JR b).1 hb;exact(eB o y b hy hb).symm
   ·rw[MX,←MW] at hb;exact .inr (eB br _ b ab6 hb).symm
   ·rw[U5] at hs;exact bg.new b o hs
   ·simp at hD;subst hD;exact⟨hDW,hnD,by rw[MX];exact Uw,A0J hr.grown hD2⟩
  refine⟨W3,X1,dU w0 X W3 X1 hB Ht,?_⟩;rw[gT];refine⟨bg.size,bg.tmps,bg.cT,bg.inj,fun o y b hy hb=>⟨.inr (.inr ((JR b).2 ⟨o,y,hy,hb⟩)),(bg.own o y b hy hb).2⟩,bg.cells,rfl,.refl _,rfl,A0m _,fun _ _ _=>rfl,by rw[U5];exact Sets.le_refl _,fun b o hs=>.inl (by rw[U5];exact hs),?_,fun l' sO iH=>acr l' sO ?_⟩
  ·rw[Al];show[({ target:=.collected dd,args:=#[] }:Deferred)]++a.defers=[{ target:=.collected dd,args:=#[] }]++X.EJ;rw[hr.yo]
  ·rw[U5,bg.sub.hold] at iH;exact iH
theorem Na {rd:Option Nat}{ps:Array Tmp}{Ib body:Code}{σ:ah}{env:List D}{a:Act}{w:World}{ρ:dD}(hr:aF w0 X w a σ env ρ)(bO:∀l,rd=some l→∃r0,w0.heap[l]? = some (.loop r0)∧¬X.may l∧¬X.az l)(fn:FuncId) :
  ∃(l:Nat) (mark:List Deferred) (W1:World) (rec:Loop) (dfb:Nat),rec={ state:=.ready,pending:=none,fn,tmps:=a.tmps,params:=ps,assign:=Ib,body,defers:=dfb } ∧
   (Instr.enterLoop fn a.tmps ps Ib body (FW rd).round).run P w=.ok (l,mark) W1∧W1.heap[l]? = some (.loop rec)∧w.heap.size≤l∧w.heap.size≤W1.heap.size∧(∀b,b<w.heap.size→W1.heap[b]? = w.heap[b]?)∧W1.os=w.os∧TL W1 w∧W1.output=w.output ∧
   (mark=[]∨(rd=none∧∃dd,mark=[{ target:=.collected dd,args:=#[] }]∧W1.heap[dd]? = some (.deferred (some []))∧w.heap.size≤dd∧dd≠l)):=by
 cases rd with
 | none=>
  refine⟨_,_,_,_,w.heap.size,rfl,run_enterLoop_outer fn a.tmps ps Ib body,?_,by omega,by simp;omega,fun b hb=>?_,rfl,⟨rfl,A0m _⟩,rfl,.inr ⟨rfl,_,rfl,?_,A0m _,by omega⟩⟩
  ·have:=World.alloc_heap_new (w.alloc (.deferred (some []))) (.loop { state:=.ready,pending:=none,fn,tmps:=a.tmps,params:=ps,assign:=Ib,body,defers:=w.heap.size });rwa [World.size_alloc] at this
  ·rw[g_ _ _ b (by simp;omega),g_ _ _ b hb]
  ·rw[g_ _ _ _ (by simp)];exact World.alloc_heap_new w _
 | some l0=>
  obtain⟨r0,g1,g2,g3⟩:=bO l0 rfl;have QB:w.heap[l0]? = some (.loop r0):=(hr.old l0 (A0l.1 g1).1 g2).trans g1;refine⟨_,_,_,_,r0.defers,rfl,run_enterLoop_inner QB fn a.tmps ps Ib body,World.alloc_heap_new w _,A0m _,by simp,fun b hb=>g_ _ _ b hb,rfl,⟨rfl,A0m _⟩,rfl,.inl rfl⟩
theorem EL {f : FuncId} (og : bL P f = true) : ∃ fn0, P.funcs[f]? = some fn0 ∧ (fn0.name == "runtime.NumGoroutine") = false ∧ fn0.body.isNone = false := by
 unfold bL at og;split at og
 ·rename_i fn0 hf;simp only[A0f,B0j,C0o] at og;refine⟨fn0,hf,og.1,?_⟩;cases hb:fn0.body with
  | none=>exact absurd hb og.2
  | some _=>rfl
 ·cases og
theorem LV {B:World→jN→Prop} {N:Nat} {rd:Option Nat} {nd:Nat} {g:Operand} {ps:Array Tmp} {dp:Nat} {Ib body:Code} {tb:T} {σ:ah} {cf:cF} {xg hE:E} {env:List D} {a:Act} {w:World} {ρ:dD} {Q:Exit→Act→World→Prop}
  (hr:aF w0 X w a σ env ρ) (hl:uD N σ) (fQ:cf.ro=false) (vG:σ.hs=some (.store cf hE)) (hB:B w0 X) (hg:(σ.zZ g).toE=some xg)
  (bO:∀l,rd=some l→∃r0,w0.heap[l]? = some (.loop r0)∧¬X.may l∧¬X.az l) (dU:rd≠none∨∀w1 X1 w2 X2,B w1 X1→Ext w1 X1 w2 X2→B w2 X2)
  (acL:∀(l:Nat) (w1:World) (X1:jN) (σ1:ah) (ot:List D) (Q:gu→Prop) (a1:Act) (w2:World) (ρ1:dD),(∃r0,w1.heap[l]? = some (.loop r0)∧¬X1.may l∧¬X1.az l)→σ1=iQ σ cf env.length ps.toList→ot.length=env.length+1+ps.size→den P tb ot Q→aF w1 X1 w2 a1 σ1 ot ρ1→uD N σ1→Ib.wpIn (FW (some l)) 0 P (AX P (fun w X=>w=w1∧X=X1) N (fun _ _ _=>False) ot (dp+1) [] (fun dp' u' σ'=>compile P (fun _=>none) body dp' u' σ' [] (mu dp)) Q) a1 w2)
  (xK:∀(l:Nat) (w1:World) (X1:jN) (σ1:ah) (ot:List D) (t1:T) (Q:gu→Prop) (a1:Act) (w2:World) (ρ1:dD),(∃r0,w1.heap[l]? = some (.loop r0)∧¬X1.may l∧¬X1.az l)→compile P (fun _=>none) body (dp+1) ot.length σ1 [] (mu dp)=some t1→den P t1 ot Q→aF w1 X1 w2 a1 σ1 ot ρ1→uD N σ1→body.wpIn (FW (some l)) 0 P (AX P (fun w X=>w=w1∧X=X1) N (fun _ _ _=>False) ot (dp+1) [] (mu dp) Q) a1 w2)
  {f:FuncId} {us cs eH:List D} {st d eT:D} (hx:xg.eval env=some (.fn f us cs)) (og:bL P f=true) (hh:hE.eval env=some st) (QK:aA env ((eu 0 σ.tmps).map (·.2))=some eH) (Lm:aN eH=true) (Yc:eT.bZ=true)
  (gz:∀(m:Nat) (rec:Loop),(∀st1 ds st2,st1.bZ=true→aN ds=true→ds.length=ps.size→den P tb (env++[st1]++ds) (fun s=>s=.jump dp [st2])→r7 P (.yl m rec ((eu 0 σ.tmps).map (·.1)) eH) st1 ds st2)→aZ P f st (us++[.yl m rec ((eu 0 σ.tmps).map (·.1)) eH]++cs) d eT)
  (hQ:∀(w1:World) (X1:jN) (a':Act) (w':World) (ρ':dD),B w1 X1→aF w1 X1 w' a' (oL σ (.sym env.length)) (env++[eT]) ρ'→Q .normal a' w'):(Code.rangeFunc g ps Ib body).wpIn (FW rd) nd P Q a w:=by
 have cO:σ.obj br=some (.store cf hE):=by rw[ah.ey,A0z rfl];exact vG
 obtain⟨bs,sk,hst,_⟩:=hr.cT _ _ cO;rw[sk] at hh;cases hh;have Yk:∀b,ρ.az b→b<w.heap.size:=gj hr cO;have dN:=hr.lY cO;refine wpIn_rangeFunc fun fn _=>?_;obtain⟨l,mark,W1,rec,dfb,kC,UU,hlW,hle,bV,OQ,Lj,ht1,Lh,UA⟩:∃(l:Nat) (mark:List Deferred) (W1:World) (rec:Loop) (dfb:Nat),rec={ state:=.ready,pending:=none,fn,tmps:=a.tmps,params:=ps,assign:=Ib,body,defers:=dfb } ∧
   (Instr.enterLoop fn a.tmps ps Ib body (FW rd).round).run P w=.ok (l,mark) W1∧W1.heap[l]? = some (.loop rec)∧w.heap.size≤l∧w.heap.size≤W1.heap.size∧(∀b,b<w.heap.size→W1.heap[b]? = w.heap[b]?)∧W1.os=w.os∧TL W1 w∧W1.output=w.output ∧
   (mark=[]∨(rd=none∧∃dd,mark=[{ target:=.collected dd,args:=#[] }]∧W1.heap[dd]? = some (.deferred (some []))∧w.heap.size≤dd∧dd≠l)):=Na hr bO fn
 have aoc:l<W1.heap.size:=(A0l.1 hlW).1;have ab9:¬ρ.az l:=fun hf=>by have:=Yk l hf;omega
 obtain⟨dg,hdg,hrg⟩:=SV.toE_rd hg (Ch (a:=a) hr g);rw[hx] at hdg;cases hdg;generalize hvg:a.eval g=vg at hrg;cases hrg with
 | @fn _ uv cv _ _ Hj acH OM QG=>
 obtain⟨fn0,UP,OR,Yr⟩:=EL og;obtain⟨S1,tq⟩:∃S1:Sets,S1=ρ.S.under fun l'=>if l'=l then some rec else ρ.S.hold l':=⟨_,rfl⟩
 have k9:ρ.S.Rs S1:=by rw[tq];exact ρ.S.lT _
 have iK:∀b o,S1 b o↔ρ.S b o:=by intro b o;rw[tq];exact E0J
 have Ln:∀(T:Sets),(∀b o,T b o→b<w.heap.size)→bM T w W1:=fun T hT b o hs=>A0V (a:=⟨b,o,none⟩) (OQ b (hT b o hs));have an5:∀l' sO,ρ.S.hold l'=some sO→l'≠l:=fun l' sO h e=>by have:=(A0l.1 (dN l' sO h).1).1;omega
 have Ud:∀{v:Value} {d:D},bA w ρ.S v d→bA W1 S1 v d:=fun h=>(h.keep (Ln _ hr.cells) (Sets.le_refl _)).SL k9 fun l' r' iH=>by rw[tq];simp only[Sets.under];rw[A0B (an5 l' r' iH)];exact iH
 have X7:cI W1 S1 ρ.az bs:=hst.to k9 (fun b o h=>(iK b o).1 h) (fun b hb=>OQ b (Yk b hb)) fun v d i x hi hp h=>Ud h;have acs:pZ W1 S1 ρ.az:=by
  intro l' sO iH;rw[tq] at iH;simp only[Sets.under] at iH;split at iH
  ·rename_i e;cases iH;subst e;exact⟨hlW,ab9⟩
  ·obtain⟨g1,g2⟩:=dN l' sO iH;exact⟨(OQ l' (A0l.1 g1).1).trans g1,g2⟩
 have vB:bA W1 S1 (.func (.yield l) #[] #[]) (.yl l rec ((eu 0 σ.tmps).map (·.1)) eH):=by refine .yl (by rw[tq];simp[Sets.under]) fun i s d hi hd=>?_;simp only[A0w,A0a] at hi;obtain⟨⟨s',x⟩,hi,rfl⟩:=hi;obtain⟨_,b,hb⟩:=uX hi;obtain⟨d',fo,fm⟩:=tC (i:=i) (x:=x) QK (by simp[hi]);rw[hd] at fo;cases fo;have h0:=hr.tmps s';simp only[C0y] at hb;rw[ah.gD,A0k,hb] at h0;obtain⟨d'',h1,h2,_⟩:=cS.jL (x:=x) (s:=b) h0;rw[h1] at fm;cases fm;rw[kC];exact Ud h2
 have hfs:=gz l rec fun st1 ds st2 g1 g2 g3 g4=>by rw[kC];exact Ek hr hl fQ acL xK QK Lm g1 g2 g3 g4
 refine⟨l,mark,W1,{ target:=.fn (.func f) cv,args:=uv++#[.func (.yield l) #[] #[]] },W1,f,uv++#[.func (.yield l) #[] #[]]++cv,W1,UU,?_,fun _ _=>trivial,?_,fun e=>(by cases e),Pj.2 ?_⟩
 ·simp only[resolve,hvg,Deferred.ofValue];simp[Act.eval]
 ·simp only[invoke,callFunc,D0A,A0n,A0r,A0h,UP,OR,Yr,A0S,B0n]
 refine(hfs W1 S1 ρ.az bs _ rfl X7 acs (fun b hb=>A0v (Yk b hb) bV) (fun b o hs=>A0v (hr.cells b o ((iK b o).1 hs)) bV) (by simp[Hj,acH];omega) (fun i v x hv fm=>YA (us:=uv.toList) (vs:=[Value.func (.yield l) #[] #[]]) (ws:=cv.toList) (R:=fun v x=>bA W1 S1 v x) (by simpa using Hj) rfl (fun i u x hu hx=>Ud (OM i u x (by simpa using hu) hx)) (fun i u x hu hx=>by
  cases i with
  | zero=>simp at hu hx;subst hu hx;exact vB
  | succ i=>simp at hu) (fun i u x hu hx=>Ud (QG i u x (by simpa using hu) hx)) i v x (by rw[←B0c] at hv;simpa using hv) fm)).mono ?_
 rintro e W2 ⟨v,S',bJ,bs',⟨rfl,_⟩,rfl,dP,hk,hS,nZ,MK,fZ,X5,uT,pU,H8,J6⟩
 have Ee:aN bs'=true:=by simpa[D.bZ] using Yc
 have uf:W2.heap[l]? = some (.loop rec):=(uT l aoc ab9).trans hlW;have mM:=run_endLoop (P:=P) uf (by rw[kC];simp);have ahI:rec.pending=none:=by rw[kC]
 obtain⟨W3,hW3⟩:∃W3,W3=W2.putObj l (.loop { rec with state:=.exhausted }):=⟨_,rfl⟩;rw[←hW3] at mM;rw[ahI] at mM;refine⟨none,W3,mM,?_⟩;have hk3:∀(T:Sets),bM T W2 (W2.putObj l (.loop { rec with state:=.exhausted })):=fun T=>bM.putObj uf _;have ho3:∀b,b≠l→(W2.putObj l (.loop { rec with state:=.exhausted })).heap[b]? = W2.heap[b]?:=fun b hb=>World.putObj_heap_other hb;have Bo:(W2.putObj l (.loop { rec with state:=.exhausted })).heap.size=W2.heap.size:=World.putObj_size;have hq3:(W2.putObj l (.loop { rec with state:=.exhausted })).os=W2.os∧TL (W2.putObj l (.loop { rec with state:=.exhausted })) W2∧(W2.putObj l (.loop { rec with state:=.exhausted })).output=W2.output:=⟨rfl,⟨rfl,A0m _⟩,rfl⟩;rw[←hW3] at Bo hq3;replace hk3:∀(T:Sets),bM T W2 W3:=fun T=>hW3 ▸ hk3 T;replace ho3:∀b,b≠l→W3.heap[b]? = W2.heap[b]?:=fun b hb=>hW3 ▸ ho3 b hb;have ab_:∀b,bJ b→b≠l:=fun b hb e=>by
  rcases(pU b hb).1 with g | g
  ·exact ab9 (e ▸ g)
  ·omega
 have abW:cI W3 (S'.under ρ.S.hold) bJ bs':=dP.to (S'.lT _) (fun _ _ h=>h) (fun b hb=>ho3 b (ab_ b hb)) fun v d i x hi hp h=>(h.keep (hk3 _) (Sets.le_refl _)).like (S'.lT _) (Ff Ee hi hp);have gT:oL σ (.sym env.length)=σ.setObj br (some (.store cf (.sym env.length))):=by unfold oL;rw[vG]
 have C6:∀o y,o≠br→(σ.setObj br (some (.store cf (.sym env.length)))).obj o=some y→σ.obj o=some y:=fun o y ho hy=>by rwa [ah.eC (.inl rfl),A0B ho] at hy
 have bg:=(hr.env (prefix_append env [.st bs'])).gJ (w':=W3) (x':=.sym env.length) (S':=S'.under ρ.S.hold) cO fQ (by simp[E.eval]) abW (fun b o hs=>by
   rw[hk3 ρ.S b o hs,hk b o ((iK b o).2 hs)];exact Ln ρ.S hr.cells b o hs) ⟨fun b o hs=>hS.mem b o ((iK b o).2 hs),by rw[k9.n];exact hS.n,fun i hi=>(hS.loc i (by rw[←k9.n];exact hi)).trans (k9.loc i),fun i hi=>(hS.cap i (by rw[←k9.n];exact hi)).trans (k9.cap i),rfl,fun i hi=>(hS.mz i (by rw[←k9.n];exact hi)).trans (k9.mz i)⟩
  (hq3.1.trans (nZ.trans Lj)) (hq3.2.1.trans (MK.trans ht1)) (hq3.2.2.trans (fZ.trans Lh)) (by rw[Bo];exact A0J bV X5) (fun b hb RC=>by
   rw[ho3 b (by omega),uT b (A0v hb bV) RC,OQ b hb]) (fun b hb=>by
   obtain⟨g1,g2⟩:=pU b hb;refine⟨g1.imp_right fun h=>A0J bV h,by rw[Bo];exact g2⟩) (fun b o hs=>by
   rcases H8 b o hs with g | g | g
   ·exact .inl ((iK b o).1 g)
   ·exact .inr (.inl g)
   ·exact .inr (.inr (A0J bV g))) (fun b o hs=>by rw[Bo];exact J6 b o hs)
 obtain⟨Ru,X1',J8,Ul⟩:=PU hr fQ vG hB dU bg (UA.imp id fun⟨ab0,dd,e,hD1,hD2,hD3⟩=>by
  have aoT:dd<W1.heap.size:=(A0l.1 hD1).1;have Uw:¬ρ.az dd:=fun hf=>by have:=Yk dd hf;omega
  exact⟨ab0,dd,e,by rw[ho3 dd hD3,uT dd aoT Uw];exact hD1,hD2,fun hf=>by
   rcases(pU dd hf).1 with g | g
   ·exact Uw g
   ·omega⟩)
 exact hQ Ru X1' _ W3 _ J8 Ul
def Bz (rd:Option Nat)(c:Code)(B:World→jN→Prop):Prop:=gY c=true∨rd≠none∨∀w1 X1 w2 X2,B w1 X1→Ext w1 X1 w2 X2→B w2 X2
theorem Bz.sub {rd:Option Nat}{c c':Code}{B:World→jN→Prop}(h:Bz rd c B)(hc:gY c=true→gY c'=true):Bz rd c' B:=h.imp_left hc
theorem wP {σ:ah}{x:Option T}{t:T}(h:Bb σ x=some t):x=some t∨t=LJ:=by
 unfold Bb at h;split at h
 ·cases h;exact .inl rfl
 ·split at h
  ·cases h;exact .inr rfl
  ·cases h
theorem E0 (P:Program){env:List D}{Q:gu→Prop}:¬den P LJ env Q:=by
 rintro⟨d,h,_⟩
 simp[E.eval,D.deref] at h
theorem me {N:Nat} :
  ∀(c:Code) {B:World→jN→Prop} {iv:World→Act→D→Prop} {rv:ah→Option E} {rd:Option Nat} {nd:Nat},(∀w1 X1,B w1 X1→∀σ x,rv σ=some x→∀env ρ a w d,aF w1 X1 w a σ env ρ→x.eval env=some d→iv w a d) →
   (∀l,rd=some l→∀w1 X1,B w1 X1→∃r0,w1.heap[l]? = some (.loop r0)∧¬X1.may l∧¬X1.az l)→Bz rd c B→∀(dp:Nat) (σ:ah) (ex:List (Nat×Ex)) (k:K8) (t:T) (env:List D),compile P rv c dp env.length σ ex k=some t→∀(Q:gu→Prop) (a:Act) (w w0:World) (X:jN) (ρ:dD),B w0 X→den P t env Q→aF w0 X w a σ env ρ→uD N σ →
   (∀id e,nu ex id=some e→e.lab<dp∧e.base≤env.length)→c.wpIn (FW rd) nd P (AX P B N iv env dp ex k Q) a w:=by
 intro c
 induction c with
 | skip=>
  intro B iv rv rd nd mJ bO dU dp σ ex k t env hc Q a w w0 X ρ hB hd hr hl hex;exact wpIn_skip ⟨w0,X,env,σ,ρ,t,hB,B0W _,hc,hd,hr,hl⟩
 | label l=>
  intro B iv rv rd nd mJ bO dU dp σ ex k t env hc Q a w w0 X ρ hB hd hr hl hex;exact wpIn_label ⟨w0,X,env,σ,ρ,t,hB,B0W _,hc,hd,hr,hl⟩
 | region id ops draw=>
  intro B iv rv rd nd mJ bO dU dp σ ex k t env hc Q a w w0 X ρ hB hd hr hl hex;simp only[compile,lu] at hc;replace hc:=wP hc;rcases hc with hc | rfl
  case inr=>exact absurd hd (E0 P)
  obtain⟨ρ,hr⟩:=hr.xP id;have fG:=QN id σ;exact En hc hd hr (fG.1.trans hl.1) (fG.2.trans hl.2) (fun w a σ env' ρ v d bs kg bO hst yw hq=>⟨w0,X,σ,env',ρ,v,d,bs,hB,rfl,kg,bO,hst,yw,hq⟩) fun σ' env' t' a' w' ρ' gm hk fo kg e1 e2=>⟨w0,X,env',σ',ρ',t',hB,gm,by first | exact hk | rwa [lu] at hk,fo,kg,e1,e2⟩
 | seq x y Ww Rw=>
  intro B iv rv rd nd mJ bO dU dp σ ex k t env hc Q a w w0 X ρ hB hd hr hl hex;simp only[compile,lu] at hc;refine wpIn_seq (wpIn_mono (Ww mJ bO (dU.sub fun h=>by simp only[gY,A0f] at h;exact h.1) dp σ ex _ t env hc Q a w w0 X ρ hB hd hr hl hex) fun e a1 w1 h=>?_);cases e with
  | normal=>
   obtain⟨Ru,X1,env',σ',ρ',t',J8,gm,hk,fo,kg,iH⟩:=h;refine wpIn_mono (Rw mJ bO (dU.sub fun h=>by simp only[gY,A0f] at h;exact h.2) dp σ' ex k t' env' hk Q a1 w1 Ru X1 ρ' J8 fo kg iH fun id e he=>⟨(hex id e he).1,A0J (hex id e he).2 (C0Q gm)⟩) fun e a2 w2 h2=>?_;cases e with
   | normal=>
    obtain⟨w2',X2,bB,σ2,ρ2,t2,hB2,ahD,h3⟩:=h2;exact⟨w2',X2,bB,σ2,ρ2,t2,hB2,gm.trans ahD,h3⟩
   | exit id=>
    obtain⟨w2',X2,e,ds,ρ2,hB2,he,hQ,bg,hlen⟩:=h2;exact⟨w2',X2,e,ds,ρ2,hB2,he,hQ,by rw[←take_prefix gm (hex id e he).2];exact bg,hlen⟩
   | _=>exact h2
  | _=>exact h
 | cond c x y Ww Rw=>
  intro B iv rv rd nd mJ bO dU dp σ ex k t env hc Q a w w0 X ρ hB hd hr hl hex;simp only[compile,lu,A0b] at hc;obtain⟨cx,hcx,hc⟩:=hc;obtain⟨dc,FF,JM⟩:=SV.toE_rd hcx (Ch hr c);split at hc
  ·simp only[A0b] at hc;obtain⟨ra,_,rb,_,hc⟩:=hc;obtain⟨tb0,tr,anG,htr,rfl⟩:=Aa hc;obtain⟨ta,tb,hta,xA,rfl⟩:=CW anG;obtain⟨v,hv,h1,h2⟩:=hd;rw[FF] at hv;cases hv;have Ej:=JM.v_eq;refine wpIn_cond_split Ej (fun e=>?_) fun e=>?_
   ·exact wpIn_mono (Ww mJ bO (dU.sub fun h=>by simp only[gY,A0f] at h;exact h.1) (dp+1) σ ex _ ta env hta _ a w w0 X ρ hB (h1 e) hr hl fun id e he=>⟨D0i (hex id e he).1,(hex id e he).2⟩) fun e a' w' h=>AX.join htr (fun id e he=>(hex id e he).1) h
   ·exact wpIn_mono (Rw mJ bO (dU.sub fun h=>by simp only[gY,A0f] at h;exact h.2) (dp+1) σ ex _ tb env xA _ a w w0 X ρ hB (h2 e) hr hl fun id e he=>⟨D0i (hex id e he).1,(hex id e he).2⟩) fun e a' w' h=>AX.join htr (fun id e he=>(hex id e he).1) h
  ·obtain⟨ta,tb,hta,xA,rfl⟩:=CW hc;obtain⟨v,hv,h1,h2⟩:=hd;rw[FF] at hv;cases hv;have Ej:=JM.v_eq;exact wpIn_cond_split Ej (fun e=>Ww mJ bO (dU.sub fun h=>by simp only[gY,A0f] at h;exact h.1) dp σ ex k ta env hta Q a w w0 X ρ hB (h1 e) hr hl hex) fun e=>Rw mJ bO (dU.sub fun h=>by simp only[gY,A0f] at h;exact h.2) dp σ ex k tb env xA Q a w w0 X ρ hB (h2 e) hr hl hex
 | block id body ih=>
  intro B iv rv rd nd mJ bO dU dp σ ex k t env hc Q a w w0 X ρ hB hd hr hl hex;simp only[compile,lu,A0b] at hc;obtain⟨r,_,hc⟩:=hc;split at hc
  ·refine wpIn_block (wpIn_mono (ih mJ bO (dU.sub fun h=>h) dp σ _ _ t env hc Q a w w0 X ρ hB hd hr hl fun Rx e he=>hex Rx e (pz he).2) fun e a' w' h=>?_);cases e with
   | normal=>obtain⟨_,_,_,_,_,_,_,_,h1,_⟩:=h;cases h1
   | exit Rx=>
    obtain⟨Ru,X1,e,ds,ρ',J8,he,h2⟩:=h;obtain⟨h3,h4⟩:=pz he;simp only[Exit.inBlock];rw[A0B h3];exact⟨Ru,X1,e,ds,ρ',J8,h4,h2⟩
   | ret=>exact h
   | goto l=>exact h
   | panic c=>exact h
   | outgrown=>exact h
  ·obtain⟨tb,tr,xA,htr,rfl⟩:=Aa hc;refine wpIn_block (wpIn_mono (ih mJ bO (dU.sub fun h=>h) (dp+1) σ _ _ tb env xA _ a w w0 X ρ hB hd hr hl fun Rx e he=>?_) fun e a' w' h=>?_)
   ·simp only[nu] at he;split at he
    ·cases he;exact⟨Nat.lt_succ_self _,A0m _⟩
    ·exact⟨D0i (hex Rx e he).1,(hex Rx e he).2⟩
   ·cases e with
    | normal=>
     exact AX.join (iv:=iv) (dp':=dp+1) (e:=.normal) htr (fun id e he=>(hex id e he).1) h
    | exit Rx=>
     obtain⟨Ru,X1,e,ds,ρ',J8,he,hQ,bg,hlen⟩:=h;simp only[nu] at he;simp only[Exit.inBlock];split at he
     ·rename_i e1;cases he;subst e1;rw[A0z rfl];simp only[cU,B0d] at hQ;rw[tS] at bg;exact⟨Ru,X1,env++ds,_,ρ',tr,J8,prefix_append _ _,by rw[A0u,hQ.1];exact htr,hQ.2,bg,hlen⟩
     ·rename_i e1;rw[A0B (B0O e1)];refine⟨Ru,X1,e,ds,ρ',J8,he,?_,bg,hlen⟩;simp only[cU] at hQ;rwa [A0B (D0f (hex Rx e he).1)] at hQ
    | ret=>exact h
    | goto l=>exact h
    | panic c=>exact h
    | outgrown=>exact h
 | loop body ih=>
  intro B iv rv rd nd mJ bO dU dp σ ex k t env hc Q a w w0 X ρ hB hd hr hl hex;simp only[compile,lu,A0b] at hc;obtain⟨⟨tm,n⟩,_,hc⟩:=hc;obtain⟨inits,tb,nh,xA,hn,rfl⟩:=Jk hc;simp only at nh xA hn;obtain⟨ds,bX,m,hm⟩:=hd;obtain⟨ρ1,bg,h1,h2⟩:=rm hr (A0m _) nh bX;rw[lB,tS] at bg;have htl:uD N tm:=⟨by rw[←h1];exact hl.1,by rw[←h2];exact hl.2⟩;have key:∀(m:Nat) (ds:List D) (a:Act) (w w0:World) (X:jN) (ρ:dD),B w0 X→rounds dp (fun ds Q=>ds.length=inits.length∧den P tb (env++ds) Q) Q m ds→aF w0 X w a tm (env++ds) ρ→Code.roundsIn (FW rd) nd P body (AX P B N iv env dp ex k Q) m a w:=by
   intro m
   induction m with
   | zero=>intro ds a w w0 X ρ _ hm _;exact hm.elim
   | succ m ihm=>
    intro ds a w w0 X ρ hB hm bg;obtain⟨fR,fD⟩:=hm;rw[roundsIn_succ];have hlen:(env++ds).length=env.length+n:=by rw[A0u,fR,hn]
    refine wpIn_mono (ih mJ bO (dU.sub fun h=>h) (dp+1) tm ex _ tb (env++ds) (by rw[hlen];exact xA) _ a w w0 X ρ hB fD bg htl fun id e he=>⟨D0i (hex id e he).1,A0J (hex id e he).2 (by simp)⟩) fun e a' w' h=>?_;cases e with
    | normal=>
     obtain⟨Ru,X1,env',σ',ρ',t',J8,gm,zf,UX,uQ,iH⟩:=h;obtain⟨args,hmt,rfl⟩:=A0a.1 zf;obtain⟨kL,nk,hQ⟩:=UX;simp only[cU,B0d] at hQ;have Z5:env <+: env':=(prefix_append env ds).trans gm;obtain⟨ρ2,Z1,_,_⟩:=rm uQ (C0Q Z5) hmt nk;rw[lB,take_prefix Z5 (A0m _),tS] at Z1;exact ihm kL a' w' Ru X1 ρ2 J8 hQ Z1
    | exit id=>
     obtain⟨Ru,X1,e,kL,ρ',J8,he,hQ,uQ,UB⟩:=h;have hb:=(hex id e he);refine⟨Ru,X1,e,kL,ρ',J8,he,?_,by rw[←take_prefix (prefix_append env ds) hb.2];exact uQ,UB⟩;simp only[cU] at hQ;rwa [A0B (D0f hb.1)] at hQ
    | ret=>exact h
    | goto l=>exact h
    | panic c=>exact h
    | outgrown=>exact h
  exact wpIn_loop_rounds m (key m ds a w w0 X ρ1 hB hm bg)
 | exit id=>
  intro B iv rv rd nd mJ bO dU dp σ ex k t env hc Q a w w0 X ρ hB hd hr hl hex;simp only[compile,lu,A0b] at hc;obtain⟨e,he,hc⟩:=hc;obtain⟨args,hm,rfl⟩:=A0a.1 hc;obtain⟨ds,bX,hQ⟩:=hd;obtain⟨ρ2,bg,h1,h2⟩:=rm hr (hex id e he).2 hm bX;exact wpIn_exit ⟨w0,X,e,ds,ρ2,hB,he,hQ,bg,by rw[←h1];exact hl.1,by rw[←h2];exact hl.2⟩
 | ret=>
  intro B iv rv rd nd mJ bO dU dp σ ex k t env hc Q a w w0 X ρ hB hd hr hl hex;simp only[compile,lu] at hc;obtain⟨x,hx,rfl⟩:=A0a.1 hc;obtain⟨d,bX,hQ⟩:=hd;exact wpIn_ret ⟨d,hQ,mJ w0 X hB σ x hx env ρ a w d hr bX⟩
 | rangeFunc g ps Ib body iF ih=>
  intro B iv rv rd nd mJ bO dU dp σ ex k t env hc Q a w w0 X ρ hB hd hr hl hex;simp only[compile,lu] at hc;split at hc
  ·rename_i xg cf hE hg vG;split at hc
   ·cases hc
   ·rename_i fQ;have fQ:cf.ro=false:=by simpa using fQ
    ·split at hc
     ·rename_i tb tr xA htr;cases hc;obtain⟨f,us,cs,st,eH,d,eT,h1,h2,h3,h4,h5,h6,h7,h8⟩:=hd;refine LV hr hl fQ vG hB hg (fun l e=>bO l e w0 X hB) ((dU.resolve_left (by simp[gY]))) (fun l w1 X1 σ1 ot Q1 a1 w2 ρ1 g1 g2 g3 g4 g5 g6=>?_) (fun l w1 X1 σ1 ot t1 Q1 a1 w2 ρ1 g1 g2 g4 g5 g6=>?_) h1 h2 h3 h4 h5 h6 h7 fun w1 X1 a' w' ρ' J8 bg=>?_
      ·refine iF (B:=fun w X=>w=w1∧X=X1) (rv:=fun _=>none) (iv:=fun _ _ _=>False) (rd:=some l) (nd:=0) (fun _ _ _ _ _ h=>by cases h) (fun l' e w3 X3 hB3=>by cases e;rw[hB3.1,hB3.2];exact g1) (.inr (.inl (by simp))) (dp+1) σ1 [] _ tb ot ?_ Q1 a1 w2 w1 X1 ρ1 ⟨rfl,rfl⟩ g4 g5 g6 fun id e he=>by simp[nu] at he
       rw[g2,g3];exact xA
      ·exact ih (B:=fun w X=>w=w1∧X=X1) (rv:=fun _=>none) (iv:=fun _ _ _=>False) (rd:=some l) (nd:=0) (fun _ _ _ _ _ h=>by cases h) (fun l' e w3 X3 hB3=>by cases e;rw[hB3.1,hB3.2];exact g1) (.inr (.inl (by simp))) (dp+1) σ1 [] _ t1 ot g2 Q1 a1 w2 w1 X1 ρ1 ⟨rfl,rfl⟩ g4 g5 g6 fun id e he=>by simp[nu] at he
      ·exact⟨w1,X1,env++[eT],_,ρ',tr,J8,prefix_append _ _,by rw[A0u];exact htr,h8,bg,by
        unfold oL;rw[vG];exact⟨by rw[ah.aP];exact hl.1,by rw[ah.fE];exact hl.2⟩⟩
     ·cases hc
  ·cases hc
 | refuse why=>
  intro B iv rv rd nd mJ bO dU dp σ ex k t env hc Q a w w0 X ρ hB hd;simp only[compile] at hc;rcases wP hc with hc | rfl
  ·cases hc
  ·exact absurd hd (E0 P)
 | _=>
  intro B iv rv rd nd mJ bO dU dp σ ex k t env hc;simp[compile] at hc
end
end
end
section
noncomputable section
def N1 (σ:ah):SV→Option E
 | .mE o=>match σ.obj o with
  | some (.row x _)=>some x
  | _=>none
 | sv=>sv.toE
def Gs (P:Program)(σ:ah):ResultVar→Option E
 | .tmp t=>N1 σ (σ.tmp t)
 | .cell t ty=>match σ.tmp t with
  | .addr o off=>match σ.obj o,jH P ty,r8 P ty with
   | some (.box cs),some true,some n=>if off+n≤cs.length then(SV.agg ((cs.drop off).take n)).toE else none
   | some (.box cs),some false,_=>(cs[off]?).bind (N1 σ)
   | _,_,_=>none
  | .e p _=>match σ.hs,jH P ty,r8 P ty with
   | some (.store _ h),some agg,some n=>some (.ld agg n h p)
   | _,_,_=>none
  | _=>none
def wJ (P:Program)(σ:ah):List ResultVar→Option E
 | []=>some .ai
 | r :: rs=>match Gs P σ r,wJ P σ rs with
  | some x,some y=>some (.aa x y)
  | _,_=>none
def SK (P:Program)(rs:List ResultVar)(σ:ah):Option E:=
 match rs with
 | [r]=>Gs P σ r
 | rs=>wJ P σ rs
def EN (ρ:dD)(σ:ah):Sets:=ρ.S.or fun b _=>∃o x sz,σ.obj o=some (.row x sz)∧ρ.blk o=b
section
variable {P:Program} {w w0:World} {X:jN} {a:Act} {σ:ah} {env:List D} {ρ:dD}
theorem bA.fin {v:Value}{d:D}(h:bA w ρ.S v d):bA w (EN ρ σ) v d:=h.keep (bM.refl _ _) (ρ.S.pe _)
theorem aa_ {o:Nat}{x:E}{sz:Nat}(ho:σ.obj o=some (.row x sz))(h:gP w ρ env o (.row x sz)):∃d,x.eval env=some d∧bA w (EN ρ σ) (ρ.val o) d:=by
 obtain⟨vs,ty,es,hh,hx,hz,hl,hr,hv,hm,hS⟩:=h;refine⟨_,hx,?_⟩;rw[hv];refine .bk (size:=sz) (val:=fun i j=>vs.getD (i*sz+j) undef) rfl (A0m _) hm hz (fun i e j d he hd=>(hr i e j d he hd).1) (fun i e j d he hd=>.inr ⟨o,x,sz,ho,rfl⟩) (fun i e j d he hd=>?_) fun i e j d he hd=>?_
 ·obtain⟨_,v,gQ,_⟩:=hr i e j d he hd;rw[A0Q,eM hh,gQ,A0s,gQ];rfl
 ·obtain⟨_,v,gQ,bO⟩:=hr i e j d he hd;rw[A0s,gQ];exact bO.fin
theorem II {sv:SV}{x:E}{v:Value}(h:N1 σ sv=some x)(hr:cS w ρ env v sv)(fC:∀o y,σ.obj o=some y→gP w ρ env o y):∃d,x.eval env=some d∧bA w (EN ρ σ) v d:=by
 unfold N1 at h;split at h
 ·rename_i o;split at h
  ·rename_i y sz ho;cases h;rw[hr.qM];exact aa_ ho (fC o _ ho)
  ·cases h
 ·obtain⟨d,hd,bO⟩:=SV.toE_rd h hr;exact⟨d,hd,bO.fin⟩
def jR (tmps:Array Value):ResultVar→Sem Value
 | .tmp t=>pure (tmps.getD t undef)
 | .cell a t=>do loadVar t (←asAddr (tmps.getD a undef))
theorem E8 (h:aF w0 X w a σ env ρ){r:ResultVar}{x:E}{d:D}(hx:Gs P σ r=some x)(he:x.eval env=some d):∃v,(jR a.tmps r).run P w=.ok v w∧bA w (EN ρ σ) v d:=by
 unfold Gs at hx;split at hx
 ·rename_i t;obtain⟨d',hd,bO⟩:=II hx (h.tmps t) h.cT;rw[he] at hd;cases hd;exact⟨_,rfl,bO⟩
 ·rename_i t ty;split at hx
  ·rename_i o off ht;have uP:=h.tmps t;rw[ht] at uP;have hv:=uP.j6;have bt:∀{v:Value},(loadVar ty ⟨ρ.blk o,off,none⟩).run P w=.ok v w→(jR a.tmps (.cell t ty)).run P w=.ok v w:=by intro v hl;simp only[jR,hv,asAddr,A0n,A0r,A0h,hl]
   split at hx
   ·rename_i cs n ho hg hn;obtain⟨vs,tyb,hh,hlen,cV,hr,_⟩:=h.cT o _ ho;split at hx
    ·rename_i hle;have hs:cS w ρ env (.agg ((vs.toList.drop off).take n).toArray) (.agg ((cs.drop off).take n)):=by
      refine .agg (by simp[hlen]) (fun i v hv=>?_) fun i v c hv hc=>?_
      ·simp only[A0R,A0H] at hv;split at hv
       ·exact cV (off+i) v (by simpa using hv)
       ·cases hv
      ·simp only[A0R,A0H] at hv hc;split at hv
       ·rename_i hi;rw[A0z hi] at hc;exact hr (off+i) v c (by simpa using hv) (by simpa using hc)
       ·cases hv
     obtain⟨d',hd,bO⟩:=SV.toE_rd hx hs;rw[he] at hd;cases hd;refine⟨_,bt (qR (vs:=(vs.toList.drop off).take n) hg hn (by simp[hlen];omega) fun j v hv=>?_),bO.fin⟩;rw[eM hh];rw[A0H] at hv;split at hv
     ·simpa using hv
     ·cases hv
    ·cases hx
   ·rename_i cs ho hg;obtain⟨vs,tyb,hh,hlen,cV,hr,_⟩:=h.cT o _ ho;obtain⟨c,hc,hx⟩:=A0b.1 hx;have hi:off<vs.size:=by rw[hlen];exact(A0c.1 hc).1
    obtain⟨d',hd,bO⟩:=II hx (hr off vs[off] c (by simp[hi]) hc) h.cT;rw[he] at hd;cases hd;exact⟨_,bt (qQ (v:=vs[off]) hg (by rw[eM hh];simp[hi])),bO⟩
   ·cases hx
  ·rename_i p s ht;have uP:=h.tmps t;rw[ht] at uP;obtain⟨dp,hp,RB,_⟩:=uP.jL;split at hx
   ·rename_i cf hh agg n vG hg hn;cases hx;obtain⟨bs,sk,hst,_⟩:=h.cT br (.store cf hh) (by rw[ah.ey,A0z rfl];exact vG);simp only[E.eval,sk,hp,A0d] at he;obtain⟨b,off,u,hv,bt,Uk,_⟩:=G0 hg hn RB (.inr hst) he;refine⟨u,?_,Uk.fin⟩;simp only[jR,hv,asAddr,A0n,A0r,A0h,bt]
   ·cases hx
  ·cases hx
theorem B5 (h:aF w0 X w a σ env ρ):∀{rs:List ResultVar} {x:E} {d:D},wJ P σ rs=some x→x.eval env=some d→∃vs ds,(rs.mapM (jR a.tmps)).run P w=.ok vs w∧d=.a_ ds∧vs.length=ds.length∧vs.length=rs.length∧∀(i:Nat) (v:Value) (d:D),vs[i]? = some v→ds[i]? = some d→bA w (EN ρ σ) v d
 | [],x,d,hx,he=>by simp[wJ] at hx;subst hx;simp[E.eval] at he;exact⟨[],[],rfl,he.symm,rfl,rfl,by simp⟩
 | r :: rs,x,d,hx,he=>by
  simp only[wJ] at hx;split at hx
  ·rename_i y z hy hz;cases hx;simp only[E.eval,A0b] at he;obtain⟨d1,FE,d2,yu,he⟩:=he;obtain⟨v,h1,h3⟩:=E8 h hy FE;obtain⟨vs,ds,h4,rfl,h6,h6',h7⟩:=B5 h hz yu;simp only[D.aa] at he;cases he;refine⟨v :: vs,d1 :: ds,by simp only[C0U,A0n,h1,A0h,h4,A0r],rfl,by simp[h6],by simp[h6'],fun i v' d' hv hd=>?_⟩;cases i with
   | zero=>simp at hv hd;subst hv hd;exact h3
   | succ i=>exact h7 i v' d' (by simpa using hv) (by simpa using hd)
  ·cases hx
theorem oW (fn:Func)(tmps:Array Value){vs:List Value}(h:(fn.results.toList.mapM (jR tmps)).run P w=.ok vs w):(results fn tmps).run P w=.ok (if h:vs.length=1 then vs[0] else .tuple vs.toArray) w:=by
 have he:results fn tmps=(do let vs ←fn.results.mapM (jR tmps);pure (if h:vs.size=1 then vs[0] else .tuple vs)):=by unfold results;congr 1
 rw[he,Array.mapM_eq_mapM_toList];simp only[A0n,Sem.run_map,h,A0h,A0r,B0I];congr 1
theorem IJ (h:aF w0 X w a σ env ρ){fn:Func}{x:E}{d:D}(hx:SK P fn.results.toList σ=some x)(he:x.eval env=some d):∃v,(results fn a.tmps).run P w=.ok v w∧bA w (EN ρ σ) v d:=by
 unfold SK at hx;split at hx
 ·rename_i r hr;obtain⟨v,h1,h3⟩:=E8 h hx he;refine⟨v,?_,h3⟩;have:=oW (P:=P) (w:=w) fn a.tmps (vs:=[v]) (by rw[hr];simp only[C0U,List.mapM_nil,A0n,h1,A0h,A0r]);simpa using this
 ·rename_i bQ;obtain⟨vs,ds,h1,rfl,h3,h3',h4⟩:=B5 h hx he;have:=oW (P:=P) (w:=w) fn a.tmps h1;rw[dif_neg ?_] at this
  ·exact⟨_,this,.a_ (by simpa using h3) fun i v d hv hd=>h4 i v d (by simpa using hv) hd⟩
  ·intro hl;rw[hl] at h3'
   match kf:fn.results.toList,h3' with
   | [r],_=>exact bQ r kf
end
def bK (P:Program)(fn:Func):List Bool:=(fn.params.toList.map fun t=>decide (jH P t=some false))++List.replicate fn.nfree true
def cQ (fn:Func):Nat:=fn.params.size+fn.nfree
def iZ:Nat→List Bool→List SV
 | _,[]=>[]
 | i,b :: r=>.e (.sym i) b :: iZ (i+1) r
def cN (cf:cF)(n np:Nat)(bs:List Bool):ah:={ tmps:=iZ 0 bs++List.replicate (n-bs.length) .cz,mem:=List.replicate n none,hs:=some (.store cf (.sym np)) }
def mF (P:Program)(rs:List ResultVar)(σ:ah):Option E:=
 match SK P rs σ,σ.hs with
 | some x,some (.store _ h)=>some (.aa x (.aa h .ai))
 | _,_=>none
def jE (P:Program)(cf:cF)(fn:Func):Option T:=
 match fn.body with
 | none=>none
 | some c=>if fn.ntmps<cQ fn∨br<fn.ntmps then none else compile P (mF P fn.results.toList) c 0 (cQ fn+1) (cN cf fn.ntmps (cQ fn) (bK P fn)) [] fun _ _ σ=>(mF P fn.results.toList σ).map T.ret
def dA:List Bool→List D→Bool
 | [],[]=>true
 | b :: r,d :: s=>(!b||d.one)&&dA r s
 | _,_=>false
theorem fU:∀{bs:List Bool} {ds:List D},dA bs ds=true→bs.length=ds.length∧∀(i:Nat) (b:Bool) (d:D),bs[i]? = some b→ds[i]? = some d→b=true→d.one=true
 | [],[],_=>⟨rfl,by simp⟩
 | [],_ :: _,h=>by simp[dA] at h
 | _ :: _,[],h=>by simp[dA] at h
 | b :: r,d :: s,h=>by
  simp only[dA,A0f,B0v,B0j] at h;obtain⟨h1,h2⟩:=fU h.2;refine⟨by simp[h1],fun i b' d' hb hd ht=>?_⟩;cases i with
  | zero=>simp at hb hd;subst hb hd;exact h.1.resolve_left (by simp[ht])
  | succ i=>exact h2 i b' d' (by simpa using hb) (by simpa using hd) ht
theorem pN:∀{bs:List Bool} {k i:Nat} {c:SV},(iZ k bs)[i]? = some c→∃b,bs[i]? = some b∧c=.e (.sym (k+i)) b
 | [],_,_,_,h=>by simp[iZ] at h
 | b :: r,k,0,c,h=>by simp[iZ] at h;exact⟨b,rfl,h.symm⟩
 | b :: r,k,i+1,c,h=>by obtain⟨b',h1,h2⟩:=pN (bs:=r) (k:=k+1) (i:=i) (by simpa[iZ] using h);exact⟨b',by simpa using h1,by rw[h2,show k+1+i=k+(i+1) from by omega]⟩
theorem d_:∀(bs:List Bool) (k:Nat),(iZ k bs).length=bs.length
 | [],_=>rfl
 | _ :: r,k=>by simp[iZ,d_ r]
theorem Ju {w w':World}{a:Act}{σ:ah}{env:List D}{ρ:dD}{S:Sets}{az may:Nat→Prop}{EJ:List Deferred}{bs:List D}{cf:cF}{x:E}(h:aF w ⟨may,S,az,EJ⟩ w' a σ env ρ)(hst:cI w' ρ.S ρ.az bs)(cO:σ.obj br=some (.store cf x))(tg:∀b,may b→az b):Left w S az may w' (EN ρ σ) ρ.az bs:=by
 have h0:=o_ h hst ⟨cf,x,cO⟩ tg;have uR:∀b off,ρ.az b→¬EN ρ σ b off:=by
  intro b off WG hs;rcases hs with hs | ⟨o,x',sz,ho,hb⟩
  ·exact hst.v_ b off WG hs
  ·have:=h.inj o br _ _ b ho cO hb WG;subst this;rw[cO] at ho;cases ho
 refine⟨?_,Sets.le_trans h.sub (ρ.S.pe _),h.os,h.tape,h.output,h.grown,h.old,h0.ft,fun b o hs=>?_,fun b o hs=>?_⟩
 ·refine⟨hst.n,fun i e sz cs hi=>?_,uR,fun i bU hi=>?_,hst.inj,fun i z hi hz=>?_⟩
  ·obtain⟨pU,us,g1,g2,g3,g4,g5,g6⟩:=hst.cells i e sz cs hi;exact⟨pU,us,g1,g2,g3,g4,fun j u d hu hd=>(g5 j u d hu hd).fin,fun off=>uR _ off pU⟩
  ·obtain⟨pU,es,clock,g1,g2,g3,g4⟩:=hst.maps i bU hi;refine⟨pU,es,clock,g1,g2,fun off=>uR _ off pU,fun j e kv he iM=>?_⟩;obtain⟨dk,dv,g5,g6,g7⟩:=g4 j e kv he iM;exact⟨dk,dv,g5,g6.fin,g7.fin⟩
  ·obtain⟨pU,g1,_⟩:=hst.s7 i z hi hz;exact⟨pU,g1,fun off=>uR _ off pU⟩
 ·rcases hs with hs | ⟨o',x',sz,ho,rfl⟩
  ·exact h0.new b o hs
  ·rcases(h.own o' _ _ ho rfl).1 with g | g | g
   ·cases g.1
   ·exact .inr (.inr g)
   ·exact .inr (.inl g)
 ·rcases hs with hs | ⟨o',x',sz,ho,rfl⟩
  ·exact h.cells b o hs
  ·exact(h.own o' _ _ ho rfl).2
def D_ (Qd:D→D→Prop)(Qp:D→D→Prop):gu→Prop
 | .ret (.a_ [d,st])=>Qd d st
 | .ee d st _ _=>Qp d st
 | _=>False
theorem nE {P:Program} {cf:cF} {f:FuncId} {fn:Func} {t:T} {ds:List D} {bs:List D} {Qd Qp:D→D→Prop} (hf:P.funcs[f]? = some fn) (hc:jE P cf fn=some t) (dQ:dA (bK P fn) ds=true) (fD:den P t (ds++[.st bs]) (D_ Qd Qp))
  {w:World} {S:Sets} {az may:Nat→Prop} {vs:Array Value} (hst:cI w S az bs) (dN:pZ w S az) (fG:∀b,az b→b<w.heap.size) (hS:∀b o,S b o→b<w.heap.size) (iL:vs.size=ds.length) (bO:∀(i:Nat) (v:Value) (x:D),vs[i]? = some v→ds[i]? = some x→bA w S v x)
  (JR:∀b,az b→cf.ro=true∨may b) (tg:∀b,may b→az b) :
  Calls P f vs w fun e w'=>∃(o:Out) (v:Value) (S':Sets) (bJ:Nat→Prop) (bs':List D),(match o with | .ret d=>Qd d (.st bs') | .ee d=>Qp d (.st bs'))∧o.ends w' S' v e∧Left w S az may w' S' bJ bs':=by
 obtain⟨uT,Aj⟩:=fU dQ;have mR:(bK P fn).length=cQ fn:=by simp[bK,cQ]
 unfold jE at hc;split at hc
 ·cases hc
 ·rename_i c xK;split at hc
  ·cases hc
  ·rename_i Ll;rw[E0G] at Ll;refine(callsIn_wide (n:=0)).1 (callsIn_of_wp_marks (F:=Fence.wide) hf xK trivial ?_);show c.wpIn (FW none) 0 P _ _ _;have bg:aF w ⟨may,S,az,[]⟩ w { tmps:=vs++Array.replicate (fn.ntmps-vs.size) undef,defers:=[] } (cN cf fn.ntmps (cQ fn) (bK P fn)) (ds++[.st bs]) { blk:=fun _=>0,val:=fun _=>undef,S:=S,az:=az }:=by
    have fC:∀o x,(cN cf fn.ntmps (cQ fn) (bK P fn)).obj o=some x→o=br∧x=.store cf (.sym (cQ fn)):=by
     intro o x hx;simp only[ah.ey,cN,A0k,B0o] at hx;split at hx
     ·cases hx;exact⟨by assumption,rfl⟩
     ·split at hx <;> simp at hx
    refine⟨by simp[cN,d_,iL,uT],fun t=>?_,fun o x hx=>?_,fun o o' x x' b hx fm _ _=>?_,fun o x b hx hb=>?_,hS,rfl,.refl _,rfl,A0m _,fun _ _ _=>rfl,Sets.le_refl _,fun _ _ h=>.inl h,rfl,fun l rec hl=>⟨(dN l rec hl).1,fun hm=>(dN l rec hl).2 (tg l hm),(dN l rec hl).2⟩⟩
    ·simp only[ah.gD,cN,A0k];rcases A0U t (bK P fn).length with ht | ht
     ·rw[A0g (by rw[d_];exact ht)];cases hs:(iZ 0 (bK P fn))[t]? with
      | none=>exact .cz
      | some c=>
       obtain⟨b,hb,rfl⟩:=pN hs;have Ue:t<ds.length:=by omega
       have htv:t<vs.size:=by omega
       simp only[B0l,A0Q];have fB:(vs++Array.replicate (fn.ntmps-vs.size) undef).getD t undef=vs[t]:=by rw[A0s,C0i htv,A0p htv];rfl
       rw[fB];exact .e (d:=ds[t]) (by simp[E.eval,A0g Ue,Ue]) (bO t _ _ (A0p htv) (A0e Ue)) fun Yq=>Aj t b _ hb (A0e Ue) Yq
     ·rw[A0o (by rw[d_];exact ht),B0o];split <;> exact .cz
    ·obtain⟨rfl,rfl⟩:=fC o x hx;refine⟨bs,?_,hst,rfl⟩;simp only[E.eval];rw[A0o (by omega)];simp[show cQ fn-ds.length=0 from by omega]
    ·obtain⟨rfl,_⟩:=fC o x hx;obtain⟨rfl,_⟩:=fC o' x' fm;rfl
    ·obtain⟨rfl,rfl⟩:=fC o x hx;exact⟨(JR b hb).imp (fun e=>⟨e,hb⟩) .inr,fG b hb⟩
   have WA:∀{w1 w':World} {X1:jN} {a':Act} {σ:ah} {env:List D} {ρ:dD} {u:FrameMode} {R:Ending→World→Prop},u≠.run→Ext w ⟨may,S,az,[]⟩ w1 X1→aF w1 X1 w' a' σ env ρ→(∀w2,aF w ⟨may,S,az,X1.EJ⟩ w2 a' σ env ρ→(∀b o,w2.cell? ⟨b,o,none⟩=w'.cell? ⟨b,o,none⟩)→(∀o x b,σ.obj o=some x→bN ρ o x b→w2.heap[b]? = w'.heap[b]?)→LeavesIn Fence.wide 0 P fn a'.tmps R [] u w2)→LeavesInM Fence.wide 0 P fn a'.tmps R a'.defers u w':=by
    intro w1 w' X1 a' σ env ρ u R hu hx hr h;obtain⟨cs,h1,h2,h3⟩:=hx.EJ;have h0:=hx.rep hr bg.hold;rw[hr.yo,h1,B0F];refine xm hu cs w' h2 (fun D hD=>?_) fun w2 hm=>h w2 (aF.marked hr h0 (fun D hD=>?_) hm) hm.cell fun o x b hx hb=>hm.other b fun hD=>?_
    ·obtain⟨g1,g2,g3,g4⟩:=h3 D hD;exact(hr.old D (A0l.1 g1).1 g2).trans g1
    ·obtain⟨g1,g2,g3,g4⟩:=h3 D hD;exact⟨(A0l.1 g1).1,g2,g3,g4⟩
    ·obtain⟨g1,g2,g3,g4⟩:=h3 b hD;have:=(A0l.1 g1).1;rcases(hr.own o x b hx hb).1 with g | g | g
     ·exact g3 g.2
     ·omega
     ·exact g2 g
   obtain⟨R,hR⟩:∃R:Ending→World→Prop,R=fun e w'=>∃(o:Out) (v:Value) (S':Sets) (bJ:Nat→Prop) (bs':List D),(match o with | .ret d=>Qd d (.st bs') | .ee d=>Qp d (.st bs'))∧o.ends w' S' v e∧Left w S az may w' S' bJ bs':=⟨_,rfl⟩;rw[←hR];have mM:∀(w1:World) (X1:jN) (σ:ah) (x:E) (env:List D) (ρ:dD) (a':Act) (w':World) (d':D),Ext w ⟨may,S,az,[]⟩ w1 X1→mF P fn.results.toList σ=some x→aF w1 X1 w' a' σ env ρ→x.eval env=some d' →
     ∃d0 bs',d'=.a_ [d0,.st bs']∧(Qd d0 (.st bs')→LeavesInM Fence.wide 0 P fn a'.tmps R a'.defers .returning w'):=by
    intro w1 X1 σ x env ρ a' w' d' Ht hx hr he;unfold mF at hx;split at hx
    ·rename_i y zF hh hy vG;cases hx;have cO:σ.obj br=some (.store zF hh):=by rw[ah.ey,A0z rfl];exact vG
     obtain⟨bs',sk,_,_⟩:=hr.cT _ _ cO;simp only[E.eval,sk,A0d,D.aa,A0b] at he;obtain⟨d2,h2,he⟩:=he;cases he;refine⟨d2,bs',rfl,fun hq=>WA (by simp) Ht hr fun w2 Fz _ _=>?_⟩;obtain⟨nS,wh,C3,_⟩:=Fz.cT _ _ cO;rw[sk] at wh;cases wh;obtain⟨v,h1,h3⟩:=IJ Fz hy h2;refine⟨v,h1,?_⟩;rw[hR];exact⟨.ret d2,v,EN ρ σ,ρ.az,bs',hq,⟨rfl,h3⟩,Ju Fz C3 cO tg⟩
    ·cases hx
   have Da:uD fn.ntmps (cN cf fn.ntmps (cQ fn) (bK P fn)):=⟨by simp[cN,d_,mR];omega,by simp[cN]⟩;have hs:=me (P:=P) (N:=fn.ntmps) c (B:=fun w1 X1=>Ext w ⟨may,S,az,[]⟩ w1 X1) (iv:=fun w' a' d'=>∃d0 bs',d'=.a_ [d0,.st bs']∧(Qd d0 (.st bs')→LeavesInM Fence.wide 0 P fn a'.tmps R a'.defers .returning w')) (rd:=none) (nd:=0)
    (rv:=mF P fn.results.toList) (fun w1 X1 hB σ x hx env ρ a w' d hr he=>mM w1 X1 σ x env ρ a w' d hB hx hr he) (fun l e=>by cases e) (.inr (.inr fun _ _ _ _ h k=>h.trans k)) 0 _ [] _ t (ds++[.st bs]) (by rw[A0u,←uT,mR];exact hc) _ _ w w ⟨may,S,az,[]⟩ _ (Ext.refl _ _) fD bg Da (fun id e he=>by simp[nu] at he)
   refine wpIn_mono hs fun e a' w' h=>?_;cases e with
   | normal=>
    obtain⟨w1,X1,env',σ',ρ',t',Ht,_,hk,fo,kg,_⟩:=h;obtain⟨x,hx,rfl⟩:=A0a.1 hk;obtain⟨d',he,hq⟩:=fo;obtain⟨d0,bs',rfl,h3⟩:=mM w1 X1 σ' x env' ρ' a' w' d' Ht hx kg he;exact h3 hq
   | ret=>
    obtain⟨d',hq,d0,bs',rfl,h3⟩:=h;exact h3 hq
   | exit id=>obtain⟨_,_,e,_,_,_,he,_⟩:=h;simp[nu] at he
   | goto l=>exact h.elim
   | panic c=>
    obtain⟨w1,X1,σ,env,ρ,v,d,bs',Ht,rfl,hr,bO,dP,yw,_,_,hq⟩:=h;refine WA (by simp) Ht hr fun w2 Fz jK hblk=>?_;show R _ w2;rw[hR];obtain⟨zF,hh,cO⟩:=yw;have hk:bM ρ.S w' w2:=fun b o _=>jK b o;have C3:cI w2 ρ.S ρ.az bs':=dP.to ⟨fun _ _ h=>h,rfl,fun _=>rfl,fun _=>rfl,fun _=>rfl⟩ (fun _ _ h=>h) (fun b hb=>hblk br _ b cO hb) fun v d i x _ _ h=>h.keep hk (Sets.le_refl _);exact⟨.ee d,v,ρ.S,ρ.az,bs',hq,⟨rfl,bO.keep hk (Sets.le_refl _)⟩,o_ Fz C3 ⟨zF,hh,cO⟩ tg⟩
   | outgrown=>exact h.elim
def rT (o:Out)(st:D):gu→Prop:=
 match o with
 | .ret d=>fun s=>s=.ret (.a_ [d,st])
 | .ee d=>fun s=>∃sl kd,s=.ee d st sl kd
theorem rT.as {o:Out}{st:D}{s:gu}(h:rT o st s):D_ (fun d eT=>o=.ret d∧eT=st) (fun d eT=>o=.ee d∧eT=st) s:=by
 cases o with
 | ret d=>cases h;exact⟨rfl,rfl⟩
 | ee d=>obtain⟨_,_,rfl⟩:=h;exact⟨rfl,rfl⟩
theorem M1 {P:Program}{cf:cF}{f:FuncId}{fn:Func}{t:T}{ds:List D}{bs:List D}{o:Out}(fQ:cf.ro=true)(hf:P.funcs[f]? = some fn)(hc:jE P cf fn=some t)(dQ:dA (bK P fn) ds=true)(fD:den P t (ds++[.st bs]) (rT o (.st bs))) :
  eS P f (.st bs) ds o:=by
 intro w S az oD vs hb hst dN fG hS iL bO;cases hb;refine(nE (may:=fun _=>False) hf hc dQ (dJ (fun s hs=>hs.as) fD) hst dN fG hS iL bO (fun _ _=>.inl fQ) fun _ hf=>hf.elim).mono ?_
 rintro e w' ⟨o',v,S',bJ,bs',hq,eb,hl⟩
 have:o'=o∧bs'=bs:=by cases o' <;> (obtain⟨rfl,h2⟩:=hq;cases h2;exact⟨rfl,rfl⟩)
 obtain⟨rfl,rfl⟩:=this;exact⟨v,S',eb,⟨⟨hl.os,hl.tape.tape,hl.output,hl.size,fun b hb=>hl.old b hb fun hf=>hf⟩,hl.tape.dr⟩,hl.le,by rw[hl.st.n,hst.n],fun b o hs=>(hl.new b o hs).imp_right fun g=>g.resolve_left fun hf=>hf,hl.lt⟩
theorem Br {P:Program}{cf:cF}{f:FuncId}{fn:Func}{t:T}{ds:List D}{bs bs':List D}{o:Out}(hf:P.funcs[f]? = some fn)(hc:jE P cf fn=some t)(dQ:dA (bK P fn) ds=true)(fD:den P t (ds++[.st bs]) (rT o (.st bs'))) :
  bu P f (.st bs) ds o (.st bs'):=by
 intro w S az oD vs hb hst dN fG hS iL bO;cases hb;refine(nE (may:=az) hf hc dQ (dJ (fun s hs=>hs.as) fD) hst dN fG hS iL bO (fun _ h=>.inr h) fun _ h=>h).mono ?_
 rintro e w' ⟨o',v,S',bJ,V2,hq,eb,hl⟩
 have:o'=o∧V2=bs':=by cases o' <;> (obtain⟨rfl,h2⟩:=hq;cases h2;exact⟨rfl,rfl⟩)
 obtain⟨rfl,rfl⟩:=this;exact⟨v,S',bJ,_,eb,rfl,hl.st,fun b o hs=>A0V (a:=⟨b,o,none⟩) (hl.old b (hS b o hs) fun hf=>hst.v_ b o hf hs),hl.le,hl.os,hl.tape,hl.output,hl.size,hl.old,hl.ft,hl.new,hl.lt⟩
end
end
section
noncomputable section
def pI:Code→List Oper
 | .region _ ops _=>ops.toList
 | .seq a b | .cond _ a b=>pI a++pI b
 | .block _ b | .loop b | .scope b=>pI b
 | .rangeFunc _ _ a b=>pI a++pI b
 | _=>[]
def tmpsOf (xs:List Operand):List Nat:=xs.filterMap fun | .tmp t=>some t | _=>none
def captured (os:List Oper):List Nat:=os.flatMap fun o=>match o.op with
 | .makeFunc _ _ cs=>tmpsOf cs.toList
 | _=>[]
def Ss (os:List Oper):List Nat:=os.flatMap fun o=>match o.op with
 | .store _ (.tmp t) _=>[t]
 | _=>[]
def boxed (os:List Oper):List Nat:=os.filterMap fun o=>match o.op with
 | .box _ _=>o.dst
 | _=>none
def Za (os:List Oper):List Nat:=os.filterMap fun o=>match o.op with
 | .alloc _=>o.dst
 | _=>none
def handed (os:List Oper):List Nat:=os.flatMap fun o=>match o.op with
 | .call c=>tmpsOf c.args.toList
 | _=>[]
def wL:Code→List Oper
 | .seq a b | .cond _ a b=>wL a++wL b
 | .block _ b | .loop b | .scope b=>wL b
 | .rangeFunc _ _ a b=>pI a++pI b
 | _=>[]
def aq (ro:Bool)(wr ee more:List Nat)(M3:List (Nat×Nat))(fn:Func):cF:=
  let os:=match fn.body with | some c=>pI c | none=>[]
  let cap:=captured os++(match fn.body with | some c=>(wL c).flatMap (fun o=>tmpsOf o.op.operands.toList) | none=>[])
  let st:=Ss os
  { ro:=ro,wr:=wr,ee:=ee,M3:=M3,
    adr:=(boxed os).filter fun d=>cap.contains d&&!st.contains d&&!more.contains d,
    B_:=((boxed os).filter fun d=>cap.contains d&&st.contains d)++((Za os).filter fun d=>(cap.contains d||(handed os).contains d)&&!(M3.map (·.2)).contains d)++more }
end
end
section
noncomputable section
def Out.gL:Out→Bool
 | .ret d | .ee d=>d.gL
theorem bu.Tp {P:Program}{f:FuncId}{ds:List D}{o:Out}{h':D}(h:bu P f (.st []) ds o h')(kQ:eD ds=true)(ho:o.gL=true)(bs:List D):eS P f (.st bs) ds o:=by
 intro w S az oD vs hb hst dN fG hS iL bO
 let S0:Sets:={ mem:=S.mem,loc:=fun _=>0,n:=0,cap:=fun _=>0 }
 have zg:cI w S0 (fun _=>False) []:=⟨rfl,fun i e sz cs hi=>by simp at hi,fun b off hf=>hf.elim,fun i bU hi=>by simp at hi,fun i j x y hi=>by simp at hi,fun i z hi=>by simp at hi⟩;refine(h w S0 (fun _=>False) [] vs rfl zg (fun l rec hl=>by cases hl) (fun _ hf=>hf.elim) hS iL fun i v x hv hx=>(bO i v x hv hx).free (fun _ _ h=>h) (f_ kQ hx)).mono ?_
 rintro e w' ⟨v,S',bJ,bs',eb,_,_,hK,hle,nZ,ql,fZ,bV,hold,RI,kP,hlt⟩
 refine⟨v,{ S with mem:=S'.mem },?_,⟨⟨nZ,ql.tape,fZ,bV,fun b hb=>hold b hb fun hf=>hf⟩,ql.dr⟩,⟨hle.mem,A0m _,fun _ _=>rfl,fun _ _=>rfl,rfl,fun _ _=>rfl⟩,rfl,fun b o hs=>?_,hlt⟩
 ·cases o with
  | ret d=>exact⟨eb.1,eb.2.free (fun _ _ h=>h) ho⟩
  | ee d=>exact⟨eb.1,eb.2.free (fun _ _ h=>h) ho⟩
 ·rcases kP b o hs with g | g | g
  ·exact .inl g
  ·exact g.elim
  ·exact .inr g
end
end
section
noncomputable section
def vl (m:Option D):D:=match m with | none=>.v .nilIface | some d=>d
def IK:Code→Option (Nat×Nat×Code)
 | .seq (.region _ ops false) rest=>match ops.toList with
  | [o0,o1]=>(match o0.op,o0.guard,o0.dst,o1.op,o1.guard,o1.dst with
   | .call { callee:=.builtin .recover,args:=_,argTypes:=_ },none,some d,.assign (.tmp t),none,some d'=>if t=d then some (d,d',rest) else none
   | _,_,_,_,_,_=>none)
  | _=>none
 | _=>none
def oC (P:Program)(cf:cF)(fn:Func):Option T:=
 match fn.body with
 | none=>none
 | some c=>match IK c with
  | none=>none
  | some (d,d',rest)=>if gY rest=false then none else if fn.ntmps<cQ fn∨br<fn.ntmps∨fn.ntmps≤d∨fn.ntmps≤d' then none else
   compile P (mF P fn.results.toList) rest 0 (cQ fn+2) (((cN cf fn.ntmps (cQ fn) (bK P fn)).put (some d) (.e (.sym (cQ fn+1)) true)).put (some d') (.e (.sym (cQ fn+1)) true)) [] fun _ _ σ=>(mF P fn.results.toList σ).map T.ret
section
variable {P:Program}
theorem E1 {cf:cF} {fn:Func} {ds bs:List D} {w:World} {S:Sets} {az may:Nat→Prop} {vs:Array Value} (dQ:dA (bK P fn) ds=true) (hst:cI w S az bs) (dN:pZ w S az) (tg:∀b,may b→az b) (fG:∀b,az b→b<w.heap.size) (hS:∀b o,S b o→b<w.heap.size) (iL:vs.size=ds.length) (bO:∀(i:Nat) (v:Value) (x:D),vs[i]? = some v→ds[i]? = some x→bA w S v x)
  (JR:∀b,az b→cf.ro=true∨may b) :
  aF w ⟨may,S,az,[]⟩ w { tmps:=vs++Array.replicate (fn.ntmps-vs.size) undef,defers:=[] } (cN cf fn.ntmps (cQ fn) (bK P fn)) (ds++[.st bs]) { blk:=fun _=>0,val:=fun _=>undef,S:=S,az:=az }:=by
 obtain⟨uT,Aj⟩:=fU dQ;have mR:(bK P fn).length=cQ fn:=by simp[bK,cQ]
 have fC:∀o x,(cN cf fn.ntmps (cQ fn) (bK P fn)).obj o=some x→o=br∧x=.store cf (.sym (cQ fn)):=by
  intro o x hx;simp only[ah.ey,cN,A0k,B0o] at hx;split at hx
  ·cases hx;exact⟨by assumption,rfl⟩
  ·split at hx <;> simp at hx
 refine⟨by simp[cN,d_,iL,uT],fun t=>?_,fun o x hx=>?_,fun o o' x x' b hx fm _ _=>?_,fun o x b hx hb=>?_,hS,rfl,.refl _,rfl,A0m _,fun _ _ _=>rfl,Sets.le_refl _,fun _ _ h=>.inl h,rfl,fun l rec hl=>⟨(dN l rec hl).1,fun hm=>(dN l rec hl).2 (tg l hm),(dN l rec hl).2⟩⟩
 ·simp only[ah.gD,cN,A0k];rcases A0U t (bK P fn).length with ht | ht
  ·rw[A0g (by rw[d_];exact ht)];cases hs:(iZ 0 (bK P fn))[t]? with
   | none=>exact .cz
   | some c=>
    obtain⟨b,hb,rfl⟩:=pN hs;have Ue:t<ds.length:=by omega
    have htv:t<vs.size:=by omega
    simp only[B0l,A0Q];have fB:(vs++Array.replicate (fn.ntmps-vs.size) undef).getD t undef=vs[t]:=by rw[A0s,C0i htv,A0p htv];rfl
    rw[fB];exact .e (d:=ds[t]) (by simp[E.eval,A0g Ue,Ue]) (bO t _ _ (A0p htv) (A0e Ue)) fun Yq=>Aj t b _ hb (A0e Ue) Yq
  ·rw[A0o (by rw[d_];exact ht),B0o];split <;> exact .cz
 ·obtain⟨rfl,rfl⟩:=fC o x hx;refine⟨bs,?_,hst,rfl⟩;simp only[E.eval];rw[A0o (by omega)];simp[show cQ fn-ds.length=0 from by omega]
 ·obtain⟨rfl,_⟩:=fC o x hx;obtain⟨rfl,_⟩:=fC o' x' fm;rfl
 ·obtain⟨rfl,rfl⟩:=fC o x hx;exact⟨(JR b hb).imp (fun e=>⟨e,hb⟩) .inr,fG b hb⟩
theorem Gr {fn:Func}{w:World}{S:Sets}{az may:Nat→Prop}{σ:ah}{x:E}{env:List D}{ρ:dD}{a':Act}{w':World}{d':D}(tg:∀b,may b→az b)(hx:mF P fn.results.toList σ=some x)(hr:aF w ⟨may,S,az,[]⟩ w' a' σ env ρ)(he:x.eval env=some d') :
  a'.defers=[]∧∃(v:Value) (d0:D) (bs':List D) (S':Sets) (bJ:Nat→Prop),(results fn a'.tmps).run P w'=.ok v w'∧d'=.a_ [d0,.st bs']∧bA w' S' v d0∧Left w S az may w' S' bJ bs':=by
 unfold mF at hx;split at hx
 ·rename_i y zF hh hy vG;cases hx;have cO:σ.obj br=some (.store zF hh):=by rw[ah.ey,A0z rfl];exact vG
  obtain⟨bs',sk,dP,_⟩:=hr.cT _ _ cO;simp only[E.eval,sk,A0d,D.aa,A0b] at he;obtain⟨d2,h2,he⟩:=he;obtain⟨v,h1,h3⟩:=IJ hr hy h2;cases he;exact⟨hr.yo,v,d2,bs',EN ρ σ,ρ.az,h1,rfl,h3,Ju hr dP cO tg⟩
 ·cases hx
theorem Vd {cf:cF}{f:FuncId}{fn:Func}{t:T}{cs:List D}{bs bs':List D}{m:Option D}{d0:D}(hf:P.funcs[f]? = some fn)(hc:oC P cf fn=some t)(dQ:dA (bK P fn) cs=true)(hm:(vl m).one=true)(fD:den P t (cs++[.st bs,vl m]) fun s=>s=.ret (.a_ [d0,.st bs'])) :
  rS P f (.st bs) cs m (.st bs'):=by
 intro w S az oD vs u hb hst dN fG hS iL bO hu;cases hb;unfold oC at hc;split at hc
 ·cases hc
 rename_i c xK;split at hc
 ·cases hc
 rename_i d d' rest mI;split at hc
 ·cases hc
 rename_i Qx;have Qx:gY rest=true:=by simpa using Qx
 split at hc
 ·cases hc
 rename_i Ll;rw[E0G,E0G,E0G] at Ll;obtain⟨Qy,Ee,hn3,hn4⟩:=Ll;obtain⟨uT,Aj⟩:=fU dQ;have mR:(bK P fn).length=cQ fn:=by simp[bK,cQ]
 obtain⟨id,ops,o0,o1,as,ts,rfl,Up,U_,h01,h02,zl,Lp,h12⟩:∃id ops o0 o1 as ts,c=.seq (.region id ops false) rest∧ops.toList=[o0,o1]∧o0.op=.call { callee:=.builtin .recover,args:=as,argTypes:=ts }∧o0.guard=none∧o0.dst=some d∧o1.op=.assign (.tmp d)∧o1.guard=none∧o1.dst=some d':=by
  unfold IK at mI;split at mI
  ·rename_i id ops Zw;split at mI
   ·rename_i o0 o1 Up;split at mI
    ·rename_i as ts d1 t1 d2 g1 g2 g3 g4 g5 g6;split at mI
     ·rename_i Ue;cases mI;exact⟨id,ops,o0,o1,as,ts,rfl,Up,g1,g2,g3,by rw[g4,Ue],g5,g6⟩
     ·cases mI
    ·cases mI
   ·cases mI
  ·cases mI
 have hoa:ops=#[o0,o1]:=by rw[←B0b (xs:=ops),Up]
 subst hoa;have MM:=E1 (may:=az) (cf:=cf) dQ hst dN (fun _ h=>h) fG hS iL bO fun _ h=>.inr h;have acz:cs++[.st bs,vl m]=(cs++[.st bs])++[vl m]:=by simp
 have kC:∃v u',bA w S v (vl m)∧settle u'=.returning∧∀(c₀:Frame) (fs:List Frame),c₀.mode=u→(match recoverD (c₀ :: fs) with | some (v',vR)=>v'=v∧vR={ c₀ with mode:=u' } :: fs | none=>v=.nilIface∧u'=u):=by
  cases m with
  | none=>
   refine⟨.nilIface,u,.v rfl,?_,fun c₀ fs hm=>?_⟩
   ·have hu:u=.returning:=hu;rw[hu];rfl
   ·have hu:u=.returning:=hu;subst hu;simp[recoverD,hm]
  | some d=>
   obtain⟨v,hv,hu⟩:=hu;refine⟨v,.panicking [{ v,recovered:=true }],hv,rfl,fun c₀ fs hm=>?_⟩;subst hu;simp[recoverD,hm]
 obtain⟨v,u',hv,X8,kC⟩:=kC;refine callsD_of_wpS hf xK fun c₀ fs Z7=>?_;have hlen:(cN cf fn.ntmps (cQ fn) (bK P fn)).tmps.length=fn.ntmps:=by simp[cN,d_,mR];omega
 have Z2:=MM.env (prefix_append _ [vl m]);rw[←acz] at Z2;have vC:∀{ρ:dD},bA w ρ.S v (vl m)→cS w ρ (cs++[.st bs,vl m]) v (.e (.sym (cQ fn+1)) true):=by intro ρ wg;refine .e (d:=vl m) ?_ wg fun _=>hm;simp only[E.eval];rw[A0o (by omega)];simp[show cQ fn+1-cs.length=1 from by omega]
 have Ul:=(Z2.put (dst:=some d) (v:=v) (fun d2 e=>by cases e;rw[hlen];exact E0u hn3) (vC hv)).put (dst:=some d') (v:=v) (fun d2 e=>by cases e;simp only[ah.ff,B0L];rw[hlen];exact E0u hn4) (vC hv);have Da:uD fn.ntmps (((cN cf fn.ntmps (cQ fn) (bK P fn)).put (some d) (.e (.sym (cQ fn+1)) true)).put (some d') (.e (.sym (cQ fn+1)) true)):=⟨by simp[ah.ff,hlen],by simp[ah.ff,cN]⟩;have Dh:=me (P:=P) (N:=fn.ntmps) rest (B:=fun w1 X1=>w1=w∧X1=⟨az,S,az,[]⟩) (rd:=none) (nd:=0) (iv:=fun w' a' d'=>a'.defers=[]∧∃(v:Value) (d0:D) (bs':List D) (S':Sets) (bJ:Nat→Prop),(results fn a'.tmps).run P w'=.ok v w'∧d'=.a_ [d0,.st bs']∧bA w' S' v d0∧Left w S az az w' S' bJ bs')
  (rv:=mF P fn.results.toList) (fun w1 X1 hB σ x hx env ρ a' w' d' hr he=>by obtain⟨rfl,rfl⟩:=hB;exact Gr (fun _ h=>h) hx hr he) (fun l e=>by cases e) (.inl Qx) 0 _ [] _ t (cs++[.st bs,vl m]) (by rw[show(cs++[D.st bs,vl m]).length=cQ fn+2 from by simp;omega];exact hc) _ _ w w _ _ ⟨rfl,rfl⟩ fD Ul Da (fun id e he=>by simp[nu] at he)
 have Dh:=wpIn_wide.1 Dh;have QF:∀(d1:D),(.ret d1:gu)=.ret (.a_ [d0,.st bs'])→∀(w':World) (a':Act),(a'.defers=[]∧∃(v:Value) (d0:D) (bs':List D) (S':Sets) (bJ:Nat→Prop),(results fn a'.tmps).run P w'=.ok v w'∧d1=.a_ [d0,.st bs']∧bA w' S' v d0∧Left w S az az w' S' bJ bs') →
   a'.defers=[]∧∃u'',{ c₀ with mode:=u' } :: fs={ c₀ with mode:=u'' } :: fs∧∃v,(results fn a'.tmps).run P w'=.ok v w'∧∃(v1:Value) (S':Sets) (bJ:Nat→Prop) (fN:List D),Ending.returned v=.returned v1∧settle u''=.returning∧D.st bs'=.st fN∧Left w S az az w' S' bJ fN:=by
  rintro d1 h1 w' a' ⟨g1,v2,d2,nS,S',bJ,g2,rfl,g3,g4⟩
  cases h1;exact⟨g1,u',rfl,v2,g2,v2,S',bJ,bs',rfl,X8,rfl,g4⟩
 refine wpS_seq (wpS_region ?_);rw[show List.range (#[o0,o1]:Array Oper).size=[0,1] from rfl];have hw0:∀tm,Region.wanted o0 tm=true:=fun tm=>by simp[Region.wanted,h01]
 have hw1:∀tm,Region.wanted o1 tm=true:=fun tm=>by simp[Region.wanted,Lp]
 have Wx:∀a:Act,(execOp a.eval o0).run P w=.ok .recover w:=by intro a;unfold execOp;rw[U_];rfl
 have ED:∀a:Act,(execOp a.eval o1).run P w=.ok (.value (a.eval (.tmp d))) w:=by intro a;unfold execOp;rw[zl];rfl
 have O1:∀vR,vR=({ c₀ with mode:=u' }:Frame) :: fs→wpOpsS P #[o0,o1] (Exit.thenS (rest.wpS P (bodyPostS P fn c₀ fs fun e u' w'=>∃(v:Value) (S':Sets) (bJ:Nat→Prop) (fN:List D),e=.returned v∧settle u'=.returning∧D.st bs'=.st fN∧Left w S az az w' S' bJ fN)) (bodyPostS P fn c₀ fs fun e u' w'=>∃(v:Value) (S':Sets) (bJ:Nat→Prop) (fN:List D),e=.returned v∧settle u'=.returning∧D.st bs'=.st fN∧Left w S az az w' S' bJ fN)) [1] (({ tmps:=vs++Array.replicate (fn.ntmps-vs.size) undef,defers:=[] }:Act).put o0.dst v) vR w:=by
  rintro vR rfl
  simp only[wpOpsS,show(#[o0,o1]:Array Oper)[1]? = some o1 from rfl,hw1,B0d,ED,Oper.upon_value];have bX:(({ tmps:=vs++Array.replicate (fn.ntmps-vs.size) undef,defers:=[] }:Act).put o0.dst v).eval (.tmp d)=v:=by rw[h02];show(({ tmps:=vs++Array.replicate (fn.ntmps-vs.size) undef,defers:=[] }:Act).put (some d) v).tmps.getD d undef=v;rw[Act.xN _ _ _ (by simp;omega),A0z rfl]
  rw[bX,h02,h12];refine wpS_of_wp (wp_mono Dh fun e a' w' h=>?_);cases e with
  | normal=>
   obtain⟨w1,X1,env',σ',ρ',t',⟨hw1,Al⟩,_,hk,fo,kg,_⟩:=h;rw[hw1,Al] at kg;obtain⟨x,hx,rfl⟩:=A0a.1 hk;obtain⟨d1,he,hq⟩:=fo;exact QF d1 hq w' a' (Gr (fun _ h=>h) hx kg he)
  | ret=>
   obtain⟨d1,hq,h1⟩:=h;exact QF d1 hq w' a' h1
  | exit id=>obtain⟨_,_,e,_,_,_,he,_⟩:=h;simp[nu] at he
  | goto l=>exact h.elim
  | panic c=>
   obtain⟨_,_,σ,env,ρ,v,d,bs',_,rfl,hr,bO,dP,yw,_,_,hq⟩:=h;cases hq
  | outgrown=>exact h.elim
 rw[wpOpsS];simp only[show(#[o0,o1]:Array Oper)[0]? = some o0 from rfl,hw0,B0d,Wx];have kC:=kC c₀ fs Z7;split
 ·rename_i v' vR abZ;rw[abZ] at kC;obtain⟨rfl,rfl⟩:=kC;exact O1 _ rfl
 ·rename_i abZ;rw[abZ] at kC;obtain⟨rfl,kK⟩:=kC;exact O1 (c₀ :: fs) (by rw[kK,←Z7])
end
end
end
section
noncomputable section
def kr (P:Program)(fn:Func)(tmps:Array Value)(R:Ending→World→Prop):List Deferred→FrameMode→World→Prop
 | [],u,w=>Leaves P fn tmps R [] u w
 | d :: ds,u,w=>Leaves P fn tmps R (d :: ds) u w∨(u≠.run∧∃r w',d.target=.collected r∧(Instr.takeDeferred r).run P w=.ok [] w'∧kr P fn tmps R ds u w')
theorem kr.of {P:Program}{fn:Func}{tmps:Array Value}{R:Ending→World→Prop}{ds:List Deferred}{u:FrameMode}{w:World}(h:Leaves P fn tmps R ds u w):kr P fn tmps R ds u w:=by
 cases ds with
 | nil=>exact h
 | cons d ds=>exact .inl h
theorem uK {P:Program}{fn:Func}{tmps:Array Value}{R:Ending→World→Prop}:∀(ds:List Deferred) (u:FrameMode) (w:World) (fr:Frame) (cs:List Frame),fr.mode=u→fr.defers=ds→fr.tmps=tmps→P.funcs[fr.fn]? = some fn→fr.kind=.normal →
  kr P fn tmps R ds u w→∃e w' QO,R e w'∧Comes P (lone fr cs w) (lone QO cs w') e∧QO.fn=fr.fn∧QO.leaving P w' e
 | [],u,w,fr,cs,h1,h2,h3,h4,h5,h=>leaves_steps [] u w fr cs h1 h2 h3 h4 h5 h
 | d :: ds,u,w,fr,cs,h1,h2,h3,h4,h5,.inl h=>leaves_steps (d :: ds) u w fr cs h1 h2 h3 h4 h5 h
 | d :: ds,u,w,fr,cs,h1,h2,h3,h4,h5,.inr ⟨hu,r,w',anH,xB,ahy⟩=>by have hs:=step_collected (cs:=cs) (h1 ▸ hu) h2 anH xB;obtain⟨e,w2,fr2,g1,g2,g3,g4⟩:=uK ds u w' { fr with defers:=[]++ds } cs h1 rfl h3 h4 h5 ahy;exact⟨e,w2,fr2,g1,E0f (.one hs) g2,g3,g4⟩
def FU (P:Program)(fn:Func)(R:Ending→World→Prop):Exit→Act→World→Prop
 | .normal,a,w | .ret,a,w=>kr P fn a.tmps R a.defers .returning w
 | .panic chain,a,w=>kr P fn a.tmps R a.defers (.panicking chain) w
 | .outgrown,_,w=>R .outgrown w
 | _,_,_=>False
theorem HI {P:Program} {f:FuncId} {fn:Func} {c:Code} {args:Array Value} {w:World} {R:Ending→World→Prop} (hf:P.funcs[f]? = some fn) (hb:fn.body=some c)
  (h:c.wp P (FU P fn R) { tmps:=args++Array.replicate (fn.ntmps-args.size) undef,defers:=[] } w):Calls P f args w R:=by
 intro cs
 let b:Frame:={ (default:Frame) with fn:=f,kind:=.normal }
 have acA:Frame.enter P f args .normal=b.at { tmps:=args++Array.replicate (fn.ntmps-args.size) undef,defers:=[] } [.code c]:=by simp[Frame.enter,Frame.at,hf,hb,b]
 obtain⟨e,a',w',hq,U2⟩:=h b [] cs;rw[←acA] at U2;have out:∀todo (m:FrameMode),kr P fn a'.tmps R a'.defers m w'→∃e w2 QO,R e w2∧Comes P (lone { b.at a' todo with mode:=m } cs w') (lone QO cs w2) e∧QO.fn=f∧QO.leaving P w2 e:=fun todo m hl=>
  uK a'.defers m w' { b.at a' todo with mode:=m } cs rfl rfl rfl hf rfl hl
 cases e with
 | normal=>
  obtain⟨e',w2,QO,hR,hs,vH,hl⟩:=out [] .returning hq;exact⟨e',w2,QO,hR,E0f (Steps.trans U2 (.one step_end)) hs,vH,hl⟩
 | ret=>
  obtain⟨todo,Qu⟩:=U2;obtain⟨e',w2,QO,hR,hs,vH,hl⟩:=out todo .returning hq;exact⟨e',w2,QO,hR,E0f Qu hs,vH,hl⟩
 | panic chain=>
  obtain⟨todo,Qu⟩:=U2;obtain⟨e',w2,QO,hR,hs,vH,hl⟩:=out todo (.panicking chain) hq;exact⟨e',w2,QO,hR,E0f Qu hs,vH,hl⟩
 | exit id=>exact hq.elim
 | goto l=>exact hq.elim
 | outgrown=>exact⟨.outgrown,w',b,hq,U2.resolve_left (by simp[b]),rfl,trivial⟩
theorem uL {P:Program}{fn:Func}{tmps:Array Value}{R:Ending→World→Prop}{u:FrameMode}(hu:u≠.run){ds:List Deferred}:∀(cs:List Nat) (w:World),cs.Nodup→(∀D,D∈cs→w.heap[D]? = some (.deferred (some []))) →
  (∀w',NI w w' cs→Leaves P fn tmps R ds u w')→kr P fn tmps R ((cs.map fun D=>({ target:=.collected D,args:=#[] }:Deferred))++ds) u w
 | [],w,_,_,h=>.of (h w ⟨fun _ _=>rfl,rfl,rfl,.refl _,rfl,fun _ _=>rfl⟩)
 | D :: cs,w,hn,hD,h=>by
  rw[E0x] at hn;have hd:=hD D (by simp);refine .inr ⟨hu,D,_,rfl,run_takeDeferred hd,uL hu cs _ hn.2 (fun D' hD'=>?_) fun w' hm=>h w' ?_⟩
  ·rw[World.putObj_heap_other (fun e=>by subst e;exact hn.1 hD')];exact hD D' (by simp[hD'])
  ·refine⟨fun b hb=>?_,hm.size.trans (by simp),hm.os,⟨hm.tape.tape,hm.tape.dr⟩,hm.output,fun b o=>(hm.cell b o).trans (Az hd _ b o)⟩;simp only[A0E,E0G] at hb;rw[hm.other b hb.2,World.putObj_heap_other hb.1]
def Kr:Code→Option (FuncId×List Operand×Nat)
 | .region _ ops false=>match ops.toList with
  | [o0,o1]=>(match o0.op,o0.guard,o0.dst,o1.op,o1.guard,o1.dst with
   | .makeFunc (.func f) first cr,none,some t,.defer { callee:=.value (.tmp t'),args:=as,argTypes:=_ },none,none=>if t=t'∧first.size=0∧as.size=0 then some (f,cr.toList,t) else none
   | _,_,_,_,_,_=>none)
  | _=>none
 | _=>none
def BP:List Nat→Nat→Nat→Option Nat
 | [],_,_=>none
 | x :: r,t,i=>if x=t then some i else BP r t (i+1)
theorem zO:∀{l:List Nat} {t i j:Nat},BP l t i=some j→i≤j∧l[j-i]? = some t
 | [],_,_,_,h=>by simp[BP] at h
 | x :: r,t,i,j,h=>by
  simp only[BP] at h;split at h
  ·rename_i e;cases h;exact⟨A0m _,by simp[e]⟩
  ·obtain⟨h1,h2⟩:=zO h;refine⟨by omega,?_⟩;rw[show j-i=(j-(i+1))+1 from by omega];simpa using h2
def A9 (P:Program)(keep:List Nat):ResultVar→Option E
 | .cell t ty=>match BP keep t 0,jH P ty,r8 P ty with
  | some i,some agg,some n=>some (.ld agg n (.sym keep.length) (.sym i))
  | _,_,_=>none
 | _=>none
def sM (P:Program)(keep:List Nat):List ResultVar→Option E
 | []=>some .ai
 | r :: rs=>match A9 P keep r,sM P keep rs with
  | some x,some y=>some (.aa x y)
  | _,_=>none
def Gt (P:Program)(keep:List Nat)(rs:List ResultVar):Option E:=
 match rs with
 | [r]=>A9 P keep r
 | rs=>sM P keep rs
def Se:List E→E
 | []=>.ai
 | x :: r=>.aa x (Se r)
theorem yD {env:List D}:∀{l:List E} {d:D},(Se l).eval env=some d→∃kd,aA env l=some kd∧d=.a_ kd
 | [],d,h=>by simp[Se,E.eval] at h;exact⟨[],rfl,h.symm⟩
 | x :: r,d,h=>by simp only[Se,E.eval,A0b] at h;obtain⟨d1,h1,d2,h2,h3⟩:=h;obtain⟨kd,h4,rfl⟩:=yD h2;simp only[D.aa] at h3;cases h3;exact⟨d1 :: kd,by simp[aA,h1,h4],rfl⟩
def rvB (keep:List Nat)(σ:ah):Option E:=
 match uO σ,σ.hs with
 | some ks,some (.store _ h)=>if jb σ=keep then some (.aa (Se ks) (.aa h .ai)) else none
 | _,_=>none
def xX (P:Program)(fn:Func)(keep:List Nat):Code→Nat→ah→Option T
 | .seq x y,u,σ=>match Kr x with
  | some (f,cr,t)=>(match toEAll (cr.map σ.zZ),σ.hs,Gt P keep fn.results.toList with
   | some cs,some (.store cf h),some res=>if bL P f=true∧t<σ.tmps.length then
     (compile P (rvB keep) y 0 u (({ σ with hs:=some (.store { cf with keep:=keep } h) }:ah).put (some t) .cz) [] fun _ _ σ=>(rvB keep σ).map T.ret).map (.Ia f keep cs res) else none
   | _,_,_=>none)
  | none=>if gY x=false then none else compile P (mF P fn.results.toList) x 0 u σ [] fun _ u σ=>xX P fn keep y u σ
 | _,_,_=>none
def iU (P:Program)(cf:cF)(fn:Func)(keep:List Nat):Option T:=
 match fn.body with
 | none=>none
 | some c=>if fn.ntmps<cQ fn∨br<fn.ntmps then none else xX P fn keep c (cQ fn+1) (cN cf fn.ntmps (cQ fn) (bK P fn))
section
variable {P:Program}
theorem HK {f:FuncId}{vals:Array Value}{w:World}(dU:bL P f=true):(invoke (.fn (.func f) vals) #[]).run P w=.ok (.enter f vals) w:=by
 unfold bL at dU;split at dU
 ·rename_i fn hf;simp only[A0f,B0j,C0o] at dU;have Yr:fn.body.isNone=false:=by
   cases hb:fn.body with
   | none=>exact absurd hb dU.2
   | some _=>rfl
  simp only[invoke,A0n,A0r,A0h,callFunc,D0A,hf,dU.1,Yr,A0S,B0n];simp
 ·cases dU
theorem B6 {w:World}{S:Sets}{az:Nat→Prop}{bs:List D}{a:Act}{keep:List Nat}{kd:List D}(hst:cI w S az bs)(hk:oG w S a keep kd){r:ResultVar}{x:E}{d:D}(hx:A9 P keep r=some x)(he:x.eval (kd++[.st bs])=some d):∃v,(jR a.tmps r).run P w=.ok v w∧bA w S v d:=by
 unfold A9 at hx;split at hx
 ·rename_i t ty;split at hx
  ·rename_i i agg n hi hg hn;cases hx;obtain⟨_,hi⟩:=zO hi;rw[C0y] at hi;have ug:i<kd.length:=by rw[hk.1];exact(A0c.1 hi).1
   have h1:(kd++[D.st bs])[keep.length]? = some (.st bs):=by rw[A0o (by rw[hk.1];exact A0m _),hk.1];simp
   have h2:(kd++[D.st bs])[i]? = some kd[i]:=by rw[A0g ug];exact A0e ug
   simp only[E.eval,h1,h2,A0d] at he;have RB:=hk.2 i t _ hi (A0e ug);obtain⟨b,off,u,hv,bt,Uk,_⟩:=G0 hg hn RB (.inr hst) he;refine⟨u,?_,Uk⟩;simp only[jR,hv,asAddr,A0n,A0r,A0h,bt]
  ·cases hx
 ·cases hx
theorem zV {w:World}{S:Sets}{az:Nat→Prop}{bs:List D}{a:Act}{keep:List Nat}{kd:List D}(hst:cI w S az bs)(hk:oG w S a keep kd):∀{rs:List ResultVar} {x:E} {d:D},sM P keep rs=some x→x.eval (kd++[.st bs])=some d→∃vs ds,(rs.mapM (jR a.tmps)).run P w=.ok vs w∧d=.a_ ds∧vs.length=ds.length∧vs.length=rs.length∧∀(i:Nat) (v:Value) (d:D),vs[i]? = some v→ds[i]? = some d→bA w S v d
 | [],x,d,hx,he=>by simp[sM] at hx;subst hx;simp[E.eval] at he;exact⟨[],[],rfl,he.symm,rfl,rfl,by simp⟩
 | r :: rs,x,d,hx,he=>by
  simp only[sM] at hx;split at hx
  ·rename_i y z hy hz;cases hx;simp only[E.eval,A0b] at he;obtain⟨d1,FE,d2,yu,he⟩:=he;obtain⟨v,h1,h3⟩:=B6 hst hk hy FE;obtain⟨vs,ds,h4,rfl,h6,h6',h7⟩:=zV hst hk hz yu;simp only[D.aa] at he;cases he;refine⟨v :: vs,d1 :: ds,by simp only[C0U,A0n,h1,A0h,h4,A0r],rfl,by simp[h6],by simp[h6'],fun i v' d' hv hd=>?_⟩;cases i with
   | zero=>simp at hv hd;subst hv hd;exact h3
   | succ i=>exact h7 i v' d' (by simpa using hv) (by simpa using hd)
  ·cases hx
theorem PW {w:World}{S:Sets}{az:Nat→Prop}{bs:List D}{a:Act}{keep:List Nat}{kd:List D}(hst:cI w S az bs)(hk:oG w S a keep kd){fn:Func}{x:E}{d:D}(hx:Gt P keep fn.results.toList=some x)(he:x.eval (kd++[.st bs])=some d):∃v,(results fn a.tmps).run P w=.ok v w∧bA w S v d:=by
 unfold Gt at hx;split at hx
 ·rename_i r hr;obtain⟨v,h1,h3⟩:=B6 hst hk hx he;refine⟨v,?_,h3⟩;have:=oW (P:=P) (w:=w) fn a.tmps (vs:=[v]) (by rw[hr];simp only[C0U,List.mapM_nil,A0n,h1,A0h,A0r]);simpa using this
 ·rename_i bQ;obtain⟨vs,ds,h1,rfl,h3,h3',h4⟩:=zV hst hk hx he;have:=oW (P:=P) (w:=w) fn a.tmps h1;rw[dif_neg ?_] at this
  ·exact⟨_,this,.a_ (by simpa using h3) fun i v d hv hd=>h4 i v d (by simpa using hv) hd⟩
  ·intro hl;rw[hl] at h3'
   match kf:fn.results.toList,h3' with
   | [r],_=>exact bQ r kf
def Ze (w:World)(S:Sets)(az:Nat→Prop)(Qd Qp:D→D→Prop)(e:Ending)(w':World):Prop:=
 ∃(o:Out) (v:Value) (S':Sets) (bJ:Nat→Prop) (bs':List D),(match o with | .ret d=>Qd d (.st bs') | .ee d=>Qp d (.st bs'))∧o.ends w' S' v e∧Left w S az az w' S' bJ bs'
theorem Q0 {w:World} {S S1:Sets} {az:Nat→Prop} {Qd Qp:D→D→Prop} {fn:Func} {a':Act} {w':World} {σ':ah} {env':List D} {ρ':dD} {f:FuncId} {vals:Array Value} {eH kd fN:List D} {m:Option D} {eT d':D} {res:E} {keep:List Nat} {u:FrameMode}
  {EJ:List Deferred} (hr:aF w ⟨az,S1,az,EJ⟩ w' a' σ' env' ρ') (hst:cI w' ρ'.S ρ'.az fN) (cO:∃cf x,σ'.obj br=some (.store cf x)) (tq:S≤S1) (acO:∀b o,S1 b o→S b o∨w.heap.size≤b∨az b)
  (dU:bL P f=true) (iL:vals.size=eH.length) (bO:∀(i:Nat) (v:Value) (x:D),vals[i]? = some v→eH[i]? = some x→bA w' ρ'.S v x) (hk:oG w' ρ'.S a' keep kd) (hu:match m with | none=>u=.returning | some d=>∃v,bA w' ρ'.S v d∧u=.panicking [{ v,recovered:=false }]) (gz:rS P f (.st fN) eH m eT) (Ho:Gt P keep fn.results.toList=some res) (bX:res.eval (kd++[eT])=some d') (hq:Qd d' eT)  :
  Leaves P fn a'.tmps (Ze w S az Qd Qp) [{ target:=.fn (.func f) vals,args:=#[] }] u w':=by
 obtain⟨cf,x,cO⟩:=cO;have fG:∀b,ρ'.az b→b<w'.heap.size:=gj hr cO;have OM:u≠.run:=by
  cases m with
  | none=>have hu:u=.returning:=hu;rw[hu];simp
  | some d=>obtain⟨v,_,hu⟩:=hu;rw[hu];simp
 refine leaves_cons OM (HK dU) ((gz w' ρ'.S ρ'.az fN vals u rfl hst (hr.lY cO) fG hr.cells iL bO hu).mono ?_)
 rintro e u' Wq ⟨v,S'',ac2,V2,rfl,gT,rfl,hl⟩
 simp only;rw[gT];have hK:bM ρ'.S w' Wq:=fun b o hs=>A0V (a:=⟨b,o,none⟩) (hl.old b (hr.cells b o hs) fun hf=>hst.v_ b o hf hs);have Dc:oG Wq S'' a' keep kd:=⟨hk.1,fun i s d h1 h2=>(hk.2 i s d h1 h2).keep hK hl.le⟩;obtain⟨rv,bt,mJ⟩:=PW hl.st Dc Ho bX;refine⟨rv,bt,.ret d',rv,S'',ac2,V2,hq,⟨rfl,mJ⟩,hl.st,Sets.le_trans tq (Sets.le_trans hr.sub hl.le),hl.os.trans hr.os,hl.tape.trans hr.tape,hl.output.trans hr.output,A0J hr.grown hl.size,fun b hb FD=>?_,fun b hb=>?_,fun b o hs=>?_,hl.lt⟩
 ·have eB:¬ρ'.az b:=fun hf=>by
   rcases(hr.own br _ b cO hf).1 with g | g | g
   ·exact FD g.2
   ·exact absurd hb (Nat.not_lt.2 g)
   ·exact FD g
  exact(hl.old b (A0v hb hr.grown) eB).trans (hr.old b hb FD)
 ·obtain⟨g1,g2⟩:=hl.ft b hb;refine⟨?_,g2⟩;rcases g1 with g1 | g1
  ·rcases(hr.own br _ b cO g1).1 with g | g | g
   ·exact .inl g.2
   ·exact .inr g
   ·exact .inl g
  ·exact .inr (A0J hr.grown g1)
 ·have sA:=hr.grown;rcases hl.new b o hs with g | g | g
  ·rcases hr.new b o g with g | g | g
   ·rcases acO b o g with g | g | g
    ·exact .inl g
    ·exact .inr (.inr g)
    ·exact .inr (.inl g)
   ·exact .inr (.inr g)
   ·exact .inr (.inl g)
  ·rcases(hr.own br _ b cO g).1 with g | g | g
   ·exact .inr (.inl g.2)
   ·exact .inr (.inr g)
   ·exact .inr (.inl g)
  ·exact .inr (.inr (A0J sA g))
theorem aF.afA {w0 w:World}{X:jN}{a:Act}{σ:ah}{env:List D}{ρ:dD}(h:aF w0 X w a σ env ρ){cf zF:cF}{x:E}(hs:σ.hs=some (.store cf x))(fQ:zF.ro=cf.ro):aF w0 X w a { σ with hs:=some (.store zF x) } env ρ:=by
 have cO:σ.obj br=some (.store cf x):=by rw[ah.ey,A0z rfl];exact hs
 have fC:∀o y,ah.obj { σ with hs:=some (.store zF x) } o=some y→∃y',σ.obj o=some y'∧(∀b,bN ρ o y b↔bN ρ o y' b)∧y.ro=y'.ro∧(gP w ρ env o y'→gP w ρ env o y):=by
  intro o y hy
  by_cases ho:o=br
  ·subst ho;simp only[ah.ey,B0d,A0x] at hy;subst hy;exact⟨_,cO,fun _=>E0J,fQ,fun h=>h⟩
  ·refine⟨y,?_,fun _=>E0J,rfl,fun h=>h⟩;simp only[ah.ey,A0B ho] at hy ⊢;exact hy
 refine⟨h.size,h.tmps,fun o y hy=>?_,fun o o' y y' b h1 h2 sk wh=>?_,fun o y b hy hb=>?_,h.cells,h.os,h.tape,h.output,h.grown,h.old,h.sub,h.new,h.yo,h.hold⟩
 ·obtain⟨y',g1,_,_,g2⟩:=fC o y hy;exact g2 (h.cT o y' g1)
 ·obtain⟨z,g1,g2,_⟩:=fC o y h1;obtain⟨z',g3,g4,_⟩:=fC o' y' h2;exact h.inj o o' z z' b g1 g3 ((g2 b).1 sk) ((g4 b).1 wh)
 ·obtain⟨z,g1,g2,g3,_⟩:=fC o y hy;rw[g3];exact h.own o z b g1 ((g2 b).1 hb)
theorem tI {w:World}{S:Sets}{az:Nat→Prop}{fn:Func}{keep:List Nat}{Qd Qp:D→D→Prop}:∀(c:Code) {σ:ah} {t:T} {env:List D} {a:Act} {w1:World} {ρ:dD},xX P fn keep c env.length σ=some t→den P t env (D_ Qd Qp)→aF w ⟨az,S,az,[]⟩ w1 a σ env ρ→uD fn.ntmps σ→c.wp P (FU P fn (Ze w S az Qd Qp)) a w1
 | .seq x y,σ,t,env,a,w1,ρ,hc,fD,hr,hl=>by
  simp only[xX] at hc;split at hc
  ·rename_i f cr t0 H7;split at hc
   ·rename_i cs cf h res AS vG Ho;split at hc
    ·rename_i xJ;obtain⟨dU,ht0⟩:=xJ;obtain⟨tB,hB,rfl⟩:=A0a.1 hc;obtain⟨eH,QK,mL,hdB⟩:=fD;obtain⟨id,o0,o1,first,ia,as,ts,rfl,U_,h01,h02,zl,Lp,h12,rfl,UP,ha0⟩:∃id o0 o1 first ia as ts,x=.region id #[o0,o1] false∧o0.op=.makeFunc (.func f) first ia∧o0.guard=none∧o0.dst=some t0∧o1.op=.defer { callee:=.value (.tmp t0),args:=as,argTypes:=ts }∧o1.guard=none∧o1.dst=none∧cr=ia.toList∧first.size=0∧as.size=0:=by
      unfold Kr at H7;split at H7
      ·rename_i id ops;split at H7
       ·rename_i o0 o1 Up;split at H7
        ·rename_i f' first ia t1 t2 as ts g1 g2 g3 g4 g5 g6
         split at H7
         ·rename_i Bp;obtain⟨rfl,UP,ha0⟩:=Bp;cases H7;have hoa:ops=#[o0,o1]:=by rw[←B0b (xs:=ops),Up]
          exact⟨id,o0,o1,first,ia,as,ts,by rw[hoa],g1,g2,g3,g4,g5,g6,rfl,UP,ha0⟩
         ·cases H7
        ·cases H7
       ·cases H7
      ·cases H7
     obtain rfl:first=#[]:=C0s UP
     obtain rfl:as=#[]:=C0s ha0;obtain⟨kL,nk,fR,bO⟩:=toEAll_rd (w:=w1) (ρ:=ρ) (env:=env) (vs:=(ia.map a.eval).toList) AS (by simp) (fun i v s gQ Ae=>by
      simp only[C0g,A0w,A0a] at gQ Ae;obtain⟨x,fm,rfl⟩:=gQ;obtain⟨y,yp,rfl⟩:=Ae;rw[fm] at yp;cases yp;exact Ch hr x)
     rw[QK] at nk;cases nk;have iL:(ia.map a.eval).size=eH.length:=by simpa using fR
     refine wp_seq (wp_region_list ?_);have hw0:∀tm,Region.wanted o0 tm=true:=fun tm=>by simp[Region.wanted,h01]
     have hw1:∀tm,Region.wanted o1 tm=true:=fun tm=>by simp[Region.wanted,Lp]
     have ahw:(execOp a.eval o0).run P w1=.ok (.value (.func (.func f) #[] (ia.map a.eval))) w1:=by unfold execOp;rw[U_];simp[Instr.makeFunc]
     have hta:t0<a.tmps.size:=by rw[hr.size];exact ht0
     have bX:(a.put (some t0) (.func (.func f) #[] (ia.map a.eval))).eval (.tmp t0)=.func (.func f) #[] (ia.map a.eval):=by show(a.put (some t0) (.func (.func f) #[] (ia.map a.eval))).tmps.getD t0 undef=_;rw[Act.xN _ _ _ hta,A0z rfl]
     have ahv:(execOp (a.put (some t0) (.func (.func f) #[] (ia.map a.eval))).eval o1).run P w1=.ok (.defer { target:=.fn (.func f) (ia.map a.eval),args:=#[] }) w1:=by unfold execOp;rw[zl];simp only[resolve,bX,Deferred.ofValue,A0n,A0r,A0h];simp
     show wpList P #[o0,o1] _ [o0,o1] a w1;unfold wpList;rw[A0z (hw0 _)];refine .inl ?_;unfold Oper.wp;rw[ahw];simp only[Oper.upon_value,h02];unfold wpList;rw[A0z (hw1 _)];refine .inl ?_;unfold Oper.wp;rw[ahv];simp only[Oper.upon_defer,h12];unfold wpList;have an4:a.defers=[]:=hr.yo;have abY:({ cf with keep:=keep }:cF).ro=cf.ro:=rfl;have ED:=(hr.afA (zF:={ cf with keep:=keep }) vG abY).put (dst:=some t0) (v:=.func (.func f) #[] (ia.map a.eval)) (sv:=.cz) (fun d e=>by cases e;exact ht0) .cz;have J8:aF w ⟨az,ρ.S,az,[{ target:=.fn (.func f) (ia.map a.eval),args:=#[] }]⟩ w1 (Act.put { (a.put (some t0) (.func (.func f) #[] (ia.map a.eval))) with defers:={ target:=.fn (.func f) (ia.map a.eval),args:=#[] } :: (a.put (some t0) (.func (.func f) #[] (ia.map a.eval))).defers } none undef) (({ σ with hs:=some (.store { cf with keep:=keep } h) }:ah).put (some t0) .cz) env ρ:=by refine⟨ED.size,ED.tmps,ED.cT,ED.inj,ED.own,ED.cells,ED.os,ED.tape,ED.output,ED.grown,ED.old,Sets.le_refl _,fun b o hs=>.inl hs,?_,fun l rec iH=>ED.hold l rec (by rw[←ED.sub.hold];exact iH)⟩;show _ :: a.defers=_;rw[an4]
     have hlB:uD fn.ntmps (({ σ with hs:=some (.store { cf with keep:=keep } h) }:ah).put (some t0) .cz):=⟨by simpa[ah.ff] using hl.1,by simpa[ah.ff] using hl.2⟩;have Dh:=me (P:=P) (N:=fn.ntmps) y (B:=fun wB XB=>Ext w ⟨az,ρ.S,az,[{ target:=.fn (.func f) (ia.map a.eval),args:=#[] }]⟩ wB XB) (rd:=none) (nd:=0)
      (iv:=fun w' a' d'=>∃(wB:World) (XB:jN) (σ':ah) (env':List D) (ρ':dD) (kd fN:List D),Ext w ⟨az,ρ.S,az,[{ target:=.fn (.func f) (ia.map a.eval),args:=#[] }]⟩ wB XB∧aF wB XB w' a' σ' env' ρ'∧cI w' ρ'.S ρ'.az fN∧(∃cf x,σ'.obj br=some (.store cf x))∧oG w' ρ'.S a' keep kd∧d'=.a_ [.a_ kd,.st fN])
      (rv:=rvB keep) (fun wB XB Hx σ' x hx env' ρ' a' w' d' kg he=>by
       unfold rvB at hx;split at hx
       ·rename_i ks cf1 h1 rX acq;split at hx
        ·rename_i OU;cases hx;obtain⟨hh1,Qw,fN,sk,X7⟩:=nL kg acq;simp only[E.eval,A0b] at he;obtain⟨d1,FE,d2,yu,he⟩:=he;obtain⟨kd,JV,rfl⟩:=yD FE;obtain⟨d3,he3,d4,he4,yu⟩:=yu;obtain⟨nS,wh,_⟩:=kg.cT _ _ Qw;rw[he3] at wh;cases wh;cases he4;simp only[D.aa] at yu;cases yu;simp only[D.aa] at he;cases he;have C3:cI w' ρ'.S ρ'.az nS:=by obtain⟨bs3,RN,abW,_⟩:=kg.cT _ _ Qw;rw[he3] at RN;cases RN;exact abW
         exact⟨wB,XB,σ',env',ρ',kd,nS,Hx,kg,C3,⟨_,_,Qw⟩,OU ▸ qj kg rX JV (B0W _),rfl⟩
        ·cases hx
       ·cases hx) (fun l e=>by cases e) (.inr (.inr fun _ _ _ _ h k=>h.trans k)) 0 _ [] _ tB env hB _ _ w1 w _ _ (Ext.refl _ _) hdB J8 hlB (fun id e he=>by simp[nu] at he)
     have Dh:=wpIn_wide.1 Dh;have acO:∀b o,ρ.S b o→S b o∨w.heap.size≤b∨az b:=fun b o hs=>hr.new b o hs;have Um:∀{w':World} {ρ':dD},ρ.S≤ρ'.S→∀(i:Nat) (v:Value) (x:D),(ia.map a.eval)[i]? = some v→eH[i]? = some x→bA w' ρ'.S v x:=by
      intro w' ρ' hle i v x hv hx;have hlx:=A0C.1 mL x (A0I hx);have:=bO i v x (by simpa using hv) hx;cases x <;> simp[D.JE] at hlx;cases this with
      | loc hi=>rw[←hle.loc _ hi];exact .loc (A0v hi hle.n)
     have fin:∀{wB:World} {XB:jN} {w':World} {a':Act} {σ':ah} {env':List D} {ρ':dD} {kd fN:List D} {m:Option D} {eT d':D} {u:FrameMode},Ext w ⟨az,ρ.S,az,[{ target:=.fn (.func f) (ia.map a.eval),args:=#[] }]⟩ wB XB→aF wB XB w' a' σ' env' ρ'→cI w' ρ'.S ρ'.az fN→(∃cf x,σ'.obj br=some (.store cf x))→oG w' ρ'.S a' keep kd →
       (match m with | none=>u=.returning | some d=>∃v,bA w' ρ'.S v d∧u=.panicking [{ v,recovered:=false }])→rS P f (.st fN) eH m eT→res.eval (kd++[eT])=some d'→Qd d' eT→kr P fn a'.tmps (Ze w S az Qd Qp) a'.defers u w':=by
      intro wB XB w' a' σ' env' ρ' kd fN m eT d' u Hx kg dP C6 Dc hu h1 h2 h3;obtain⟨vR,g1,g2,g3⟩:=Hx.EJ;have h0:=Hx.rep kg J8.hold;have OM:u≠.run:=by
       cases m with
       | none=>have hu:u=.returning:=hu;rw[hu];simp
       | some d=>obtain⟨v,_,hu⟩:=hu;rw[hu];simp
      rw[kg.yo,g1];refine uL OM vR w' g2 (fun D hD=>?_) fun w2 hm=>?_
      ·obtain⟨k1,k2,k3,k4⟩:=g3 D hD;exact(kg.old D (A0l.1 k1).1 k2).trans k1
      ·have Fz:=aF.marked kg h0 (fun D hD=>by
        obtain⟨k1,k2,k3,k4⟩:=g3 D hD;exact⟨(A0l.1 k1).1,k2,k3,k4⟩) hm
       obtain⟨zF,x',cO⟩:=C6;have hblk:∀b,ρ'.az b→w2.heap[b]? = w'.heap[b]?:=fun b hb=>hm.other b fun hD=>by
        obtain⟨k1,k2,k3,k4⟩:=g3 b hD;have:=(A0l.1 k1).1;rcases(kg.own br _ b cO hb).1 with g | g | g
        ·exact k3 g.2
        ·omega
        ·exact k2 g
       have hk:bM ρ'.S w' w2:=fun b o _=>hm.cell b o;have C3:cI w2 ρ'.S ρ'.az fN:=dP.to ⟨fun _ _ h=>h,rfl,fun _=>rfl,fun _=>rfl,fun _=>rfl⟩ (fun _ _ h=>h) hblk fun v d i x _ _ h=>h.keep hk (Sets.le_refl _);refine Q0 (m:=m) Fz C3 ⟨zF,x',cO⟩ (Sets.le_trans hr.sub (Sets.le_refl _)) acO dU iL (Um h0.sub) ⟨Dc.1,fun i s d e1 e2=>(Dc.2 i s d e1 e2).keep hk (Sets.le_refl _)⟩ ?_ h1 Ho h2 h3;cases m with
       | none=>exact hu
       | some d=>obtain⟨v,k1,k2⟩:=hu;exact⟨v,k1.keep hk (Sets.le_refl _),k2⟩
     have afJ:∀{w':World} {a':Act} {d':D},HU P f keep eH res (D_ Qd Qp) (.ret d')→(∃(wB:World) (XB:jN) (σ':ah) (env':List D) (ρ':dD) (kd fN:List D),Ext w ⟨az,ρ.S,az,[{ target:=.fn (.func f) (ia.map a.eval),args:=#[] }]⟩ wB XB∧aF wB XB w' a' σ' env' ρ'∧cI w' ρ'.S ρ'.az fN∧(∃cf x,σ'.obj br=some (.store cf x))∧oG w' ρ'.S a' keep kd∧d'=.a_ [.a_ kd,.st fN]) →
       kr P fn a'.tmps (Ze w S az Qd Qp) a'.defers .returning w':=by
      rintro w' a' d' hq ⟨wB,XB,σ',env',ρ',kd,fN,Hx,kg,dP,C6,Dc,rfl⟩
      obtain⟨eT,d'',h1,h2,h3⟩:=hq;exact fin (m:=none) Hx kg dP C6 Dc rfl h1 h2 h3
     refine wp_mono Dh fun e a' w' hp=>?_;cases e with
     | normal=>
      obtain⟨wB,XB,env',σ',ρ',t',Hx,_,hk,fo,kg,_⟩:=hp;obtain⟨xr,EB,rfl⟩:=A0a.1 hk;obtain⟨d1,he,hq⟩:=fo;refine afJ hq ?_;unfold rvB at EB;split at EB
      ·rename_i ks cf1 h1 rX acq;split at EB
       ·rename_i OU;cases EB;obtain⟨hh1,Qw,_⟩:=nL kg acq;simp only[E.eval,A0b] at he;obtain⟨d1,FE,d2,yu,he⟩:=he;obtain⟨kd,JV,rfl⟩:=yD FE;obtain⟨d3,he3,d4,he4,yu⟩:=yu;obtain⟨nS,wh,C3,_⟩:=kg.cT _ _ Qw;rw[he3] at wh;cases wh;cases he4;simp only[D.aa] at yu;cases yu;simp only[D.aa] at he;cases he;exact⟨wB,XB,σ',env',ρ',kd,nS,Hx,kg,C3,⟨_,_,Qw⟩,OU ▸ qj kg rX JV (B0W _),rfl⟩
       ·cases EB
      ·cases EB
     | ret=>
      obtain⟨d1,hq,h1⟩:=hp;exact afJ hq h1
     | exit id=>obtain⟨_,_,e,_,_,_,he,_⟩:=hp;simp[nu] at he
     | goto l=>exact hp.elim
     | panic c=>
      obtain⟨wB,XB,σ',env',ρ',v,d,bs',Hx,rfl,kg,Hp,dP,C6,kd,Dc,hq⟩:=hp;obtain⟨OU,eT,d'',h1,h2,h3⟩:=hq;rw[OU] at Dc;exact fin (m:=some d) Hx kg dP C6 Dc ⟨v,Hp,rfl⟩ h1 h2 h3
     | outgrown=>exact hp.elim
    ·cases hc
   ·cases hc
  ·-- ahead of it
   split at hc
   ·cases hc
   rename_i Qx;have Qx:gY x=true:=by simpa using Qx
   refine wp_seq (wp_mono (wpIn_wide.1 (me (P:=P) (N:=fn.ntmps) x (B:=fun w1 X1=>w1=w∧X1=⟨az,S,az,[]⟩) (rd:=none) (nd:=0) (iv:=fun w' a' d'=>a'.defers=[]∧∃(v:Value) (d0:D) (bs':List D) (S':Sets) (bJ:Nat→Prop),(results fn a'.tmps).run P w'=.ok v w'∧d'=.a_ [d0,.st bs']∧bA w' S' v d0∧Left w S az az w' S' bJ bs')
    (rv:=mF P fn.results.toList) (fun wB XB Hx σ x hx env ρ a' w' d' hr he=>by rw[Hx.1,Hx.2] at hr;exact Gr (fun _ h=>h) hx hr he) (fun l e=>by cases e) (.inl Qx) 0 _ [] _ t env hc _ a w1 w _ _ ⟨rfl,rfl⟩ fD hr hl (fun id e he=>by simp[nu] at he))) fun e a' w' hp=>?_)
   cases e with
   | normal=>
    obtain⟨wB,XB,env',σ',ρ',t',Hx,gm,hk,fo,kg,iH⟩:=hp;rw[Hx.1,Hx.2] at kg;exact tI y hk fo kg iH
   | ret=>
    obtain⟨d',hq,g1,v,d0,bs',S',bJ,h1,rfl,h3,h4⟩:=hp;show kr P fn a'.tmps _ a'.defers .returning w';rw[g1];exact⟨v,h1,.ret d0,v,S',bJ,bs',hq,⟨rfl,h3⟩,h4⟩
   | exit id=>obtain⟨_,_,e,_,_,_,he,_⟩:=hp;simp[nu] at he
   | goto l=>exact hp.elim
   | panic c=>
    obtain⟨wB,XB,σ',env',ρ',v,d,bs',Hx,rfl,kg,Hp,dP,C6,kd,_,hq⟩:=hp;rw[Hx.1,Hx.2] at kg;have oJ:a'.defers=[]:=kg.yo;show kr P fn a'.tmps _ a'.defers (.panicking _) w';rw[oJ];exact⟨.ee d,v,ρ'.S,ρ'.az,bs',hq,⟨rfl,Hp⟩,o_ kg dP C6 fun _ h=>h⟩
   | outgrown=>exact hp.elim
theorem Dp {cf:cF}{f:FuncId}{fn:Func}{keep:List Nat}{t:T}{ds:List D}{bs bs':List D}{o:Out}(hf:P.funcs[f]? = some fn)(hc:iU P cf fn keep=some t)(dQ:dA (bK P fn) ds=true)(fD:den P t (ds++[.st bs]) (rT o (.st bs'))) :
  bu P f (.st bs) ds o (.st bs'):=by
 intro w S az oD vs hb hst dN fG hS iL bO;cases hb;obtain⟨uT,_⟩:=fU dQ;have mR:(bK P fn).length=cQ fn:=by simp[bK,cQ]
 unfold iU at hc;split at hc
 ·cases hc
 rename_i c xK;split at hc
 ·cases hc
 rename_i Ll;rw[E0G] at Ll;have MM:=E1 (may:=az) (cf:=cf) dQ hst dN (fun _ h=>h) fG hS iL bO fun _ h=>.inr h;have Da:uD fn.ntmps (cN cf fn.ntmps (cQ fn) (bK P fn)):=⟨by simp[cN,d_,mR];omega,by simp[cN]⟩;refine(HI hf xK (tI (w:=w) (S:=S) (az:=az) c (env:=ds++[.st bs]) (by rw[A0u,←uT,mR];exact hc) (dJ (fun s hs=>hs.as) fD) MM Da)).mono ?_
 rintro e w' ⟨o',v,S',bJ,V2,hq,eb,hl⟩
 have:o'=o∧V2=bs':=by cases o' <;> (obtain⟨rfl,h2⟩:=hq;cases h2;exact⟨rfl,rfl⟩)
 obtain⟨rfl,rfl⟩:=this;exact⟨v,S',bJ,_,eb,rfl,hl.st,fun b o hs=>A0V (a:=⟨b,o,none⟩) (hl.old b (hS b o hs) fun hf=>hst.v_ b o hf hs),hl.le,hl.os,hl.tape,hl.output,hl.size,hl.old,hl.ft,hl.new,hl.lt⟩
end
end
end
section
noncomputable section
inductive Sh where
 | int (k:IntKind)
 | bool
 | str
 | sl (e:Sh)
 | st (fs:List Sh)
 deriving Inhabited
mutual
def Sh.size:Sh→Nat
 | .st fs=>Sh.sizes fs
 | _=>1
def Sh.sizes:List Sh→Nat
 | []=>0
 | s :: r=>s.size+Sh.sizes r
end
def Sh.ze:Sh→Bool
 | .st _=>true
 | _=>false
def sE (P:Program)(sh:TypeId→Option Sh):List Field→Nat→Option (List Sh)
 | [],_=>some []
 | f :: r,off=>if f.offset=off then(sh f.type).bind fun s=>if P.cellsOf f.type=s.size then(sE P sh r (off+s.size)).map (s :: ·) else none else none
def wE (P:Program):Nat→TypeId→Option Sh
 | 0,_=>none
 | n+1,t=>match P.underlying t with
  | some (.int k)=>some (.int k)
  | some .bool=>some .bool
  | some .string=>some .str
  | some (.slice e)=>(wE P n e).bind fun s=>if P.cellsOf e=s.size∧0<s.size then some (.sl s) else none
  | some (.struct fs)=>(sE P (wE P n) fs.toList 0).bind fun l=>if P.cellsOf t=Sh.sizes l then some (.st l) else none
  | _=>none
mutual
def fM:Sh→List D→Prop
 | .int k,ds=>∃n,ds=[.v (.int k n)]∧k.min≤n∧n≤k.max
 | .bool,ds=>∃b,ds=[.v (.bool b)]
 | .str,ds=>∃s,ds=[.v (.string s)]∧s.size≤maxLen
 | .sl e,ds=>∃es,ds=[.bk es]∧es.length≤maxLen∧∀x,x∈es→(e.ze=true→∃cs,x=.agg cs∧fM e cs)∧(e.ze=false→fM e [x])
 | .st fs,ds=>lK fs ds
def lK:List Sh→List D→Prop
 | [],ds=>ds=[]
 | s :: r,ds=>∃a b,ds=a++b∧fM s a∧lK r b
end
def EO (w:World):Sets:={ mem:=fun b _=>b<w.heap.size,loc:=fun _=>0,n:=0,cap:=fun _=>0 }
mutual
theorem fM.length:∀{s:Sh} {ds:List D},fM s ds→ds.length=s.size
 | .int _,_,⟨_,h,_⟩=>by rw[h];rfl
 | .bool,_,⟨_,h⟩=>by rw[h];rfl
 | .str,_,⟨_,h,_⟩=>by rw[h];rfl
 | .sl _,_,⟨_,h,_⟩=>by rw[h];rfl
 | .st _,_,h=>by simp only[fM] at h;rw[lK.length h];rfl
theorem lK.length:∀{l:List Sh} {ds:List D},lK l ds→ds.length=Sh.sizes l
 | [],_,h=>by simp only[lK] at h;rw[h];rfl
 | s :: r,_,h=>by simp only[lK] at h;obtain⟨a,b,rfl,h1,h2⟩:=h;rw[A0u,fM.length h1,lK.length h2];rfl
end
theorem Ny {P:Program}:∀{n:Nat} {t:TypeId} {s:Sh},wE P n t=some s→s.ze=false→s.size=1:=by intro n t s h hs;cases s <;> first | rfl | simp[Sh.ze] at hs
section
variable {H:Type} {enc:TypeId×Value→H} {P:Program} {w:World}
theorem CB {w:World}{a:Addr}{v:Value}(h:w.cell? a=some v):a.block<w.heap.size∧a.spot=none:=by
 unfold World.cell? at h;split at h
 ·rename_i c _ _ hc;split at h
  ·cases h
  ·rename_i hs;exact⟨(A0l.1 hc).1,by simpa using hs⟩
 ·cases h
theorem FP {w:World}{base n:Nat}{a:Addr}{cs:List Value}(h:w.cells? base a n=some cs):cs.length=n∧∀j,j<n→w.cell? (a.add j)=cs[j]?:=by
 unfold World.cells? at h;split at h
 ·have key:∀{l:List Nat} {cs:List Value},l.mapM (fun i=>w.cell? (a.add i))=some cs→cs.length=l.length∧∀(j i:Nat),l[j]? = some i→w.cell? (a.add i)=cs[j]?:=by
   intro l
   induction l with
   | nil=>intro cs h;simp at h;subst h;exact⟨rfl,by simp⟩
   | cons i l ih=>
    intro cs h;simp only[C0U,D0O,A0b,E0z,A0x] at h;obtain⟨v,h1,vs,h2,rfl⟩:=h;obtain⟨h3,h4⟩:=ih h2;refine⟨by simp[h3],fun j i' hj=>?_⟩;cases j with
    | zero=>simp at hj;subst hj;simpa using h1
    | succ j=>simpa using h4 j i' (by simpa using hj)
  obtain⟨h1,h2⟩:=key h;exact⟨by simpa using h1,fun j hj=>h2 j j (by simp[hj])⟩
 ·cases h
theorem WW:∀(fuel:Nat) {n:Nat} {t:TypeId} {cs:List Value} {x:DataW H×List MemPlace} {sh:Sh},DataW.trod enc P w 0 (fun _=>true) true fuel t cs=some x→wE P n t=some sh →
  ∃ds:List D,ds.length=cs.length∧fM sh ds∧∀(i:Nat) (v:Value) (y:D),cs[i]? = some v→ds[i]? = some y→bA w (EO w) v y∧y.one=true:=by
 intro fuel
 induction fuel with
 | zero=>intro n t cs x sh h;simp[DataW.trod] at h
 | succ fuel ih=>
  intro n t cs x sh h hs;have one:∀{v:Value} {y:D},bA w (EO w) v y→y.one=true→∀(i:Nat) (v':Value) (y':D),[v][i]? = some v'→[y][i]? = some y'→bA w (EO w) v' y'∧y'.one=true:=by
   intro v y h1 h2 i v' y' hv hy;cases i with
   | zero=>simp at hv hy;subst hv hy;exact⟨h1,h2⟩
   | succ i=>simp at hv
  cases n with
  | zero=>simp[wE] at hs
  | succ n=>
  simp only[wE] at hs;split at hs
  ·rename_i k ht;cases hs;obtain⟨m,rfl,_,hw⟩:=DataW.trod_int ht h;simp only[Lit.wf,A0f,A0t] at hw;exact⟨[.v (.int k m)],rfl,⟨m,rfl,hw⟩,one (.v rfl) rfl⟩
  ·rename_i ht;cases hs;obtain⟨b,rfl,_⟩:=DataW.trod_bool ht h;exact⟨[.v (.bool b)],rfl,⟨b,rfl⟩,one (.v rfl) rfl⟩
  ·rename_i ht;cases hs;obtain⟨s,rfl,_,hw⟩:=DataW.trod_string ht h;exact⟨[.v (.string s)],rfl,⟨s,rfl,hw⟩,one (.v rfl) rfl⟩
  ·rename_i e ht;obtain⟨s,yq,hs⟩:=A0b.1 hs;split at hs
   ·rename_i hc;obtain⟨hc,mK⟩:=hc;cases hs;rcases DataW.trod_slice ht h with⟨rfl,_⟩ | ⟨a,len,cap,elems,rest,m,hm,rfl,_,_,hl,nq,hlen,oe,ZY,_⟩
    ·exact⟨[.bk []],rfl,⟨[],rfl,B0e _,by simp⟩,one .nil rfl⟩
    ·cases hm;have aot:∀i,∃ds:List D,i<len→∃cs:List Value,w.cells? 0 (a.add (i*P.cellsOf e)) (P.cellsOf e)=some cs∧ds.length=cs.length∧fM s ds∧∀(j:Nat) (v:Value) (y:D),cs[j]? = some v→ds[j]? = some y→bA w (EO w) v y∧y.one=true:=by
      intro i
      by_cases hi:i<len
      ·have h1:=oe i hi;rw[A0e (show i<elems.length by omega)] at h1;obtain⟨cs,h2,h3⟩:=A0b.1 h1;obtain⟨ds,h4,h5,h6⟩:=ih h3 yq;exact⟨ds,fun _=>⟨cs,h2,h4,h5,h6⟩⟩
      ·exact⟨[],fun h=>absurd h hi⟩
     let mk:List D→D:=fun ds=>if s.ze=true then .agg ds else ds.headD (.v .nilIface)
     obtain⟨f,hf⟩:=E0n aot;have WA:∀i,i<len→(mk (f i)).cells=f i∧((s.ze=true→∃cs,mk (f i)=.agg cs∧fM s cs)∧(s.ze=false→fM s [mk (f i)])):=by
      intro i hi;obtain⟨cs,_,h4,h5,h6⟩:=hf i hi
      by_cases hst:s.ze=true
      ·have:mk (f i)=.agg (f i):=by simp only[mk];rw[A0z hst]
       rw[this];exact⟨rfl,(fun _=>⟨_,rfl,h5⟩),fun hh=>(by rw[hst] at hh;cases hh)⟩
      ·have hst:s.ze=false:=by simpa using hst
       have h1:(f i).length=1:=by rw[h5.length,Ny yq hst]
       match hfi:f i,h1 with
       | [d],_=>
        have:mk [d]=d:=by simp only[mk];rw[A0B (by simp[hst])];rfl
        rw[this];have dU:cs.length=1:=by rw[←h4,hfi];rfl
        rw[hfi] at h5 h6;have J2:d.one=true:=(h6 0 cs[0] d (by simp[dU]) rfl).2;exact⟨(by cases d <;> first | rfl | simp[D.one] at J2),(fun hh=>(by rw[hst] at hh;cases hh)),fun _=>h5⟩
     have kS:∀(i:Nat) (y:D),((List.range len).map fun i=>mk (f i))[i]? = some y→i<len∧y=mk (f i):=by intro i y hy;simp only[A0w,A0a] at hy;obtain⟨q,hq,rfl⟩:=hy;obtain⟨h1,rfl⟩:=A0c.1 hq;simp only[E0l] at h1;simp only[D0w];exact⟨h1,trivial⟩
     refine⟨[.bk ((List.range len).map fun i=>mk (f i))],rfl,⟨_,rfl,by simp;omega,fun y hy=>?_⟩,one ?_ rfl⟩
     ·obtain⟨i,hi⟩:=D0b.1 hy;obtain⟨ug,rfl⟩:=kS i y hi;exact(WA i ug).2
     ·by_cases ahR:len=0
      ·subst ahR;exact .emp nq
      ·-- qI address is plain
       have ahs:a.spot=none:=by obtain⟨cs,h2,h4,h5,_⟩:=hf 0 (by omega);obtain⟨h6,h7⟩:=FP h2;have:=h7 0 (by omega);rw[A0e (show 0<cs.length by omega)] at this;have:=(CB this).2;simpa[Addr.add] using this
       obtain⟨b,off,spot⟩:=a;subst ahs;have jK:∀(i:Nat) (e':D) (j:Nat) (d:D),((List.range len).map fun i=>mk (f i))[i]? = some e'→e'.cells[j]? = some d→∃v,w.cell? ⟨b,off+i*s.size+j,none⟩=some v∧bA w (EO w) v d∧d.one=true:=by intro i e' j d he hd;obtain⟨ug,rfl⟩:=kS i e' he;rw[(WA i ug).1] at hd;obtain⟨cs,h2,h4,h5,h6⟩:=hf i ug;obtain⟨h7,h8⟩:=FP h2;have hj:j<(f i).length:=(A0c.1 hd).1;have h9:=h8 j (by omega);rw[gO,gO,hc,A0e (show j<cs.length by omega)] at h9;exact⟨_,h9,h6 j _ d (A0e (by omega)) hd⟩
       refine .bk (size:=s.size) (val:=fun i j=>(w.cell? ⟨b,off+i*s.size+j,none⟩).getD undef) (by simp) hl nq (fun i e' he=>?_) (fun i e' j d he hd=>?_) (fun i e' j d he hd=>?_) (fun i e' j d he hd=>?_) fun i e' j d he hd=>?_
       ·obtain⟨ug,rfl⟩:=kS i e' he;obtain⟨cs,h2,h4,h5,h6⟩:=hf i ug;rw[(WA i ug).1,h5.length]
       ·obtain⟨v,_,_,h3⟩:=jK i e' j d he hd;exact h3
       ·obtain⟨v,h1,_,_⟩:=jK i e' j d he hd;exact(CB h1).1
       ·obtain⟨v,h1,_,_⟩:=jK i e' j d he hd;rw[h1];rfl
       ·obtain⟨v,h1,h2,_⟩:=jK i e' j d he hd;rw[h1];exact h2
   ·cases hs
  ·rename_i fs ht;obtain⟨l,hl,hs⟩:=A0b.1 hs;split at hs
   ·rename_i hc;cases hs;obtain⟨xs,m,hm,_,dU,p4,hf⟩:=DataW.trod_struct ht h;cases hm;have key:∀(fl:List Field) (off:Nat) (l:List Sh),sE P (wE P n) fl off=some l→off+Sh.sizes l≤cs.length→(∀f,f∈fl→∃x,DataW.trod enc P w 0 (fun _=>true) true fuel f.type ((cs.drop f.offset).take (P.cellsOf f.type))=some x) →
      ∃ds:List D,lK l ds∧∀(i:Nat) (v:Value) (y:D),cs[off+i]? = some v→ds[i]? = some y→bA w (EO w) v y∧y.one=true:=by
     intro fl
     induction fl with
     | nil=>intro off l h1 _ _;simp[sE] at h1;subst h1;exact⟨[],by simp[lK],by simp⟩
     | cons f fl ihf=>
      intro off l h1 h2 h3;simp only[sE] at h1;split at h1
      ·rename_i r_;obtain⟨s,sr,h1⟩:=A0b.1 h1;split at h1
       ·rename_i AS;obtain⟨l',iH,rfl⟩:=A0a.1 h1;simp only[Sh.sizes] at h2;obtain⟨ds2,g1,g2⟩:=ihf (off+s.size) l' iH (by omega) fun f' pU=>h3 f' (by simp[pU]);obtain⟨x,hx⟩:=h3 f (by simp);obtain⟨WL,k1,k2,k3⟩:=ih hx sr;have as4:=k2.length;refine⟨WL++ds2,by simp only[lK];exact⟨WL,ds2,rfl,k2,g1⟩,fun i v y hv hy=>?_⟩
        by_cases hi:i<WL.length
        ·rw[A0g hi] at hy;refine k3 i v y ?_ hy;rw[A0H,A0z (by omega),A0Z,r_];exact hv
        ·rw[A0o (by omega)] at hy;refine g2 (i-WL.length) v y ?_ hy;rw[←hv];congr 1;omega
       ·cases h1
      ·cases h1
    obtain⟨ds,h1,h2⟩:=key fs.toList 0 l hl (by rw[dU,hc];omega) fun f pU=>by
     obtain⟨i,hi⟩:=D0b.1 pU;have:=hf i f (by simpa using hi);have ug:i<xs.length:=by have:=(A0c.1 hi).1;simp at this;omega
     rw[A0e ug] at this;exact⟨_,this⟩
    refine⟨ds,by rw[h1.length,dU,hc],by simp only[fM];exact h1,fun i v y hv hy=>h2 i v y (by simpa using hv) hy⟩
   ·cases hs
  ·cases hs
end
end
end
section
noncomputable section
open Go.RowKit Go.ChangeShapes Go.WideShapes
def yh (s:Sh)(x:D):Prop:=(s.ze=true→∃cs,x=.agg cs∧fM s cs)∧(s.ze=false→fM s [x])
def tQ:List Sh→List D→Prop
 | [],ds=>ds=[]
 | s :: r,ds=>∃x ys,ds=x :: ys∧yh s x∧tQ r ys
section
variable {H:Type} {enc:TypeId×Value→H} {P:Program} {W:World}
theorem adF {base n:Nat}{t:TypeId}{v:Value}{d:DataW H}{ps:List MemPlace}{sh:Sh}(fB:Value.okWide P W .any base t v)(h:DataW.Trod enc P W 0 (fun _=>true) true t v d ps)(hs:wE P n t=some sh):∃x:D,bA W (EO W) v x∧yh sh x:=by
 obtain⟨fuel,hf⟩:=h;obtain⟨ds,h1,h2,h3⟩:=WW fuel hf hs;have one:v.cells=#[v]→sh.ze=false→∃x:D,bA W (EO W) v x∧yh sh x:=by
  intro hc hst;rw[hc] at h1 h3
  match ds,h1 with
  | [x],_=>exact⟨x,(h3 0 v x rfl rfl).1,(fun hh=>(by rw[hst] at hh;cases hh)),fun _=>h2⟩
 cases n with
 | zero=>simp[wE] at hs
 | succ n=>
  simp only[wE] at hs;split at hs
  ·rename_i k ht;cases hs;obtain⟨m,rfl⟩:=okWide_int ht fB;exact one rfl rfl
  ·rename_i ht;cases hs;obtain⟨m,rfl⟩:=okWide_bool ht fB;exact one rfl rfl
  ·rename_i ht;cases hs;obtain⟨m,rfl⟩:=okWide_string ht fB;exact one rfl rfl
  ·rename_i e ht;obtain⟨s,_,hs⟩:=A0b.1 hs;split at hs
   ·cases hs;obtain⟨a,len,cap,rfl⟩:=okWide_slice ht fB;exact one rfl rfl
   ·cases hs
  ·rename_i fs ht;obtain⟨l,_,hs⟩:=A0b.1 hs;split at hs
   ·cases hs;obtain⟨cs,rfl,_⟩:=okWide_struct ht fB;have hc:(Value.agg cs).cells=cs:=rfl;rw[hc] at h1 h3;refine⟨.agg ds,.agg (by rw[h1];simp) (fun i y hy=>?_) fun i u y hu hy=>(h3 i u y (by simpa using hu) hy).1,fun _=>⟨ds,rfl,h2⟩,fun hh=>by simp[Sh.ze] at hh⟩;have hi:i<cs.size:=by have:=(A0c.1 hy).1;rw[h1] at this;simpa using this
    exact(h3 i cs[i] y (by simp[hi]) hy).2
   ·cases hs
  ·cases hs
theorem By {base n:Nat}:∀{ts:List TypeId} {vs:List Value} {ds:List (DataW H)} {ps:List MemPlace} {Lb:List Sh},(∀(j:Nat) t v,ts[j]? = some t→vs[j]? = some v→Value.okWide P W .any base t v)→DataW.TrodAll enc P W 0 (fun _=>true) true ts vs ds ps→ts.mapM (wE P n)=some Lb →
  vs.length=ts.length∧ds.length=ts.length∧∃xs:List D,xs.length=vs.length∧tQ Lb xs∧∀(i:Nat) (v:Value) (x:D),vs[i]? = some v→xs[i]? = some x→bA W (EO W) v x
 | [],vs,ds,ps,Lb,_,h,hs=>by obtain⟨rfl,rfl,rfl⟩:=trodAll_nil h;simp at hs;subst hs;exact⟨rfl,rfl,[],rfl,rfl,by simp⟩
 | t :: ts,vs,ds,ps,Lb,hv,h,hs=>by
  obtain⟨v,vs',d,kL,p,q,rfl,rfl,rfl,h0,h1⟩:=trodAll_cons h;simp only[C0U,D0O,A0b,E0z,A0x] at hs;obtain⟨s,sr,r,oH,rfl⟩:=hs;obtain⟨x,k1,k2⟩:=adF (hv 0 t v rfl rfl) h0 sr;obtain⟨g1,g1',xs,g2,g3,g4⟩:=By (fun j t v ht gQ=>hv (j+1) t v (by simpa using ht) (by simpa using gQ)) h1 oH;refine⟨by simp[g1],by simp[g1'],x :: xs,by simp[g2],⟨x,xs,rfl,k2,g3⟩,fun i v' x' gQ fm=>?_⟩;cases i with
  | zero=>simp at gQ fm;subst gQ fm;exact k1
  | succ i=>exact g4 i v' x' (by simpa using gQ) (by simpa using fm)
theorem l9 {W':World}(hl:laidOutB P=true)(hb:Below W.heap.size W W'):∀{ts:List TypeId} {vs:List Value} {ds:List (DataW H)} {ps:List MemPlace},(∀t,t∈ts→P.readableRec t=true∧t<P.types.size)→(∀p,p∈ps→p.block<W.heap.size)→DataW.TrodAll enc P W 0 (fun _=>true) true ts vs ds ps →
  DataW.TrodAll enc P W' 0 (fun b=>decide (b<W.heap.size)) true ts vs ds ps
 | [],vs,ds,ps,_,_,h=>by obtain⟨rfl,rfl,rfl⟩:=trodAll_nil h;exact trodAll_mk0
 | t :: ts,vs,ds,ps,ht,hp,h=>by obtain⟨v,vs',d,kL,p,q,rfl,rfl,rfl,h0,h1⟩:=trodAll_cons h;exact trodAll_cons_mk (Below.trod hl (ht t (by simp)).1 (ht t (by simp)).2 h0 hb fun x hx=>hp x (by simp[hx])) (l9 hl hb (fun t' zf=>ht t' (by simp[zf])) (fun x hx=>hp x (by simp[hx])) h1)
end
end
end
section
noncomputable section
def mO (f:D→Option D):List D→Option (List D)
 | []=>some []
 | x :: r=>(f x).bind fun y=>(mO f r).map (y :: ·)
def kO (bs:List D):Nat→D→Option D
 | 0,_=>none
 | n+1,d=>match d with
  | .v x=>some (.v x)
  | .agg cs=>(mO (kO bs n) cs).map .agg
  | .bk cs=>(mO (kO bs n) cs).map .bk
  | .ptr cs=>(mO (kO bs n) cs).map .ptr
  | .a_ cs=>(mO (kO bs n) cs).map .a_
  | .iW t x=>(kO bs n x).map (.iW t)
  | .fn f a b=>(mO (kO bs n) a).bind fun a=>(mO (kO bs n) b).map (.fn f a)
  | .bS=>some (.bk [])
  | .loc i off=>(match bs[i]? with
   | some (.blk _ _ cs)=>(mO (kO bs n) (cs.drop off)).map .ptr
   | _=>none)
  | .sl i off len=>(match bs[i]? with
   | some (.blk _ sz cs)=>if off+len*sz≤cs.length then(mO (kO bs n) ((cs.drop off).take (len*sz))).map fun l=>.bk (if sz=1 then l else(chunks sz len l).map .agg) else none
   | _=>none)
  | _=>none
theorem jA {f:D→Option D}:∀{l l':List D},mO f l=some l'→l'.length=l.length∧∀(i:Nat) (y:D),l'[i]? = some y→∃x,l[i]? = some x∧f x=some y
 | [],l',h=>by cases h;exact⟨rfl,fun i y hi=>by simp at hi⟩
 | x :: r,l',h=>by
  simp only[mO,A0b,A0a] at h;obtain⟨y,h1,r',h2,rfl⟩:=h;obtain⟨h3,h4⟩:=jA h2;refine⟨by simp[h3],fun i z hi=>?_⟩;cases i with
  | zero=>simp at hi;subst hi;exact⟨x,rfl,h1⟩
  | succ i=>exact h4 i z (by simpa using hi)
section
variable {bs:List D}
theorem sU {n:Nat}{d d':D}(h:kO bs n d=some d')(hd:d.one=true):d'.one=true:=by
 cases n with
 | zero=>cases h
 | succ n=>
  cases d <;> simp only[kO] at h <;> try (simp[D.one] at hd;done)
  case v x=>cases h;rfl
  case bk cs=>obtain⟨l,_,rfl⟩:=A0a.1 h;rfl
  case ptr cs=>obtain⟨l,_,rfl⟩:=A0a.1 h;rfl
  case iW t x=>obtain⟨l,_,rfl⟩:=A0a.1 h;rfl
  case fn f a b=>
   obtain⟨a',_,h⟩:=A0b.1 h;obtain⟨l,_,rfl⟩:=A0a.1 h;rfl
  case bS=>cases h;rfl
  case loc i off=>
   split at h
   ·obtain⟨l,_,rfl⟩:=A0a.1 h;rfl
   ·cases h
  case sl i off len=>
   split at h
   ·split at h
    ·obtain⟨l,_,rfl⟩:=A0a.1 h;rfl
    ·cases h
   ·cases h
  all_goals cases h
theorem rR {d:D}(h:d.one=true):d.cells=[d]:=by cases d <;> first | rfl | simp[D.one] at h
theorem Cu {n:Nat}{e e':D}(h:kO bs n e=some e'):e'.cells.length=e.cells.length∧∀(j:Nat) (d':D),e'.cells[j]? = some d'→∃m d,m≤n∧e.cells[j]? = some d∧kO bs m d=some d':=by
 by_cases ho:e.one=true
 ·rw[rR ho,rR (sU h ho)];refine⟨rfl,fun j d' hj=>?_⟩;cases j with
  | zero=>simp at hj;subst hj;exact⟨n,e,A0m _,rfl,h⟩
  | succ j=>simp at hj
 ·cases n with
  | zero=>cases h
  | succ n=>
   cases e <;> simp only[kO] at h <;> try (simp[D.one] at ho;done)
   case agg cs=>
    obtain⟨l,hl,rfl⟩:=A0a.1 h;obtain⟨h1,h2⟩:=jA hl;refine⟨h1,fun j d' hj=>?_⟩;obtain⟨x,g1,g2⟩:=h2 j d' hj;exact⟨n,x,E0K _,g1,g2⟩
   case a_ cs=>
    obtain⟨l,hl,rfl⟩:=A0a.1 h;refine⟨rfl,fun j d' hj=>?_⟩;cases j with
    | zero=>simp[D.cells] at hj;subst hj;exact⟨n+1,_,A0m _,rfl,by simp only[kO];exact h⟩
    | succ j=>simp[D.cells] at hj
   all_goals cases h
theorem Cv {f:D→Option D}(hf:∀x y,f x=some y→y.gL=true):∀{l l':List D},mO f l=some l'→eD l'=true
 | [],l',h=>by cases h;rfl
 | x :: r,l',h=>by simp only[mO,A0b,A0a] at h;obtain⟨y,h1,r',h2,rfl⟩:=h;simp[eD,hf x y h1,Cv hf h2]
theorem Ck:∀{l:List D} (k:Nat),eD l=true→eD (l.take k)=true
 | [],k,_=>by simp[eD]
 | x :: r,0,_=>rfl
 | x :: r,k+1,h=>by simp only[eD,A0f] at h;simp[eD,h.1,Ck k h.2]
theorem Cl:∀{l:List D} (k:Nat),eD l=true→eD (l.drop k)=true
 | [],k,_=>by simp[eD]
 | x :: r,0,h=>h
 | x :: r,k+1,h=>by simp only[eD,A0f] at h;exact Cl k h.2
theorem wQ {sz:Nat}:∀{n:Nat} {l:List D},eD l=true→eD ((chunks sz n l).map .agg)=true
 | 0,_,_=>rfl
 | n+1,l,h=>by simp[chunks,eD,D.gL,Ck sz h,wQ (Cl sz h)]
theorem tZ:∀{n:Nat} {d d':D},kO bs n d=some d'→d'.gL=true
 | 0,_,_,h=>by cases h
 | n+1,d,d',h=>by
  have hL:∀{l l':List D},mO (kO bs n) l=some l'→eD l'=true:=fun h=>Cv (fun x y h=>tZ h) h;cases d <;> simp only[kO] at h
  case v x=>cases h;rfl
  case agg cs=>obtain⟨l,hl,rfl⟩:=A0a.1 h;simpa[D.gL] using hL hl
  case bk cs=>obtain⟨l,hl,rfl⟩:=A0a.1 h;simpa[D.gL] using hL hl
  case ptr cs=>obtain⟨l,hl,rfl⟩:=A0a.1 h;simpa[D.gL] using hL hl
  case a_ cs=>obtain⟨l,hl,rfl⟩:=A0a.1 h;simpa[D.gL] using hL hl
  case iW t x=>obtain⟨l,hl,rfl⟩:=A0a.1 h;simpa[D.gL] using tZ hl
  case fn f a b=>
   obtain⟨a',ha,h⟩:=A0b.1 h;obtain⟨l,hl,rfl⟩:=A0a.1 h;simp[D.gL,hL ha,hL hl]
  case bS=>cases h;rfl
  case loc i off=>
   split at h
   ·obtain⟨l,hl,rfl⟩:=A0a.1 h;simpa[D.gL] using hL hl
   ·cases h
  case sl i off len=>
   split at h
   ·split at h
    ·obtain⟨l,hl,rfl⟩:=A0a.1 h;simp only[D.gL];split
     ·exact hL hl
     ·exact wQ (hL hl)
    ·cases h
   ·cases h
  all_goals cases h
theorem Ct {w:World}{S:Sets}{az F:Nat→Prop}(hst:cI w S az bs)(hF:∀(i:Nat) (e:TypeId) (sz:Nat) (cs:List D),bs[i]? = some (.blk e sz cs)→F (S.loc i)):∀(n m:Nat),m≤n→∀{d d':D} {v:Value},bA w S v d→kO bs m d=some d'→bA w (S.or fun b _=>F b) v d'
 | 0,m,hm,d,d',v,_,h=>by
  have:m=0:=by omega
  subst this;cases h
 | n+1,0,_,d,d',v,_,h=>by cases h
 | n+1,m+1,hm,d,d',v,hr,h=>by
  have ih:=@Ct w S az F hst hF n;have RE:m≤n:=by omega
  have ZF:∀{i off k:Nat} {e:TypeId} {sz:Nat} {cs l:List D},bs[i]? = some (.blk e sz cs)→off+k≤cs.length→mO (kO bs m) ((cs.drop off).take k)=some l→l.length=k∧∃val:Nat→Value,∀(j:Nat) (y:D),l[j]? = some y→y.one=true∧w.cell? ⟨S.loc i,off+j,none⟩=some (val j)∧bA w (S.or fun b _=>F b) (val j) y:=by
   intro i off k e sz cs l hb hk hl;obtain⟨hf,vs,⟨e2,hh,_⟩,C2,dU,cV,bO,jP⟩:=hst.cells i e sz cs hb;obtain⟨h1,h2⟩:=jA hl;refine⟨by rw[h1];simp;omega,fun j=>vs.getD (off+j) undef,fun j y hj=>?_⟩;obtain⟨x,g1,g2⟩:=h2 j y hj;have hjk:j<k:=by have:=(A0c.1 g1).1;simp at this;omega
   rw[E0k hjk,A0Z] at g1;have hlt:off+j<vs.size:=by omega
   have hv:vs[off+j]? = some (vs.getD (off+j) undef):=by simp[A0s,hlt]
   exact⟨sU g2 (cV _ _ g1),by rw[eM hh];exact hv,ih m RE (bO _ _ _ hv g1) g2⟩
  cases d <;> simp only[kO] at h
  case v x=>cases h;cases hr with | v hp=>exact .v hp
  case agg cs=>
   obtain⟨l,hl,rfl⟩:=A0a.1 h;obtain⟨h1,h2⟩:=jA hl;cases hr with
   | agg hs ho hh=>
    refine .agg (by rw[hs,h1]) (fun i y hi=>?_) fun i u y hu hi=>?_
    ·obtain⟨x,g1,g2⟩:=h2 i y hi;exact sU g2 (ho i x g1)
    ·obtain⟨x,g1,g2⟩:=h2 i y hi;exact ih m RE (hh i u x hu g1) g2
  case bk cs=>
   obtain⟨l,hl,rfl⟩:=A0a.1 h;obtain⟨h1,h2⟩:=jA hl;cases hr with
   | nil=>cases hl;exact .nil
   | emp xF=>cases hl;exact .emp xF
   | @bk b off len cap size es val hs hc hx hz ho hS hw hh=>
    have rY:∀(i:Nat) (e':D) (j:Nat) (d':D),l[i]? = some e'→e'.cells[j]? = some d'→∃e k d,cs[i]? = some e∧e.cells[j]? = some d∧k≤n∧kO bs k d=some d':=by intro i e' j d' hi hj;obtain⟨e,g1,g2⟩:=h2 i e' hi;obtain⟨_,g3⟩:=Cu g2;obtain⟨k,d,g4,g5,g6⟩:=g3 j d' hj;exact⟨e,k,d,g1,g5,by omega,g6⟩
    refine .bk (size:=size) (val:=val) (by rw[hs,h1]) hc hx (fun i e' hi=>?_) (fun i e' j d' hi hj=>?_) (fun i e' j d' hi hj=>?_) (fun i e' j d' hi hj=>?_) fun i e' j d' hi hj=>?_
    ·obtain⟨e,g1,g2⟩:=h2 i e' hi;rw[(Cu g2).1];exact hz i e g1
    ·obtain⟨e,k,d,g1,g2,g3,g4⟩:=rY i e' j d' hi hj;exact sU g4 (ho i e j d g1 g2)
    ·obtain⟨e,k,d,g1,g2,g3,g4⟩:=rY i e' j d' hi hj;exact .inl (hS i e j d g1 g2)
    ·obtain⟨e,k,d,g1,g2,g3,g4⟩:=rY i e' j d' hi hj;exact hw i e j d g1 g2
    ·obtain⟨e,k,d,g1,g2,g3,g4⟩:=rY i e' j d' hi hj;exact ih k g3 (hh i e j d g1 g2) g4
  case ptr cs=>
   obtain⟨l,hl,rfl⟩:=A0a.1 h;obtain⟨h1,h2⟩:=jA hl;cases hr with
   | @ptr b off cs val ho hS hw hh=>
    refine .ptr (val:=val) (fun j y hj=>?_) (fun j y hj=>?_) (fun j y hj=>?_) fun j y hj=>?_
    ·obtain⟨x,g1,g2⟩:=h2 j y hj;exact sU g2 (ho j x g1)
    ·obtain⟨x,g1,g2⟩:=h2 j y hj;exact .inl (hS j x g1)
    ·obtain⟨x,g1,g2⟩:=h2 j y hj;exact hw j x g1
    ·obtain⟨x,g1,g2⟩:=h2 j y hj;exact ih m RE (hh j x g1) g2
  case a_ cs=>
   obtain⟨l,hl,rfl⟩:=A0a.1 h;obtain⟨h1,h2⟩:=jA hl;cases hr with
   | a_ hs hh=>
    refine .a_ (by rw[hs,h1]) fun i u y hu hi=>?_;obtain⟨x,g1,g2⟩:=h2 i y hi;exact ih m RE (hh i u x hu g1) g2
  case iW t x=>
   obtain⟨y,hy,rfl⟩:=A0a.1 h;cases hr with
   | iW hh=>exact .iW (ih m RE hh hy)
  case fn f a b=>
   obtain⟨a',ha,h⟩:=A0b.1 h;obtain⟨b',hb,rfl⟩:=A0a.1 h;obtain⟨a1,a2⟩:=jA ha;obtain⟨b1,b2⟩:=jA hb;cases hr with
   | fn hs Ae hh QE=>
    refine .fn (by rw[hs,a1]) (by rw[Ae,b1]) (fun i u y hu hi=>?_) fun i u y hu hi=>?_
    ·obtain⟨x,g1,g2⟩:=a2 i y hi;exact ih m RE (hh i u x hu g1) g2
    ·obtain⟨x,g1,g2⟩:=b2 i y hi;exact ih m RE (QE i u x hu g1) g2
  case bS=>cases h;cases hr with | bS=>exact .nil
  case loc i off=>
   split at h
   ·rename_i e sz cs hb;obtain⟨l,hl,rfl⟩:=A0a.1 h;cases hr with
    | loc hi=>
     by_cases ho:off≤cs.length
     ·have iH:mO (kO bs m) ((cs.drop off).take (cs.length-off))=some l:=by rw[C0B (by simp)];exact hl
      obtain⟨_,val,hv⟩:=ZF hb (by omega) iH;have hf:=hF i e sz cs hb;exact .ptr (val:=val) (fun j y hj=>(hv j y hj).1) (fun j y hj=>.inr hf) (fun j y hj=>(hv j y hj).2.1) fun j y hj=>(hv j y hj).2.2
     ·rw[D0y (by omega)] at hl;cases hl;exact .ptr (val:=fun _=>undef) (fun j y hj=>by simp at hj) (fun j y hj=>by simp at hj) (fun j y hj=>by simp at hj) fun j y hj=>by simp at hj
   ·cases h
  case sl i off len=>
   split at h
   ·rename_i e sz cs hb;split at h
    ·rename_i hle;obtain⟨l,hl,rfl⟩:=A0a.1 h;obtain⟨Hs,val,hv⟩:=ZF hb hle hl;have hf:=hF i e sz cs hb;have oe:∀(k:Nat) (x:D),(if sz=1 then l else(chunks sz len l).map .agg)[k]? = some x→x.cells.length=sz∧∀(j:Nat) (y:D),x.cells[j]? = some y→l[k*sz+j]? = some y:=by
      intro k x hx;split at hx
      ·rename_i h1;subst h1;have ho:=(hv k x hx).1;rw[rR ho];refine⟨rfl,fun j y hy=>?_⟩;cases j with
       | zero=>simp at hy;subst hy;rw[D0D];exact hx
       | succ j=>simp at hy
      ·have hk:k<len:=by have:=(A0c.1 hx).1;simpa[kE] using this
       rw[A0w,vS hk] at hx;cases hx;have rX:k*sz+sz≤len*sz:=by have:=B0k sz (Nat.succ_le_of_lt hk);rw[E0B] at this;exact this
       refine⟨by simp[D.cells];omega,fun j y hy=>?_⟩;simp only[D.cells] at hy;have hjs:j<sz:=by have:=(A0c.1 hy).1;simp at this;omega
       rw[E0k hjs,A0Z] at hy;exact hy
     have hlen:(if sz=1 then l else(chunks sz len l).map D.agg).length=len:=by
      split
      ·rename_i h1;rw[Hs,h1,D0D]
      ·simp[kE]
     cases hr with
     | sl hi hlc zk h0=>
      refine .bk (size:=sz) (val:=fun k j=>val (k*sz+j)) hlen.symm hlc zk (fun k x hx=>(oe k x hx).1) (fun k x j y hx hy=>(hv _ y ((oe k x hx).2 j y hy)).1) (fun k x j y hx hy=>.inr hf) (fun k x j y hx hy=>?_) fun k x j y hx hy=>(hv _ y ((oe k x hx).2 j y hy)).2.2;have:=(hv _ y ((oe k x hx).2 j y hy)).2.1;rw[C0m];exact this
    ·cases h
   ·cases h
  all_goals cases h
theorem XG {w:World}{S:Sets}{az:Nat→Prop}(hst:cI w S az bs)(n m:Nat)(hm:m≤n){d d':D}{v:Value}(hr:bA w S v d)(h:kO bs m d=some d'):bA w (S.or fun b _=>az b) v d':=
 Ct hst (fun i e sz cs hi=>(hst.cells i e sz cs hi).1) n m hm hr h
end
theorem bu.kO {P:Program}{f:FuncId}{ds bs':List D}{d d':D}{n:Nat}(h:bu P f (.st []) ds (.ret d) (.st bs'))(kQ:eD ds=true)(hm:Go.Am.kO bs' n d=some d')(bs:List D):aQ P f (.st bs) ds d':=by
 intro w S az oD vs hb hst dN fG hS iL bO
 let S0:Sets:={ mem:=S.mem,loc:=fun _=>0,n:=0,cap:=fun _=>0 }
 have zg:cI w S0 (fun _=>False) []:=⟨rfl,fun i e sz cs hi=>by simp at hi,fun b off hf=>hf.elim,fun i bU hi=>by simp at hi,fun i j x y hi=>by simp at hi,fun i z hi=>by simp at hi⟩;refine(h w S0 (fun _=>False) [] vs rfl zg (fun l rec hl=>by cases hl) (fun _ hf=>hf.elim) hS iL fun i v x hv hx=>(bO i v x hv hx).free (fun _ _ h=>h) (f_ kQ hx)).mono ?_
 rintro e w' ⟨v,S',bJ,fN,eb,jc,dP,hK,hle,nZ,ql,fZ,bV,hold,RI,kP,hlt⟩
 cases jc;refine⟨v,{ S with mem:=(S'.or fun b _=>bJ b).mem },⟨eb.1,(XG dP n n (A0m _) eb.2 hm).free (fun _ _ h=>h) (tZ hm)⟩,⟨⟨nZ,ql.tape,fZ,bV,fun b hb=>hold b hb fun hf=>hf⟩,ql.dr⟩,⟨fun b o h=>.inl (hle.mem b o h),A0m _,fun _ _=>rfl,fun _ _=>rfl,rfl,fun _ _=>rfl⟩,rfl,fun b o hs=>?_,fun b o hs=>?_⟩
 ·rcases hs with hs | hs
  ·rcases kP b o hs with g | g | g
   ·exact .inl g
   ·exact g.elim
   ·exact .inr g
  ·exact .inr ((RI b hs).1.elim (fun h=>h.elim) id)
 ·rcases hs with hs | hs
  ·exact hlt b o hs
  ·exact(RI b hs).2
def rD:List D→Bool
 | []=>true
 | [.qF _ _ _]=>true
 | _=>false
theorem HN {w:World}{S:Sets}{az:Nat→Prop}{g:Nat}{t:TypeId}{vs:List Value}{bs:List D}(hst:cI w S az (.qF g t vs :: bs))(fG:∀b,az b→b<w.heap.size) :
  S.loc 0=g∧az g∧g<w.heap.size∧w.heap[g]? = some (.cells vs.toArray t (0,0))∧(∀off,¬S g off)∧cI w { mem:=S.mem,loc:=fun _=>g,n:=1,cap:=fun _=>0 } (fun b=>b=g) [.qF g t vs]:=by
 obtain⟨hf,⟨mL,hh,mR⟩,jP⟩:=hst.s7 0 _ rfl rfl;rw[mL] at hf hh jP;refine⟨mL,hf,fG g hf,hh,jP,rfl,fun i e sz cs hi=>?_,fun b off hb hs=>?_,fun i bU hi=>?_,fun i j x y hi hj _ _ _=>?_,fun i z hi hz=>?_⟩
 ·cases i <;> simp at hi
 ·subst hb;exact jP off hs
 ·cases i <;> simp at hi
 ·have:=(A0c.1 hi).1;have:=(A0c.1 hj).1;simp at *;omega
 ·cases i with
  | zero=>simp at hi;subst hi;exact⟨rfl,⟨rfl,hh,mR⟩,jP⟩
  | succ i=>simp at hi
theorem bu.agn {P:Program}{f:FuncId}{ds bs':List D}{d d':D}{n:Nat}{g:Nat}{t:TypeId}{vs:List Value}(h:bu P f (.st [.qF g t vs]) ds (.ret d) (.st (.qF g t vs :: bs')))(kQ:eD ds=true)(hm:Go.Am.kO (.qF g t vs :: bs') n d=some d')(bs:List D):aQ P f (.st (.qF g t vs :: bs)) ds d':=by
 intro w S az oD ws hb hst dN fG hS iL bO;cases hb;obtain⟨mL,hfg,Yh,hhg,jP,zg⟩:=HN hst fG;refine(h w _ _ _ ws rfl zg (fun l rec hl=>by cases hl) (fun b hb=>hb ▸ Yh) hS iL fun i v x hv hx=>(bO i v x hv hx).free (fun _ _ h=>h) (f_ kQ hx)).mono ?_
 rintro e w' ⟨v,S',bJ,fN,eb,jc,dP,hK,hle,nZ,ql,fZ,bV,hold,RI,kP,hlt⟩
 cases jc;obtain⟨UP,⟨Ai,QE,_⟩,_⟩:=dP.s7 0 _ rfl rfl;rw[Ai] at QE UP;have hF:∀(i:Nat) (e:TypeId) (sz:Nat) (cs:List D),(D.qF g t vs :: bs')[i]? = some (.blk e sz cs)→bJ (S'.loc i)∧S'.loc i≠g:=by intro i e sz cs hi;refine⟨(dP.cells i e sz cs hi).1,fun he=>?_⟩;have:=dP.inj i 0 _ _ hi rfl rfl rfl (he.trans Ai.symm);subst this;simp at hi
 have Uq:∀b,b<w.heap.size→w'.heap[b]? = w.heap[b]?:=by
  intro b hb
  by_cases Yu:b=g
  ·rw[Yu,QE,hhg]
  ·exact hold b hb Yu
 refine⟨v,{ S with mem:=(S'.or fun b _=>bJ b∧b≠g).mem },⟨eb.1,(Ct dP hF n n (A0m _) eb.2 hm).free (fun _ _ h=>h) (tZ hm)⟩,⟨⟨nZ,ql.tape,fZ,bV,fun b hb=>Uq b hb⟩,ql.dr⟩,⟨fun b o h=>.inl (hle.mem b o h),A0m _,fun _ _=>rfl,fun _ _=>rfl,rfl,fun _ _=>rfl⟩,rfl,fun b o hs=>?_,fun b o hs=>?_⟩
 ·rcases hs with hs | hs
  ·rcases kP b o hs with k | k | k
   ·exact .inl k
   ·exfalso;subst k;exact dP.v_ _ o UP hs
   ·exact .inr k
  ·rcases(RI b hs.1).1 with k | k
   ·exact absurd k hs.2
   ·exact .inr k
 ·rcases hs with hs | hs
  ·exact hlt b o hs
  ·exact(RI b hs.1).2
theorem bu.Qb {P:Program}{f:FuncId}{ds bs':List D}{o:Out}{g:Nat}{t:TypeId}{vs:List Value}(h:bu P f (.st [.qF g t vs]) ds o (.st (.qF g t vs :: bs')))(kQ:eD ds=true)(ho:o.gL=true)(bs:List D):eS P f (.st (.qF g t vs :: bs)) ds o:=by
 intro w S az oD ws hb hst dN fG hS iL bO;cases hb;obtain⟨mL,hfg,Yh,hhg,jP,zg⟩:=HN hst fG;refine(h w _ _ _ ws rfl zg (fun l rec hl=>by cases hl) (fun b hb=>hb ▸ Yh) hS iL fun i v x hv hx=>(bO i v x hv hx).free (fun _ _ h=>h) (f_ kQ hx)).mono ?_
 rintro e w' ⟨v,S',bJ,fN,eb,jc,dP,hK,hle,nZ,ql,fZ,bV,hold,RI,kP,hlt⟩
 cases jc;obtain⟨UP,⟨Ai,QE,_⟩,_⟩:=dP.s7 0 _ rfl rfl;rw[Ai] at QE UP;have Uq:∀b,b<w.heap.size→w'.heap[b]? = w.heap[b]?:=by
  intro b hb
  by_cases Yu:b=g
  ·rw[Yu,QE,hhg]
  ·exact hold b hb Yu
 refine⟨v,{ S with mem:=S'.mem },?_,⟨⟨nZ,ql.tape,fZ,bV,Uq⟩,ql.dr⟩,⟨hle.mem,A0m _,fun _ _=>rfl,fun _ _=>rfl,rfl,fun _ _=>rfl⟩,rfl,fun b o hs=>?_,hlt⟩
 ·cases o with
  | ret d=>exact⟨eb.1,eb.2.free (fun _ _ h=>h) ho⟩
  | ee d=>exact⟨eb.1,eb.2.free (fun _ _ h=>h) ho⟩
 ·rcases kP b o hs with k | k | k
  ·exact .inl k
  ·exfalso;subst k;exact dP.v_ _ o UP hs
  ·exact .inr k
theorem eS.abn {P:Program}{f:FuncId}{ds:List D}{o:Out}{g:Nat}{t:TypeId}{vs:List Value}(h:eS P f (.st [.qF g t vs]) ds o)(kQ:eD ds=true)(ho:o.gL=true)(bs:List D):eS P f (.st (.qF g t vs :: bs)) ds o:=by
 intro w S az oD ws hb hst dN fG hS iL bO;cases hb;obtain⟨mL,hfg,Yh,hhg,jP,zg⟩:=HN hst fG;refine(h w _ _ _ ws rfl zg (fun l rec hl=>by cases hl) (fun b hb=>hb ▸ Yh) hS iL fun i v x hv hx=>(bO i v x hv hx).free (fun _ _ h=>h) (f_ kQ hx)).mono ?_
 rintro e w' ⟨v,S',eb,hb,hle,HW,kP,hlt⟩
 refine⟨v,{ S with mem:=S'.mem },?_,hb,⟨hle.mem,A0m _,fun _ _=>rfl,fun _ _=>rfl,rfl,fun _ _=>rfl⟩,rfl,kP,hlt⟩;cases o with
 | ret d=>exact⟨eb.1,eb.2.free (fun _ _ h=>h) ho⟩
 | ee d=>exact⟨eb.1,eb.2.free (fun _ _ h=>h) ho⟩
def vV (b0 bs:List D):Bool:=D.fq (bs.take b0.length) b0
theorem uu {b0 bs:List D}(h:vV b0 bs=true):∃r,bs=b0++r:=⟨bs.drop b0.length,by
 have:=D.dB h
 conv=>lhs;rw[←C0F b0.length bs,this]⟩
theorem vW {b0:List D}(h:rD b0=true):b0=[]∨∃g t vs,b0=[.qF g t vs]:=by
 unfold rD at h;split at h
 ·exact .inl rfl
 ·exact .inr ⟨_,_,_,rfl⟩
 ·cases h
theorem bu.ZK {P:Program}{f:FuncId}{b0 ds r:List D}{d d':D}{n:Nat}(h0:rD b0=true)(h:bu P f (.st b0) ds (.ret d) (.st (b0++r)))(kQ:eD ds=true)(hm:Go.Am.kO (b0++r) n d=some d')(bs:List D):aQ P f (.st (b0++bs)) ds d':=by
 rcases vW h0 with rfl | ⟨g,t,vs,rfl⟩
 ·exact bu.kO h kQ hm bs
 ·exact bu.agn h kQ hm bs
theorem bu.Qc {P:Program}{f:FuncId}{b0 ds r:List D}{o:Out}(h0:rD b0=true)(h:bu P f (.st b0) ds o (.st (b0++r)))(kQ:eD ds=true)(ho:o.gL=true)(bs:List D):eS P f (.st (b0++bs)) ds o:=by
 rcases vW h0 with rfl | ⟨g,t,vs,rfl⟩
 ·exact h.Tp kQ ho bs
 ·exact h.Qb kQ ho bs
theorem eS.ofA {P:Program}{f:FuncId}{b0 ds:List D}{o:Out}(h0:rD b0=true)(h:eS P f (.st b0) ds o)(kQ:eD ds=true)(ho:o.gL=true)(bs:List D):eS P f (.st (b0++bs)) ds o:=by
 rcases vW h0 with rfl | ⟨g,t,vs,rfl⟩
 ·exact h.Cj kQ bs
 ·exact h.abn kQ ho bs
end
end
section
noncomputable section
def E.qa (k:Nat):E→Bool
 | .sym j=>j != k
 | .const _ | .nil | .ai=>true
 | .un _ a | .conv _ a | .bI a | .gy a | .aV a | .cell _ a | .cells _ _ a | .bE _ a | .cw a | .av _ a | .rep _ a _ | .deref a | .iW _ a | .aj _ a | .nn a | .aJ a=>a.qa k
 | .bin _ _ a b | .idx a b | .cons a b | .app _ _ a b | .bz a b | .b_ _ a b | .aa a b | .mm _ a b | .ax _ a b | .ld _ _ a b | .fO _ _ a b | .cE _ _ a b | .cR a b | .guard a _ b=>a.qa k&&b.qa k
 | .sub _ a b c | .set a b _ c | .ite a b c | .eL _ a b c | .gM _ _ _ a b c | .apps a b c=>a.qa k&&b.qa k&&c.qa k
 | .m4 _ a b c d=>a.qa k&&b.qa k&&c.qa k&&d.qa k
theorem E.M8 {k : Nat} {env env' : List D} (he : ∀ j, j ≠ k → env'[j]? = env[j]?) : ∀ (x : E), x.qa k = true → x.eval env' = x.eval env := by
  intro x
  induction x <;> intro h <;> simp only [E.qa, A0f, E0j, ne_eq] at h <;> simp only [E.eval]
  case sym j => exact he j h
  case ite c a b hc ha hb => rw [hc h.1.1, ha h.1.2, hb h.2]
  case guard c w a hc ha => rw [hc h.1, ha h.2]
  all_goals first
    | rfl
    | (rename_i ha; rw [ha h])
    | (rename_i ha hb; rw [ha h.1, hb h.2])
    | (rename_i ha hb hc; rw [ha h.1.1, hb h.1.2, hc h.2])
    | (rename_i ha hb hc hd; rw [ha h.1.1.1, hb h.1.1.2, hc h.1.2, hd h.2])
structure AI where
 R:FuncId→D→List D→Option Out
 W:FuncId→D→List D→Option (Out×D)
 F:FuncId→D→List D→Option D→Option D
 I:FuncId→D→List D→List D→(D→List D→Option (Bool×D))→Option (D×D)
abbrev Hand:=D→List D→Option (Bool×D)
def Dy (yk:Option (Nat×Hand))(env:List D)(x:E):Option D:=
 match yk with
 | none=>x.eval env
 | some (k,_)=>if x.qa k=true then x.eval env else none
def jZ (yk:Option (Nat×Hand))(env:List D):List E→Option (List D)
 | []=>some []
 | x :: r=>(Dy yk env x).bind fun d=>(jZ yk env r).map (d :: ·)
def uV (yk:Option (Nat×Hand))(env:List D):List (E×Bool)→Option Bool
 | []=>some true
 | p :: r=>(Dy yk env p.1).bind fun d=>(uV yk env r).map fun b=>D.same d (.v (.bool p.2))&&b
def Gj:gu→gu→Bool
 | .jump l a,.jump m b=>decide (l=m)&&D.fq a b
 | .ret a,.ret b=>D.same a b
 | .ee a b s c,.ee a' b' s' c'=>D.same a a'&&D.same b b'&&decide (s=s')&&D.fq c c'
 | _,_=>false
def tE (l:Nat)(body:List D→Option gu):Nat→List D→Option gu
 | 0,_=>none
 | n+1,ds=>(body ds).bind fun s=>match s with
  | .jump l' kL=>if l'=l then tE l body n kL else some s
  | _=>some s
def abE (yk:Option (Nat×Hand))(x:E):Option Hand:=
 match yk,x with
 | some (k,hd),.sym j=>if j=k then some hd else none
 | _,_=>none
def nN (P : Program) (o : AI) (n : Nat) (yk : Option (Nat × Hand)) : T → List D → Option gu
  | .bind (.ev x) t, env => (Dy yk env x).bind fun d => nN P o n yk t (env ++ [d])
  | .bind (.call act f h args rs) t, env => (uV yk env act).bind fun b =>
      if b = true then (Dy yk env h).bind fun st => (jZ yk env args).bind fun ds => (o.R f st ds).bind fun r => match r with
        | .ret d => if d.fits rs = true then nN P o n yk t (env ++ [d]) else none
        | .ee _ => none
      else nN P o n yk t (env ++ [D.undef])
  | .bind (.bw act f h args rs) t, env => (uV yk env act).bind fun b => (Dy yk env h).bind fun st =>
      if b = true then (jZ yk env args).bind fun ds => (o.W f st ds).bind fun r => match r with
        | (.ret d, h') => if d.fits rs = true then nN P o n yk t (env ++ [.a_ [d, h']]) else none
        | _ => none
      else nN P o n yk t (env ++ [.a_ [D.undef, st]])
  | .bind (.ei act x h args rs) t, env => (uV yk env act).bind fun b =>
      if b = true then (Dy yk env x).bind fun xd => (Dy yk env h).bind fun st => (jZ yk env args).bind fun ds => match xd with
        | .fn f us cs => if bL P f = true then (o.R f st (us ++ ds ++ cs)).bind fun r => match r with
          | .ret d => if d.fits rs = true then nN P o n yk t (env ++ [d]) else none
          | .ee _ => none
          else none
        | _ => none
      else nN P o n yk t (env ++ [D.undef])
  | .bind (.dG act x h args rs) t, env => (uV yk env act).bind fun b => (Dy yk env h).bind fun st =>
      if b = true then (jZ yk env args).bind fun ds => match abE yk x with
        | some hd => (hd st ds).bind fun r => if (D.bool r.1).fits rs = true then nN P o n yk t (env ++ [.a_ [.bool r.1, r.2]]) else none
        | none => (Dy yk env x).bind fun xd => match xd with
          | .fn f us cs => if bL P f = true then (o.W f st (us ++ ds ++ cs)).bind fun r => match r with
            | (.ret d, h') => if d.fits rs = true then nN P o n yk t (env ++ [.a_ [d, h']]) else none
            | _ => none
            else none
          | _ => none
      else nN P o n yk t (env ++ [.a_ [D.undef, st]])
  | .ite c a b, env => (Dy yk env c).bind fun d => match d with
    | .v (.bool true) => nN P o n yk a env
    | .v (.bool false) => nN P o n yk b env
    | _ => none
  | .loop l inits body, env => (jZ yk env inits).bind fun ds => tE l (fun ds => if ds.length = inits.length then nN P o n yk body (env ++ ds) else none) n ds
  | .join l m body rest, env => (nN P o n yk body env).bind fun s => match s with
    | .jump l' ds => if l' = l then (if ds.length = m then nN P o n yk rest (env ++ ds) else none) else some s
    | _ => some s
  | .jump l vals, env => (jZ yk env vals).map (.jump l)
  | .ret x, env => (Dy yk env x).map .ret
  | .ee x h sl ks, env => (Dy yk env x).bind fun d => (Dy yk env h).bind fun st => (jZ yk env ks).map fun kd => .ee d st sl kd
  | .lR x neg t, env => (Dy yk env x).bind fun d => match d.isNil with
    | some [b] => nN P o n yk t (env ++ [.v (.bool (b != neg))])
    | some [b, c] => (nN P o n yk t (env ++ [.v (.bool (b != neg))])).bind fun s => (nN P o n yk t (env ++ [.v (.bool (c != neg))])).bind fun s' => if Gj s s' = true then some s else none
    | _ => none
  | .pick _ _, _ => none
  | .Ia f keep cr res t, env => (jZ yk env cr).bind fun eH => if eH.all D.JE = true then (nN P o n yk t env).bind fun s => match s with
      | .ret (.a_ [.a_ kd, st]) => (o.F f st eH none).bind fun eT => (res.eval (kd ++ [eT])).map fun d' => .ret (.a_ [d', eT])
      | .ee d st sl kd => if sl = keep then (o.F f st eH (some d)).bind fun eT => (res.eval (kd ++ [eT])).map fun d' => .ret (.a_ [d', eT]) else none
      | _ => none
    else none
  | .gX f h args rs sl ks t, env => (Dy yk env h).bind fun st => (jZ yk env args).bind fun ds => (o.R f st ds).bind fun r => match r with
    | .ret d => if d.fits rs = true then nN P o n yk t (env ++ [d]) else none
    | .ee d => (jZ yk env ks).map fun kd => .ee d st sl kd
  | .gH f h args rs sl ks t, env => (Dy yk env h).bind fun st => (jZ yk env args).bind fun ds => (o.W f st ds).bind fun r => match r with
    | (.ret d, h') => if d.fits rs = true then nN P o n yk t (env ++ [.a_ [d, h']]) else none
    | (.ee d, h') => (jZ yk env ks).map fun kd => .ee d h' sl kd
  | .fS x h args rs sl ks t, env => (Dy yk env x).bind fun xd => (Dy yk env h).bind fun st => (jZ yk env args).bind fun ds => match xd with
    | .fn f us cs => if bL P f = true then (o.W f st (us ++ ds ++ cs)).bind fun r => match r with
      | (.ret d, h') => if d.fits rs = true then nN P o n yk t (env ++ [.a_ [d, h']]) else none
      | (.ee d, h') => (jZ yk env ks).map fun kd => .ee d h' sl kd
      else none
    | _ => none
  | .nW x h _ cr m l body rest, env => match yk with
    | some _ => none
    | none => (x.eval env).bind fun xd => (h.eval env).bind fun st => (aA env cr).bind fun eH => match xd with
      | .fn f us cs => if bL P f = true ∧ aN eH = true then
          (o.I f st us cs fun st1 ds => if st1.bZ = true ∧ aN ds = true ∧ ds.length = m then (match nN P o n none body (env ++ [st1] ++ ds) with
            | some (.jump l' [st2]) => if l' = l then some (true, st2) else none
            | _ => none) else none).bind fun r => if r.2.bZ = true then nN P o n none rest (env ++ [r.2]) else none
        else none
      | _ => none
structure lD (P:Program)(o:AI):Prop where
 R:∀f st ds r,o.R f st ds=some r→eS P f st ds r
 W:∀f st ds r h',o.W f st ds=some (r,h')→bu P f st ds r h'
 F:∀f st cs m eT,o.F f st cs m=some eT→rS P f st cs m eT
 I:∀f st us cs hd d eT,o.I f st us cs hd=some (d,eT)→∀y:D,y.one=true→(∀st ds b eT,hd st ds=some (b,eT)→yg P y st ds (.bool b) eT)→aZ P f st (us++[y]++cs) d eT
def EM (P:Program)(yk:Option (Nat×Hand))(env env':List D):Prop:=
 match yk with
 | none=>env'=env
 | some (k,hd)=>k<env.length∧env'.length=env.length∧(∀j,j≠k→env'[j]? = env[j]?)∧∃y:D,env'[k]? = some y∧y.one=true∧∀st ds b eT,hd st ds=some (b,eT)→yg P y st ds (.bool b) eT
section
variable {P:Program} {o:AI} {n:Nat} {yk:Option (Nat×Hand)}
theorem EM.more {env env':List D}(h:EM P yk env env')(ds:List D):EM P yk (env++ds) (env'++ds):=by
 unfold EM at h ⊢;split
 ·rw[h]
 ·rename_i k hd;obtain⟨h1,h2,h3,y,h4,h5,h6⟩:=h;refine⟨by simp;omega,by simp[h2],fun j hj=>?_,y,by rw[A0g (by omega)];exact h4,h5,h6⟩;rcases A0U j env.length with hl | hl
  ·rw[A0g (by omega),A0g hl];exact h3 j hj
  ·rw[A0o (by omega),A0o hl,h2]
theorem dO {env env':List D}(h:EM P yk env env'){x:E}{d:D}(hx:Dy yk env x=some d):x.eval env'=some d:=by
 unfold Dy at hx;unfold EM at h;split at hx
 ·rw[h];exact hx
 ·rename_i k hd;split at hx
  ·rename_i hn;rw[E.M8 h.2.2.1 x hn];exact hx
  ·cases hx
theorem ed {env env':List D}(h:EM P yk env env'):∀{l:List E} {ds:List D},jZ yk env l=some ds→aA env' l=some ds
 | [],ds,hd=>by simpa[jZ,aA] using hd
 | x :: r,ds,hd=>by simp only[jZ,A0b,A0a] at hd;obtain⟨d,h1,kL,h2,rfl⟩:=hd;simp only[aA,dO h h1,ed h h2,A0d,A0y]
theorem js {env env':List D}(h:EM P yk env env'):∀{act:List (E×Bool)} {b:Bool},uV yk env act=some b→(∀p,p∈act→∃d,p.1.eval env'=some d)∧(b=true↔bq env' act)
 | [],b,hb=>by simp only[uV,A0x] at hb;subst hb;exact⟨by simp,by simp[nG]⟩
 | p :: r,b,hb=>by
  simp only[uV,A0b,A0a] at hb;obtain⟨d,h1,b',h2,rfl⟩:=hb;obtain⟨h3,h4⟩:=js h h2;have hx:=dO h h1;refine⟨fun q hq=>?_,?_⟩
  ·cases hq with
   | head=>exact⟨d,hx⟩
   | tail _ hq=>exact h3 q hq
  ·rw[A0f,h4];constructor
   ·rintro⟨g1,g2⟩ q hq
    cases hq with
    | head=>rw[hx,D.cL g1]
    | tail _ hq=>exact g2 q hq
   ·intro g;refine⟨?_,fun q hq=>g q (by simp[hq])⟩;have:=g p (by simp);rw[hx] at this;cases this;simp[D.same,Value.same]
theorem LO {s s':gu}(h:Gj s s'=true):s=s':=by
 unfold Gj at h;split at h
 ·simp only[A0f,A0t] at h;rw[h.1,D.dB h.2]
 ·rw[D.cL h]
 ·simp only[A0f,A0t] at h;rw[D.cL h.1.1.1,D.cL h.1.1.2,h.1.2,D.dB h.2]
 ·cases h
theorem tD {l:Nat}{ev:List D→Option gu}{body:List D→(gu→Prop)→Prop}{s:gu}(hb:∀ds s',ev ds=some s'→∀Q:gu→Prop,Q s'→body ds Q):∀(n:Nat) (ds:List D),tE l ev n ds=some s→rounds l body (fun s'=>s'=s) n ds
 | 0,ds,h=>by simp[tE] at h
 | n+1,ds,h=>by
  simp only[tE,A0b] at h;obtain⟨s1,h1,h2⟩:=h;refine hb ds s1 h1 _ ?_;cases s1 with
  | jump l' kL=>
   simp only[cU] at h2 ⊢;split at h2
   ·rename_i e;rw[A0z e];exact tD hb n kL h2
   ·rename_i e;rw[A0B e];cases h2;rfl
  | ret d=>cases h2;rfl
  | ee d st sl kd=>cases h2;rfl
theorem MG {env env':List D}(h:EM P yk env env'){x:E}{hd:Hand}(hx:abE yk x=some hd):∃y:D,x.eval env'=some y∧y.one=true∧∀st ds b eT,hd st ds=some (b,eT)→yg P y st ds (.bool b) eT:=by
 unfold abE at hx;split at hx
 ·rename_i k fo j;split at hx
  ·rename_i e;cases hx;subst e;obtain⟨_,_,_,y,h4,h5,h6⟩:=h;exact⟨y,h4,h5,h6⟩
  ·cases hx
 ·cases hx
theorem zz (ho : lD P o) : ∀ {t : T} {yk : Option (Nat × Hand)} {env env' : List D} {s : gu}, EM P yk env env' → nN P o n yk t env = some s → den P t env' fun s' => s' = s := by
  intro t
  induction t with
  | bind b t ih =>
    intro yk env env' s hy h;cases b with
    | ev x =>
      simp only [nN, A0b] at h;obtain ⟨d, h1, h2⟩ := h;exact ⟨d, dO hy h1, ih (hy.more [d]) h2⟩
    | call act f hE args rs =>
      simp only [nN, A0b] at h;obtain ⟨b, h1, h2⟩ := h;obtain ⟨g1, g2⟩ := js hy h1;split at h2
      · obtain ⟨st, k1, ds, k2, r, k3, k4⟩ := (by simpa only [A0b] using h2 : ∃ st, Dy yk env hE = some st ∧ ∃ ds, jZ yk env args = some ds ∧ ∃ r, o.R f st ds = some r ∧ _)
        split at k4
        · rename_i d
          split at k4
          · rename_i hf
            exact ⟨g1, d, fun _ => ⟨st, ds, dO hy k1, ed hy k2, ho.R _ _ _ _ k3, hf⟩, ih (hy.more [d]) k4⟩
          · cases k4
        · cases k4
      · rename_i hb
        exact ⟨g1, D.undef, fun ha => absurd (g2.2 ha) hb, ih (hy.more _) h2⟩
    | bw act f hE args rs =>
      simp only [nN, A0b] at h;obtain ⟨b, h1, st, k1, h2⟩ := h;obtain ⟨g1, g2⟩ := js hy h1;split at h2
      · rename_i hb
        obtain ⟨ds, k2, r, k3, k4⟩ := (by simpa only [A0b] using h2 : ∃ ds, jZ yk env args = some ds ∧ ∃ r, o.W f st ds = some r ∧ _);split at k4
        · rename_i d h'
          split at k4
          · rename_i hf
            exact ⟨g1, st, d, h', dO hy k1, fun _ => ⟨ds, ed hy k2, ho.W _ _ _ _ _ k3, hf⟩, fun hn => absurd (g2.1 hb) hn, ih (hy.more _) k4⟩
          · cases k4
        · cases k4
      · rename_i hb
        exact ⟨g1, st, D.undef, st, dO hy k1, fun ha => absurd (g2.2 ha) hb, fun _ => rfl, ih (hy.more _) h2⟩
    | ei act x hE args rs =>
      simp only [nN, A0b] at h;obtain ⟨b, h1, h2⟩ := h;obtain ⟨g1, g2⟩ := js hy h1;split at h2
      · obtain ⟨xd, k0, st, k1, ds, k2, k3⟩ := (by simpa only [A0b] using h2 : ∃ xd, Dy yk env x = some xd ∧ ∃ st, Dy yk env hE = some st ∧ ∃ ds, jZ yk env args = some ds ∧ _)
        split at k3
        · rename_i f us cs
          split at k3
          · rename_i dU
            obtain ⟨r, k3, k4⟩ := A0b.1 k3;split at k4
            · rename_i d
              split at k4
              · rename_i hf
                exact ⟨g1, d, fun _ => ⟨f, us, cs, st, ds, dO hy k0, dU, dO hy k1, ed hy k2, ho.R _ _ _ _ k3, hf⟩, ih (hy.more [d]) k4⟩
              · cases k4
            · cases k4
          · cases k3
        · cases k3
      · rename_i hb
        exact ⟨g1, D.undef, fun ha => absurd (g2.2 ha) hb, ih (hy.more _) h2⟩
    | dG act x hE args rs =>
      simp only [nN, A0b] at h;obtain ⟨b, h1, st, k1, h2⟩ := h;obtain ⟨g1, g2⟩ := js hy h1;split at h2
      · rename_i hb
        obtain ⟨ds, k2, h2⟩ := A0b.1 h2;split at h2
        · rename_i hd hyk
          obtain ⟨y, y1, y2, y3⟩ := MG hy hyk;obtain ⟨⟨b', h'⟩, k3, k4⟩ := A0b.1 h2;split at k4
          · rename_i hf
            exact ⟨g1, st, .bool b', h', dO hy k1, fun _ => ⟨y, ds, y1, ed hy k2, y3 _ _ _ _ k3, hf⟩, fun hn => absurd (g2.1 hb) hn, ih (hy.more _) k4⟩
          · cases k4
        · obtain ⟨xd, k0, h2⟩ := A0b.1 h2
          split at h2
          · rename_i f us cs
            split at h2
            · rename_i dU
              obtain ⟨r, k3, k4⟩ := A0b.1 h2;split at k4
              · rename_i d h'
                split at k4
                · rename_i hf
                  exact ⟨g1, st, d, h', dO hy k1, fun _ => ⟨_, ds, dO hy k0, ed hy k2, ⟨dU, ho.W _ _ _ _ _ k3⟩, hf⟩, fun hn => absurd (g2.1 hb) hn, ih (hy.more _) k4⟩
                · cases k4
              · cases k4
            · cases h2
          · cases h2
      · rename_i hb
        exact ⟨g1, st, D.undef, st, dO hy k1, fun ha => absurd (g2.2 ha) hb, fun _ => rfl, ih (hy.more _) h2⟩
  | ite c a b iF nc =>
    intro yk env env' s hy h;simp only [nN, A0b] at h;obtain ⟨d, h1, h2⟩ := h;have hx := dO hy h1;split at h2
    · exact ⟨true, hx, (fun _ => iF hy h2), fun e => (by cases e)⟩
    · exact ⟨false, hx, (fun e => (by cases e)), fun _ => nc hy h2⟩
    · cases h2
  | loop l inits body ih =>
    intro yk env env' s hy h;simp only [nN, A0b] at h;obtain ⟨ds, h1, h2⟩ := h;refine ⟨ds, ed hy h1, n, tD (fun ds s' hs Q hq => ?_) n ds h2⟩;split at hs
    · rename_i hl
      exact ⟨hl, dJ (fun s1 e => by rw [e]; exact hq) (ih (hy.more ds) hs)⟩
    · cases hs
  | join l m body rest nc ihr =>
    intro yk env env' s hy h;simp only [nN, A0b] at h;obtain ⟨s1, h1, h2⟩ := h;show den P body env' _;refine dJ (fun s' e => ?_) (nc hy h1);subst e;cases s' with
    | jump l' ds =>
      simp only [cU] at h2 ⊢;split at h2
      · rename_i e
        rw [A0z e];split at h2
        · rename_i hl
          exact ⟨hl, ihr (hy.more ds) h2⟩
        · cases h2
      · rename_i e; rw [A0B e]; cases h2; rfl
    | ret d => cases h2; rfl
    | ee d st sl kd => cases h2; rfl
  | jump l vals =>
    intro yk env env' s hy h;simp only [nN, A0a] at h;obtain ⟨ds, h1, rfl⟩ := h;exact ⟨ds, ed hy h1, rfl⟩
  | ret x =>
    intro yk env env' s hy h;simp only [nN, A0a] at h;obtain ⟨d, h1, rfl⟩ := h;exact ⟨d, dO hy h1, rfl⟩
  | ee x hE sl ks =>
    intro yk env env' s hy h;simp only [nN, A0b, A0a] at h;obtain ⟨d, h1, st, h2, kd, h3, rfl⟩ := h;exact ⟨d, st, kd, dO hy h1, dO hy h2, ed hy h3, rfl⟩
  | pick x t ih =>
    intro yk env env' s hy h;simp [nN] at h
  | lR x neg t ih =>
    intro yk env env' s hy h;simp only [nN, A0b] at h;obtain ⟨d, h1, h2⟩ := h;split at h2
    · rename_i b hb
      refine ⟨d, [b], dO hy h1, hb, fun b' fI => ?_⟩;simp at fI;subst fI;exact ih (hy.more _) h2
    · rename_i b c hb
      obtain ⟨s1, k1, h2⟩ := A0b.1 h2;obtain ⟨s2, k2, h2⟩ := A0b.1 h2;split at h2
      · rename_i hs
        cases h2;have := LO hs;subst this;refine ⟨d, [b, c], dO hy h1, hb, fun b' fI => ?_⟩;simp at fI;rcases fI with rfl | rfl
        · exact ih (hy.more _) k1
        · exact ih (hy.more _) k2
      · cases h2
    · cases h2
  | Ia f keep cr res t ih =>
    intro yk env env' s hy h;simp only [nN, A0b] at h;obtain ⟨eH, h1, h2⟩ := h;split at h2
    · rename_i mL
      obtain ⟨s1, k1, h2⟩ := A0b.1 h2;refine ⟨eH, ed hy h1, mL, dJ (fun s' e => ?_) (ih hy k1)⟩;subst e;split at h2
      · rename_i kd st
        obtain ⟨eT, k2, h2⟩ := A0b.1 h2;obtain ⟨d', k3, rfl⟩ := A0a.1 h2;exact ⟨eT, d', ho.F _ _ _ _ _ k2, k3, rfl⟩
      · rename_i d st sl kd
        split at h2
        · rename_i hk
          obtain ⟨eT, k2, h2⟩ := A0b.1 h2;obtain ⟨d', k3, rfl⟩ := A0a.1 h2;exact ⟨hk, eT, d', ho.F _ _ _ _ _ k2, k3, rfl⟩
        · cases h2
      · cases h2
    · cases h2
  | gX f hE args rs sl ks t ih =>
    intro yk env env' s hy h;simp only [nN, A0b] at h;obtain ⟨st, h1, ds, h2, r, h3, h4⟩ := h;refine ⟨st, ds, r, dO hy h1, ed hy h2, ho.R _ _ _ _ h3, ?_⟩;cases r with
    | ret d =>
      simp only at h4;split at h4
      · rename_i hf; exact ⟨hf, ih (hy.more _) h4⟩
      · cases h4
    | ee d =>
      simp only at h4;obtain ⟨kd, k1, rfl⟩ := A0a.1 h4;exact ⟨kd, ed hy k1, rfl⟩
  | gH f hE args rs sl ks t ih =>
    intro yk env env' s hy h;simp only [nN, A0b] at h;obtain ⟨st, h1, ds, h2, ⟨r, h'⟩, h3, h4⟩ := h;refine ⟨st, ds, r, h', dO hy h1, ed hy h2, ho.W _ _ _ _ _ h3, ?_⟩;cases r with
    | ret d =>
      simp only at h4;split at h4
      · rename_i hf; exact ⟨hf, ih (hy.more _) h4⟩
      · cases h4
    | ee d =>
      simp only at h4;obtain ⟨kd, k1, rfl⟩ := A0a.1 h4;exact ⟨kd, ed hy k1, rfl⟩
  | fS x hE args rs sl ks t ih =>
    intro yk env env' s hy h;simp only [nN, A0b] at h;obtain ⟨xd, h0, st, h1, ds, h2, h3⟩ := h;split at h3
    · rename_i f us cs
      split at h3
      · rename_i dU
        obtain ⟨⟨r, h'⟩, h3, h4⟩ := A0b.1 h3;refine ⟨f, us, cs, st, ds, r, h', dO hy h0, dU, dO hy h1, ed hy h2, ho.W _ _ _ _ _ h3, ?_⟩;cases r with
        | ret d =>
          simp only at h4;split at h4
          · rename_i hf; exact ⟨hf, ih (hy.more _) h4⟩
          · cases h4
        | ee d =>
          simp only at h4;obtain ⟨kd, k1, rfl⟩ := A0a.1 h4;exact ⟨kd, ed hy k1, rfl⟩
      · cases h3
    · cases h3
  | nW x hE sl cr m l body rest nc ihr =>
    intro yk env env' s hy h;cases yk with
    | some _ => simp [nN] at h
    | none =>
    have yp : env' = env := hy;subst yp;simp only [nN, A0b] at h;obtain ⟨xd, h1, st, h2, eH, h3, h4⟩ := h;split at h4
    · rename_i f us cs
      split at h4
      · rename_i hc
        obtain ⟨⟨d, eT⟩, k1, k2⟩ := A0b.1 h4;split at k2
        · rename_i hn
          refine ⟨f, us, cs, st, eH, d, eT, h1, hc.1, h2, h3, hc.2, hn, fun mm rec gz => ho.I _ _ _ _ _ _ _ k1 _ rfl fun st1 ds b st2 hh => ?_, ihr (yk := none) rfl k2⟩;split at hh
          · rename_i Bp
            split at hh
            · rename_i l' oK bX
              split at hh
              · rename_i hl
                cases hh;subst hl;exact ⟨rfl, gz st1 ds st2 Bp.1 Bp.2.1 Bp.2.2 (nc (yk := none) rfl bX)⟩
              · cases hh
            · cases hh
          · cases hh
        · cases k2
      · cases h4
    · cases h4
end
inductive Kn where
 | plain | defers (keep:List Nat) | gK
 deriving Inhabited
structure Entry where
 f:FuncId
 kn:Kn
 cf:cF
 own:Bool
 bn:List Bool
 t:T
 nd:Bool:=false
def ay (P:Program)(e:Entry):Prop:=
 ∃fn,P.funcs[e.f]? = some fn∧bK P fn=e.bn∧match e.kn with
  | .plain=>jE P e.cf fn=some e.t
  | .defers keep=>iU P e.cf fn keep=some e.t
  | .gK=>oC P e.cf fn=some e.t
abbrev vY:=List Entry
def EZ:vY→FuncId→Option Entry
 | [],_=>none
 | e :: r,f=>if e.f=f then some e else EZ r f
theorem vh:∀{tb:vY} {f:FuncId} {e:Entry},EZ tb f=some e→e∈tb∧e.f=f
 | [],_,_,h=>by simp[EZ] at h
 | e' :: r,f,e,h=>by
  simp only[EZ] at h;split at h
  ·rename_i hf;cases h;exact⟨by simp,hf⟩
  ·obtain⟨h1,h2⟩:=vh h;exact⟨by simp[h1],h2⟩
def PB:vY→FuncId→Option Entry
 | [],_=>none
 | e :: r,f=>if e.f=f then(if e.own||e.cf.ro then some e else PB r f) else PB r f
theorem yF:∀{tb:vY} {f:FuncId} {e:Entry},PB tb f=some e→e∈tb∧e.f=f
 | [],_,_,h=>by simp[PB] at h
 | e' :: r,f,e,h=>by
  simp only[PB] at h;split at h
  ·rename_i hf;split at h
   ·cases h;exact⟨by simp,hf⟩
   ·obtain⟨h1,h2⟩:=yF h;exact⟨by simp[h1],h2⟩
  ·obtain⟨h1,h2⟩:=yF h;exact⟨by simp[h1],h2⟩
def PA:vY→FuncId→Option Entry
 | [],_=>none
 | e :: r,f=>if e.f=f then(if e.own then PA r f else some e) else PA r f
theorem yE:∀{tb:vY} {f:FuncId} {e:Entry},PA tb f=some e→e∈tb∧e.f=f
 | [],_,_,h=>by simp[PA] at h
 | e' :: r,f,e,h=>by
  simp only[PA] at h;split at h
  ·rename_i hf;split at h
   ·obtain⟨h1,h2⟩:=yE h;exact⟨by simp[h1],h2⟩
   ·cases h;exact⟨by simp,hf⟩
  ·obtain⟨h1,h2⟩:=yE h;exact⟨by simp[h1],h2⟩
def Kn.calls:Kn→Bool
 | .gK=>false
 | _=>true
def Vr (P:Program)(o:AI)(n:Nat)(e:Entry)(bs ds:List D):Option (Out×List D):=
 if e.kn.calls=true∧dA e.bn ds=true then match nN P o n none e.t (ds++[.st bs]) with
  | some (.ret (.a_ [d,.st bs']))=>some (.ret d,bs')
  | some (.ee d (.st bs') _ _)=>some (.ee d,bs')
  | _=>none
 else none
def Kn.xx:Kn→Bool
 | .plain=>true
 | _=>false
def Rl {α β:Type}(f:α→Option (List β)):List α→Option (List β)
 | []=>some []
 | x :: r=>(f x).bind fun a=>(Rl f r).map (a++·)
theorem yb {α β:Type}{f:α→Option (List β)}:∀{l:List α} {ys:List β},Rl f l=some ys→∀x,x∈l→∃zs,f x=some zs∧∀z,z∈zs→z∈ys
 | [],ys,_,x,hx=>by simp at hx
 | a :: r,ys,h,x,hx=>by
  simp only[Rl,A0b,A0a] at h;obtain⟨zs,h1,ws,h2,rfl⟩:=h;rcases A0E.1 hx with rfl | hx
  ·exact⟨zs,h1,fun z hz=>C0N _ hz⟩
  ·obtain⟨vs,g1,g2⟩:=yb h2 x hx;exact⟨vs,g1,fun z hz=>List.mem_append_right _ (g2 z hz)⟩
def A7 (l:Nat)(body:List D→Option (List gu)):Nat→List D→Option (List gu)
 | 0,_=>none
 | n+1,ds=>(body ds).bind (Rl fun s=>match s with
  | .jump l' kL=>if l'=l then A7 l body n kL else some [s]
  | _=>some [s])
def AT (P:Program)(o:AI)(n:Nat):T→List D→Option (List gu)
 | .bind (.ev x) t,env=>(x.eval env).bind fun d=>AT P o n t (env++[d])
 | .bind (.call [] f h args rs) t,env=>(h.eval env).bind fun st=>(aA env args).bind fun ds=>(o.R f st ds).bind fun r=>match r with
   | .ret d=>if d.fits rs=true then AT P o n t (env++[d]) else none
   | .ee _=>none
 | .bind (.bw [] f h args rs) t,env=>(h.eval env).bind fun st=>(aA env args).bind fun ds=>(o.W f st ds).bind fun r=>match r with
  |(.ret d,h')=>if d.fits rs=true then AT P o n t (env++[.a_ [d,h']]) else none
   | _=>none
 | .ite c a b,env=>(c.eval env).bind fun d=>match d with
  | .v (.bool true)=>AT P o n a env
  | .v (.bool false)=>AT P o n b env
  | _=>none
 | .loop l inits body,env=>(aA env inits).bind fun ds=>A7 l (fun ds=>if ds.length=inits.length then AT P o n body (env++ds) else none) n ds
 | .join l m body rest,env=>(AT P o n body env).bind (Rl fun s=>match s with
  | .jump l' ds=>if l'=l then(if ds.length=m then AT P o n rest (env++ds) else none) else some [s]
  | _=>some [s])
 | .jump l vals,env=>(aA env vals).map fun ds=>[.jump l ds]
 | .ret x,env=>(x.eval env).map fun d=>[.ret d]
 | .pick x t,env=>(x.eval env).bind fun d=>match d with
  | .bk ys=>Rl (fun y=>match y with
   | .a_ [d,st]=>AT P o n t (env++[.a_ [d,st]])
   | _=>some []) ys
  | _=>none
 | _,_=>none
theorem uH {l:Nat}{body:List D→Option (List gu)}{bd:List D→(gu→Prop)→Prop}{Q:gu→Prop}(hb:∀ds ss,body ds=some ss→∀Q:gu→Prop,(∀s,s∈ss→Q s)→bd ds Q) :
  ∀(n:Nat) (ds:List D) (ss:List gu),A7 l body n ds=some ss→(∀s,s∈ss→Q s)→rounds l bd Q n ds
 | 0,ds,ss,h,_=>by cases h
 | n+1,ds,ss,h,hq=>by
  simp only[A7,A0b] at h;obtain⟨s1,h1,h2⟩:=h;refine hb ds s1 h1 _ fun s hs=>?_;obtain⟨zs,g1,g2⟩:=yb h2 s hs;cases s with
  | jump l' kL=>
   simp only[cU] at g1 ⊢;split at g1
   ·rename_i e;rw[A0z e];exact uH hb n kL zs g1 fun s hs=>hq s (g2 s hs)
   ·rename_i e;rw[A0B e];cases g1;exact hq _ (g2 _ (by simp))
  | ret d=>cases g1;exact hq _ (g2 _ (by simp))
  | ee d st sl kd=>cases g1;exact hq _ (g2 _ (by simp))
theorem QT {P:Program}{o:AI}{n:Nat}(ho:lD P o):∀{t:T} {env:List D} {ss:List gu} {Q:gu→Prop},AT P o n t env=some ss→(∀s,s∈ss→Q s)→den P t env Q:=by
 intro t
 induction t with
 | bind b t ih=>
  intro env ss Q h hq;cases b with
  | ev x=>
   simp only[AT,A0b] at h;obtain⟨d,h1,h2⟩:=h;exact⟨d,h1,ih h2 hq⟩
  | call act f hE args rs=>
   cases act with
   | cons _ _=>simp[AT] at h
   | nil=>
   simp only[AT,A0b] at h;obtain⟨st,h1,ds,h2,r,h3,h4⟩:=h;cases r with
   | ee _=>cases h4
   | ret d=>
    simp only at h4;split at h4
    ·rename_i hf;exact⟨by simp,d,fun _=>⟨st,ds,h1,h2,ho.R _ _ _ _ h3,hf⟩,ih h4 hq⟩
    ·cases h4
  | bw act f hE args rs=>
   cases act with
   | cons _ _=>simp[AT] at h
   | nil=>
   simp only[AT,A0b] at h;obtain⟨st,h1,ds,h2,⟨r,h'⟩,h3,h4⟩:=h;cases r with
   | ee _=>cases h4
   | ret d=>
    simp only at h4;split at h4
    ·rename_i hf;exact⟨by simp,st,d,h',h1,fun _=>⟨ds,h2,ho.W _ _ _ _ _ h3,hf⟩,fun hn=>absurd (fun p hp=>by cases hp) hn,ih h4 hq⟩
    ·cases h4
  | ei act x hE args rs=>simp[AT] at h
  | dG act x hE args rs=>simp[AT] at h
 | ite c a b iF nc=>
  intro env ss Q h hq;simp only[AT,A0b] at h;obtain⟨d,h1,h2⟩:=h;split at h2
  ·exact⟨true,h1,(fun _=>iF h2 hq),fun e=>(by cases e)⟩
  ·exact⟨false,h1,(fun e=>(by cases e)),fun _=>nc h2 hq⟩
  ·cases h2
 | loop l inits body ih=>
  intro env ss Q h hq;simp only[AT,A0b] at h;obtain⟨ds,h1,h2⟩:=h;refine⟨ds,h1,n,uH (fun ds s1 hs Q hQ=>?_) n ds ss h2 hq⟩;split at hs
  ·rename_i hl;exact⟨hl,ih hs hQ⟩
  ·cases hs
 | join l m body rest nc ihr=>
  intro env ss Q h hq;simp only[AT,A0b] at h;obtain⟨s1,h1,h2⟩:=h;show den P body env _;refine nc h1 fun s hs=>?_;obtain⟨zs,g1,g2⟩:=yb h2 s hs;cases s with
  | jump l' ds=>
   simp only[cU] at g1 ⊢;split at g1
   ·rename_i e;rw[A0z e];split at g1
    ·rename_i hl;exact⟨hl,ihr g1 fun s hs=>hq s (g2 s hs)⟩
    ·cases g1
   ·rename_i e;rw[A0B e];cases g1;exact hq _ (g2 _ (by simp))
  | ret d=>cases g1;exact hq _ (g2 _ (by simp))
  | ee d st sl kd=>cases g1;exact hq _ (g2 _ (by simp))
 | jump l vals=>
  intro env ss Q h hq;simp only[AT,A0a] at h;obtain⟨ds,h1,rfl⟩:=h;exact⟨ds,h1,hq _ (by simp)⟩
 | ret x=>
  intro env ss Q h hq;simp only[AT,A0a] at h;obtain⟨d,h1,rfl⟩:=h;exact⟨d,h1,hq _ (by simp)⟩
 | pick x t ih=>
  intro env ss Q h hq;simp only[AT,A0b] at h;obtain⟨d,h1,h2⟩:=h;split at h2
  ·rename_i ys;refine⟨ys,h1,fun d st hy=>?_⟩;obtain⟨zs,g1,g2⟩:=yb h2 _ hy;exact ih g1 fun s hs=>hq s (g2 s hs)
  ·cases h2
 | _=>intro env ss Q h hq;simp[AT] at h
def nY:Nat→List D→List D
 | _,[]=>[]
 | 0,x :: r=>(match x with | .itb _ _ _ | .E3 _ _ | .Tl _=>.a_ [] | x=>x) :: nY 0 r
 | k+1,x :: r=>x :: nY k r
theorem CP:∀(k:Nat) (bs:List D),(nY k bs).length=bs.length∧∀(i:Nat) (x:D),(nY k bs)[i]? = some x→x.live=true→bs[i]? = some x
 | _,[]=>by simp[nY]
 | 0,y :: r=>by
  obtain⟨h1,h2⟩:=CP 0 r;refine⟨by simp[nY,h1],fun i x hx hl=>?_⟩;cases i with
  | zero=>
   simp only[nY,A0L,A0x] at hx;subst hx;split at hl <;> first | (cases hl;done) | rfl
  | succ i=>simp only[nY,B0B] at hx ⊢;exact h2 i x hx hl
 | k+1,y :: r=>by
  obtain⟨h1,h2⟩:=CP k r;refine⟨by simp[nY,h1],fun i x hx hl=>?_⟩;cases i with
  | zero=>simpa[nY] using hx
  | succ i=>simp only[nY,B0B] at hx ⊢;exact h2 i x hx hl
def GC (k:Nat):List gu→Option (D×List D)
 | []=>none
 | [.ret (.a_ [d,.st bs])]=>some (d,nY k bs)
 | .ret (.a_ [d,.st bs]) :: r=>(GC k r).bind fun x=>if D.same x.1 d=true∧D.fq x.2 (nY k bs)=true then some x else none
 | _=>none
theorem Ci {k:Nat}:∀{ss:List gu} {d:D} {bs:List D},GC k ss=some (d,bs)→∀s,s∈ss→∃fN,s=.ret (.a_ [d,.st fN])∧bs=nY k fN
 | [],_,_,h,s,hs=>by simp at hs
 | s0 :: r,d,bs,h,s,hs=>by
  unfold GC at h;split at h
  ·cases h
  ·rename_i d0 oD e;cases e;cases h;simp at hs;exact⟨oD,hs,rfl⟩
  ·rename_i d0 oD r' _ e;cases e;obtain⟨⟨d1,fN⟩,h1,h2⟩:=A0b.1 h;split at h2
   ·rename_i hc;cases h2;obtain⟨g1,g2⟩:=hc;have g1:=D.cL g1;have g2:=D.dB g2;simp only at g1 g2;subst g1;rcases A0E.1 hs with rfl | hs
    ·exact⟨oD,rfl,g2⟩
    ·exact Ci h1 s hs
   ·cases h2
  ·cases h
def Vq (P:Program)(o:AI)(n:Nat)(e:Entry)(bs ds:List D):Option (Out×List D):=
 if e.kn.xx=true∧dA e.bn ds=true then(AT P o n e.t (ds++[.st bs])).bind fun ss=>(GC bs.length ss).map fun x=>(.ret x.1,x.2) else none
theorem cI.aet {w:World}{S:Sets}{az:Nat→Prop}{bs bs':List D}(h:cI w S az bs)(h1:bs'.length=bs.length)(h2:∀(i:Nat) (x:D),bs'[i]? = some x→x.live=true→bs[i]? = some x):cI w S az bs' where
 n:=h.n.trans h1.symm
 cells i e sz cs hi:=h.cells i e sz cs (h2 i _ hi rfl)
 v_:=h.v_
 maps i bU hi:=h.maps i bU (h2 i _ hi rfl)
 inj i j x y hi hj hx hy:=h.inj i j x y (h2 i x hi hx) (h2 j y hj hy) hx hy
 s7 i z hi hz:=h.s7 i z (h2 i _ hi (D.gb hz)) hz
theorem Kk {P:Program}{o:AI}{n:Nat}(ho:lD P o){e:Entry}(he:ay P e){bs ds bs':List D}{r:Out}(h:Vq P o n e bs ds=some (r,bs')):bu P e.f (.st bs) ds r (.st bs'):=by
 unfold Vq at h;split at h
 ·rename_i hc;obtain⟨hk,dQ⟩:=hc;obtain⟨ss,h1,h2⟩:=A0b.1 h;obtain⟨⟨d,nS⟩,h3,h4⟩:=A0a.1 h2;cases h4;obtain⟨fn,hf,tf,pq⟩:=he;rw[←tf] at dQ;have hkp:e.kn=.plain:=by
   cases MR:e.kn with
   | plain=>rfl
   | defers _=>rw[MR] at hk;cases hk
   | gK=>rw[MR] at hk;cases hk
  rw[hkp] at pq;have fD:=QT (Q:=D_ (fun d' st=>d'=d∧∃fN,st=.st fN∧nS=nY bs.length fN) (fun _ _=>False)) ho h1 fun s hs=>by obtain⟨fN,rfl,hb⟩:=Ci h3 s hs;exact⟨rfl,fN,rfl,hb⟩
  intro w S az oD vs hb hst dN fG hS iL bO;cases hb;refine(nE (may:=az) hf pq dQ fD hst dN fG hS iL bO (fun _ h=>.inr h) fun _ h=>h).mono ?_
  rintro x w' ⟨o',v,S',bJ,bs3,hq,eb,hl⟩
  cases o' with
  | ee x=>exact hq.elim
  | ret x=>
   obtain⟨rfl,fN,e1,rfl⟩:=hq;cases e1;obtain⟨k1,k2⟩:=CP bs.length bs3;exact⟨v,S',bJ,_,eb,rfl,hl.st.aet k1 k2,fun b o hs=>A0V (a:=⟨b,o,none⟩) (hl.old b (hS b o hs) fun hf=>hst.v_ b o hf hs),hl.le,hl.os,hl.tape,hl.output,hl.size,hl.old,hl.ft,hl.new,hl.lt⟩
 ·cases h
def Gp (bs:List D):Option (Out×List D)→Option Out
 | some (r,bs')=>if D.fq bs' bs=true then some r else none
 | none=>none
def LZ (b0:List D):Option (Out×List D)→Option Out
 | some (.ret d,bs)=>if vV b0 bs=true then(kO bs 50 d).map .ret else none
 | some (.ee d,bs)=>if vV b0 bs=true∧d.gL=true then some (.ee d) else none
 | none=>none
theorem Gn {bs:List D}{x:Option (Out×List D)}{r:Out}(h:Gp bs x=some r):x=some (r,bs):=by
 unfold Gp at h;split at h
 ·split at h
  ·rename_i hs;cases h;rw[D.dB hs]
  ·cases h
 ·cases h
theorem IU {P:Program}{f:FuncId}{b0 ds:List D}{x:Option (Out×List D)}{r:Out}(h0:rD b0=true)(h:LZ b0 x=some r)(hx:∀r' bs',x=some (r',bs')→bu P f (.st b0) ds r' (.st bs'))(kQ:eD ds=true)(bs:List D):eS P f (.st (b0++bs)) ds r:=by
 unfold LZ at h;split at h
 ·rename_i d bs';split at h
  ·rename_i hb;obtain⟨q,rfl⟩:=uu hb;obtain⟨d',h1,rfl⟩:=A0a.1 h;exact bu.ZK h0 (hx _ _ rfl) kQ h1 bs
  ·cases h
 ·split at h
  ·rename_i hb;obtain⟨q,rfl⟩:=uu hb.1;cases h;exact(hx _ _ rfl).Qc h0 kQ hb.2 bs
  ·cases h
 ·cases h
def q9 (P:Program)(tb:vY)(n:Nat)(b0:List D)(o:AI):AI where
 R:=fun f st ds=>match st,PB tb f with
  | .st bs,some e=>if e.own=true then(if eD ds=true∧rD b0=true∧vV b0 bs=true then LZ b0 (Vr P o n e b0 ds) else none)
   else if e.cf.ro=true∧e.kn.xx=true then Gp bs (Vr P o n e bs ds) else none
  | _,_=>none
 W:=fun f st ds=>match st,PA tb f with
  | .st bs,some e=>(bif e.nd then Vq P o n e bs ds else Vr P o n e bs ds).map fun x=>(x.1,.st x.2)
  | _,_=>none
 F:=fun f st cs m=>match st,EZ tb f with
  | .st bs,some e=>(match e.kn with
   | .gK=>if dA e.bn cs=true∧(vl m).one=true then(match nN P o n none e.t (cs++[.st bs,vl m]) with
    | some (.ret (.a_ [_,.st bs']))=>some (.st bs')
    | _=>none) else none
   | _=>none)
  | _,_=>none
 I:=fun f st us cs hd=>match st,EZ tb f with
  | .st bs,some e=>(match e.kn with
   | .plain=>if dA e.bn (us++[D.undef]++cs)=true∨dA e.bn (us++[.bS]++cs)=true then(match nN P o n (some (us.length,hd)) e.t (us++[.bS]++cs++[.st bs]) with
    | some (.ret (.a_ [d,.st bs']))=>some (d,.st bs')
    | _=>none) else none
   | _=>none)
  | _,_=>none
section
variable {P:Program} {o:AI} {n:Nat} {tb:vY} {b0:List D}
theorem vM (ho:lD P o){e:Entry}(he:ay P e){bs ds bs':List D}{r:Out}(h:Vr P o n e bs ds=some (r,bs')):bu P e.f (.st bs) ds r (.st bs')∧(e.cf.ro=true→e.kn.xx=true→bs'=bs→eS P e.f (.st bs) ds r):=by
 unfold Vr at h;split at h
 ·rename_i hc;obtain⟨hk,dQ⟩:=hc;obtain⟨fn,hf,tf,pq⟩:=he;rw[←tf] at dQ;have key:∀s,nN P o n none e.t (ds++[.st bs])=some s→(∀s',s'=s→rT r (.st bs') s')→bu P e.f (.st bs) ds r (.st bs')∧(e.cf.ro=true→e.kn.xx=true→bs'=bs→eS P e.f (.st bs) ds r):=by
   intro s hs mM;have fD:=dJ mM (zz ho (yk:=none) rfl hs);cases MR:e.kn with
   | plain=>
    rw[MR] at pq;exact⟨Br hf pq dQ fD,fun fQ _ hb=>by subst hb;exact M1 fQ hf pq dQ fD⟩
   | defers keep=>
    rw[MR] at pq;exact⟨Dp hf pq dQ fD,fun _ h=>(by simp[Kn.xx] at h)⟩
   | gK=>
    rw[MR] at hk;simp[Kn.calls] at hk
  split at h
  ·rename_i d fN hs;cases h;exact key _ hs fun s' e=>e
  ·rename_i d fN sl kd hs;cases h;exact key _ hs fun s' e=>⟨sl,kd,e⟩
  ·cases h
 ·cases h
theorem Cn (xA:∀e,e∈tb→ay P e)(ho:lD P o):lD P (q9 P tb n b0 o):=by
 refine⟨fun f st ds r h=>?_,fun f st ds r h' h=>?_,fun f st cs m eT h=>?_,fun f st us cs hd d eT h y hy ZY=>?_⟩
 ·simp only[q9] at h;split at h
  ·rename_i bs e he;obtain⟨h1,rfl⟩:=yF he;split at h
   ·split at h
    ·rename_i hn;obtain⟨q,rfl⟩:=uu hn.2.2;exact IU hn.2.1 h (fun r' bs' bX=>(vM ho (xA e h1) bX).1) hn.1 q
    ·cases h
   ·split at h
    ·rename_i fQ;exact(vM ho (xA e h1) (Gn h)).2 fQ.1 fQ.2 rfl
    ·cases h
  ·cases h
 ·simp only[q9] at h;split at h
  ·rename_i bs e he;obtain⟨h1,rfl⟩:=yE he;obtain⟨⟨r',bs'⟩,h2,h3⟩:=A0a.1 h;cases h3;cases oJ:e.nd with
   | true=>rw[oJ] at h2;exact Kk ho (xA e h1) h2
   | false=>rw[oJ] at h2;exact(vM ho (xA e h1) h2).1
  ·cases h
 ·simp only[q9] at h;split at h
  ·rename_i bs e he;obtain⟨h1,rfl⟩:=vh he;obtain⟨fn,hf,tf,pq⟩:=xA e h1;split at h
   ·rename_i MR;rw[MR] at pq;split at h
    ·rename_i hc;split at h
     ·rename_i d0 bs' hs;cases h;exact Vd hf pq (by rw[tf];exact hc.1) hc.2 (zz ho (yk:=none) rfl hs)
     ·cases h
    ·cases h
   ·cases h
  ·cases h
 ·simp only[q9] at h;split at h
  ·rename_i bs e he;obtain⟨h1,rfl⟩:=vh he;obtain⟨fn,hf,tf,pq⟩:=xA e h1;split at h
   ·rename_i MR;rw[MR] at pq;split at h
    ·rename_i hc;split at h
     ·rename_i d0 bs' hs;cases h;have OL:y.one=true:=hy;have dQ:∀(z:D),z.one=true∨z.one=false→∀(bn:List Bool) (us:List D),dA bn (us++[z]++cs)=true→dA bn (us++[y]++cs)=true:=by
       intro z _ bn
       induction bn with
       | nil=>intro us hh;cases us <;> simp[dA] at hh
       | cons b bn ih=>
        intro us hh;cases us with
        | nil=>
         simp only[A0j,A0i,dA,A0f,B0v,B0j] at hh ⊢;exact⟨.inr OL,hh.2⟩
        | cons u us=>
         simp only[A0i,dA,A0f] at hh ⊢;exact⟨hh.1,ih us hh.2⟩
      refine Br hf pq (by rw[tf];exact hc.elim (dQ _ (by simp[D.one]) _ _) (dQ _ (by simp[D.one]) _ _)) (zz ho (yk:=some (us.length,hd)) (env:=us++[.bS]++cs++[.st bs]) ⟨by simp,by simp,fun j hj=>?_,y,by simp,hy,ZY⟩ hs);rcases D0j j us.length with hl | hl | hl
      ·simp only[A0A];rw[A0g hl,A0g hl]
      ·exact absurd hl hj
      ·simp only[A0A];rw[A0o (C0K hl),A0o (C0K hl)];obtain⟨m,hm⟩:∃m,j-us.length=m+1:=⟨j-us.length-1,by omega⟩;rw[hm];simp
     ·cases h
    ·cases h
   ·cases h
  ·cases h
end
def AI.or (a b:AI):AI where
 R:=fun f st ds=>match a.R f st ds with | some r=>some r | none=>b.R f st ds
 W:=fun f st ds=>match a.W f st ds with | some r=>some r | none=>b.W f st ds
 F:=fun f st cs m=>match a.F f st cs m with | some r=>some r | none=>b.F f st cs m
 I:=fun f st us cs hd=>match a.I f st us cs hd with | some r=>some r | none=>b.I f st us cs hd
theorem lD.or {P:Program}{a b:AI}(ha:lD P a)(hb:lD P b):lD P (a.or b):=by
 refine⟨fun f st ds r h=>?_,fun f st ds r h' h=>?_,fun f st cs m eT h=>?_,fun f st us cs hd d eT h=>?_⟩ <;> simp only[AI.or] at h <;> split at h
 ·rename_i e;cases h;exact ha.R _ _ _ _ e
 ·exact hb.R _ _ _ _ h
 ·rename_i e;cases h;exact ha.W _ _ _ _ _ e
 ·exact hb.W _ _ _ _ _ h
 ·rename_i e;cases h;exact ha.F _ _ _ _ _ e
 ·exact hb.F _ _ _ _ _ h
 ·rename_i e;cases h;exact ha.I _ _ _ _ _ _ _ e
 ·exact hb.I _ _ _ _ _ _ _ h
def kV (P:Program)(tb:vY)(n:Nat)(b0:List D)(o:AI):Nat→AI
 | 0=>o
 | k+1=>(q9 P tb n b0 (kV P tb n b0 o k)).or o
theorem nV {P:Program}{tb:vY}{n:Nat}{b0:List D}{o:AI}(xA:∀e,e∈tb→ay P e)(ho:lD P o):∀k,lD P (kV P tb n b0 o k)
 | 0=>ho
 | k+1=>(Cn xA (nV xA ho k)).or ho
end
end
section
section
variable {P:Program} {t a b:T} {bs:List Bind} {env:List D} {Q:gu→Prop} {x g:E} {d:D}
theorem aC {l:Nat}{K:List D→Prop}{ds:List D}(k:K ds):cU l K Q (.jump l ds):=by simp only[cU,A0z];exact k
theorem aT {l m:Nat}{K:List D→Prop}{ds:List D}(h:m≠l)(k:Q (.jump m ds)):cU l K Q (.jump m ds):=by simp only[cU,A0B h];exact k
theorem rounds_succ {l:Nat}{body:List D→(gu→Prop)→Prop}(hm:∀ds (R R':gu→Prop),(∀s,R s→R' s)→body ds R→body ds R'):∀(n:Nat) (ds:List D),rounds l body Q n ds→rounds l body Q (n+1) ds
 | 0,_,h=>h.elim
 | n+1,ds,h=>hm ds _ _ (fun s hs=>by
   cases s with
   | jump l' kL=>
    simp only[cU] at hs ⊢;split
    ·rename_i e;rw[A0z e] at hs;exact rounds_succ hm n kL hs
    ·rename_i e;rw[A0B e] at hs;exact hs
   | ret d=>exact hs
   | ee d st sl kd=>exact hs) h
theorem PR {l:Nat}{body:List D→(gu→Prop)→Prop}(hm:∀ds (R R':gu→Prop),(∀s,R s→R' s)→body ds R→body ds R'){n m:Nat}(h:n≤m){ds:List D}(hr:rounds l body Q n ds):rounds l body Q m ds:=by
 induction h with
 | refl=>exact hr
 | step _ ih=>exact rounds_succ hm _ _ ih
theorem B0 {l:Nat}{body:List D→(gu→Prop)→Prop}(hm:∀ds (R R':gu→Prop),(∀s,R s→R' s)→body ds R→body ds R')(I:Nat→List D→Prop)(hb:∀k ds,I k ds→∀R:List D→Prop,(∀k' kL,k'<k→I k' kL→R kL)→body ds (cU l R Q)):∀(k:Nat) (ds:List D),I k ds→rounds l body Q (k+1) ds:=by
 intro k
 induction k using Nat.strongRecOn with
 | _ k ih=>
  intro ds hI;cases k with
  | zero=>exact hb 0 ds hI _ fun k' _ h=>absurd h (B0U _)
  | succ k=>
   refine hb (k+1) ds hI _ fun k' kL Dc hI'=>?_;exact PR hm (by omega) (ih k' Dc kL hI')
end
end
section
def E.x6:E→E→Bool
 | .sym i,.sym j=>i==j
 | .av i a,.av j b=>i==j&&a.x6 b
 | .cell i a,.cell j b=>i==j&&a.x6 b
 | _,_=>false
theorem E.mg:∀{a b:E},a.x6 b=true→a=b
 | .sym i,b,h=>by cases b <;> simp[E.x6] at h;rw[h]
 | .av i a,b,h=>by cases b <;> simp[E.x6] at h;rw[h.1,E.mg h.2]
 | .cell i a,b,h=>by cases b <;> simp[E.x6] at h;rw[h.1,E.mg h.2]
 | .const _,b,h | .nil,b,h | .ai,b,h | .un _ _,b,h | .conv _ _,b,h | .bI _,b,h | .gy _,b,h | .aV _,b,h | .cells _ _ _,b,h | .bE _ _,b,h | .cw _,b,h | .rep _ _ _,b,h | .deref _,b,h | .iW _ _,b,h | .aj _ _,b,h | .nn _,b,h | .aJ _,b,h
 | .bin _ _ _ _,b,h | .idx _ _,b,h | .cons _ _,b,h | .app _ _ _ _,b,h | .bz _ _,b,h | .b_ _ _ _,b,h | .aa _ _,b,h | .mm _ _ _,b,h | .ax _ _ _,b,h | .ld _ _ _ _,b,h | .fO _ _ _ _,b,h | .cE _ _ _ _,b,h | .cR _ _,b,h | .guard _ _ _,b,h
 | .sub _ _ _ _,b,h | .set _ _ _ _,b,h | .ite _ _ _,b,h | .eL _ _ _ _,b,h | .gM _ _ _ _ _ _,b,h | .apps _ _ _,b,h | .m4 _ _ _ _ _,b,h=>by cases b <;> simp[E.x6] at h
def BJ (n : Nat) : List (E × Bool) → Bool
  | [] => true
  | (.sym k, _) :: r => decide (k < n) && BJ n r
  | _ :: _ => false
def pM (n:Nat)(g:E)(w:Bool):Bind→Option Bind
 | .ev (.guard g' w' x)=>if g.x6 g'=true∧w=w' then some (.ev x) else none
 | .call ((g',w') :: act) f h args rs=>if g.x6 g'=true∧w=w'∧BJ n act=true then some (.call act f h args rs) else none
 | .ei ((g',w') :: act) x h args rs=>if g.x6 g'=true∧w=w'∧BJ n act=true then some (.ei act x h args rs) else none
 | _=>none
def aaj:List Bind→Option (E×Bool)
 | .ev (.guard g w _) :: _=>some (g,w)
 | .call ((g,w) :: _) _ _ _ _ :: _=>some (g,w)
 | .ei ((g,w) :: _) _ _ _ _ :: _=>some (g,w)
 | _=>none
section
variable {P:Program} {env:List D} {g:E} {w p:Bool}
theorem BK {b b':Bind}(hs:pM env.length g w b=some b')(hg:g.eval env=some (.v (.bool w))){t:T}{Q:gu→Prop}(h:den P (.bind b' t) env Q):den P (.bind b t) env Q:=by
 unfold pM at hs;split at hs
 ·split at hs
  ·rename_i hc;cases hs;rw[←E.mg hc.1,←hc.2];obtain⟨d,h1,h2⟩:=h;exact⟨d,by simp only[E.eval,hg,B0d];exact h1,h2⟩
  ·cases hs
 ·split at hs
  ·rename_i hc;cases hs;obtain⟨h0,d,h1,h2⟩:=h;refine⟨fun q hq=>?_,d,fun ha=>h1 fun q hq=>ha q (by simp[hq]),h2⟩;rcases A0E.1 hq with rfl | hq
   ·exact⟨_,by rw[←E.mg hc.1];exact hg⟩
   ·exact h0 q hq
  ·cases hs
 ·split at hs
  ·rename_i hc;cases hs;obtain⟨h0,d,h1,h2⟩:=h;refine⟨fun q hq=>?_,d,fun ha=>h1 fun q hq=>ha q (by simp[hq]),h2⟩;rcases A0E.1 hq with rfl | hq
   ·exact⟨_,by rw[←E.mg hc.1];exact hg⟩
   ·exact h0 q hq
  ·cases hs
 ·cases hs
theorem Ip : ∀ {act : List (E × Bool)}, BJ env.length act = true → ∀ q, q ∈ act → ∃ d, q.1.eval env = some d
  | [], _, q, hq => by cases hq
  | (x, b) :: r, h, q, hq => by
    cases x <;> simp only [BJ, A0f, A0t] at h
    case sym k =>
      rcases A0E.1 hq with rfl | hq
      · exact ⟨_, A0e h.1⟩
      · exact Ip h.2 q hq
    all_goals cases h
theorem BL {b b':Bind}(hs:pM env.length g w b=some b')(hg:g.eval env=some (.v (.bool p)))(hp:p≠w){t:T}{Q:gu→Prop}(h:den P t (env++[D.undef]) Q):den P (.bind b t) env Q:=by
 have uS:∀{act:List (E×Bool)} {g':E} {w':Bool},g.x6 g'=true∧w=w'∧BJ env.length act=true→¬bq env ((g',w') :: act):=by intro act g' w' hc ha;have:=ha (g',w') (by simp);rw[←E.mg hc.1,←hc.2.1,hg] at this;cases this;exact hp rfl
 have pV:∀{act:List (E×Bool)} {g':E} {w':Bool},g.x6 g'=true∧w=w'∧BJ env.length act=true→∀q,q∈(g',w') :: act→∃d,q.1.eval env=some d:=by
  intro act g' w' hc q hq;rcases A0E.1 hq with rfl | hq
  ·exact⟨_,by rw[←E.mg hc.1];exact hg⟩
  ·exact Ip hc.2.2 q hq
 unfold pM at hs;split at hs
 ·split at hs
  ·rename_i hc;rw[←E.mg hc.1,←hc.2];exact⟨_,by simp only[E.eval,hg,A0B hp],h⟩
  ·cases hs
 ·split at hs
  ·rename_i hc;exact⟨pV hc,D.undef,fun ha=>absurd ha (uS hc),h⟩
  ·cases hs
 ·split at hs
  ·rename_i hc;exact⟨pV hc,D.undef,fun ha=>absurd ha (uS hc),h⟩
  ·cases hs
 ·cases hs
theorem DV {b:Bind}{t:T}{Q:gu→Prop}(h:den P (.bind b t) env Q):∃d,den P t (env++[d]) Q∧∀(t':T) (Q':gu→Prop),den P t' (env++[d]) Q'→den P (.bind b t') env Q':=by
 cases b with
 | ev x=>obtain⟨d,h1,h2⟩:=h;exact⟨d,h2,fun t' Q' h'=>⟨d,h1,h'⟩⟩
 | call act f hx args rs=>obtain⟨h0,d,h1,h2⟩:=h;exact⟨d,h2,fun t' Q' h'=>⟨h0,d,h1,h'⟩⟩
 | bw act f hx args rs=>obtain⟨h0,st,d,h',h1,h2,h3,h4⟩:=h;exact⟨_,h4,fun t' Q' k=>⟨h0,st,d,h',h1,h2,h3,k⟩⟩
 | ei act x hx args rs=>obtain⟨h0,d,h1,h2⟩:=h;exact⟨d,h2,fun t' Q' h'=>⟨h0,d,h1,h'⟩⟩
 | dG act x hx args rs=>obtain⟨h0,st,d,h',h1,h2,h3,h4⟩:=h;exact⟨_,h4,fun t' Q' k=>⟨h0,st,d,h',h1,h2,h3,k⟩⟩
end
section
variable {P:Program} {t a b:T} {bs:List Bind} {env bB:List D} {Q:gu→Prop} {x y z g:E} {d:D}
theorem wrap64 {n:Int}(h:-9223372036854775808≤n∧n<9223372036854775808):IntKind.i64.wrap n=n:=by simp[IntKind.wrap,IntKind.bits,IntKind.signed];omega
end
end
section
inductive U where
 | ev (x:E) (u:U)
 | aR (x:E) (u:U)
 | call (f:FuncId) (h:E) (args:List E) (rs:List Bool) (u:U)
 | bw (f:FuncId) (h:E) (args:List E) (rs:List Bool) (u:U)
 | ei (x h:E) (args:List E) (rs:List Bool) (u:U)
 | gen (b:Bind) (u:U)
 | chain (or:Bool) (g:E) (v u:U)
 | ite (c:E) (a b:U)
 | loop (l:Nat) (inits:List E) (body:U)
 | join (l n:Nat) (body rest:U)
 | Xn (c:E) (as bs:List E) (rest:U)
 | jump (l:Nat) (vals Nw:List E)
 | ret (x:E)
 | ee (x h:E) (sl:List Nat) (ks:List E)
 | lR (x:E) (neg:Bool) (u:U)
 | pick (x:E) (u:U)
 | Ia (f:FuncId) (keep:List Nat) (cr:List E) (res:E) (u:U)
 | gX (f:FuncId) (h:E) (args:List E) (rs:List Bool) (sl:List Nat) (ks:List E) (u:U)
 | gH (f:FuncId) (h:E) (args:List E) (rs:List Bool) (sl:List Nat) (ks:List E) (u:U)
 | fS (x h:E) (args:List E) (rs:List Bool) (sl:List Nat) (ks:List E) (u:U)
 | nW (x h:E) (sl:List Nat) (cr:List E) (n l:Nat) (body rest:U)
 deriving Inhabited
def bp (P:Program):U→List D→(gu→Prop)→Prop
 | .ev x u,env,Q=>∃d,x.eval env=some d∧bp P u (env++[d]) Q
 | .aR x u,env,Q=>(∃d,x.eval env=some d)∧bp P u env Q
 | .call f h args rs u,env,Q=>∃st ds d,h.eval env=some st∧aA env args=some ds∧aQ P f st ds d∧d.fits rs=true∧bp P u (env++[d]) Q
 | .bw f h args rs u,env,Q=>∃st ds d h',h.eval env=some st∧aA env args=some ds∧aZ P f st ds d h'∧d.fits rs=true∧bp P u (env++[d,h']) Q
 | .ei x h args rs u,env,Q=>∃f us cs st ds d,x.eval env=some (.fn f us cs)∧bL P f=true∧h.eval env=some st∧aA env args=some ds∧aQ P f st (us++ds++cs) d∧d.fits rs=true∧bp P u (env++[d]) Q
 | .gen b u,env,Q=>∃d,den P (.bind b (.ret (.sym env.length))) env (fun s=>s=.ret d)∧bp P u (env++[d]) Q
 | .chain or g v u,env,Q=>∃p q,g.eval env=some (.v (.bool p))∧(p=!or→bp P v env (fun s=>s=.ret (.v (.bool q))))∧bp P u (env++[.v (.bool (bif or then p||q else p&&q))]) Q
 | .ite c a b,env,Q=>∃v,c.eval env=some (.v (.bool v))∧(v=true→bp P a env Q)∧(v=false→bp P b env Q)
 | .loop l inits body,env,Q=>∃ds,aA env inits=some ds∧∃n,rounds l (fun ds Q=>ds.length=inits.length∧bp P body (env++ds) Q) Q n ds
 | .join l n body rest,env,Q=>bp P body env (cU l (fun ds=>ds.length=n∧bp P rest (env++ds) Q) Q)
 | .Xn c as bs rest,env,Q=>∃v ds,c.eval env=some (.v (.bool v))∧(v=true→aA env as=some ds)∧(v=false→aA env bs=some ds)∧bp P rest (env++ds) Q
 | .jump l vals Nw,env,Q=>(∃cs,aA env Nw=some cs)∧∃ds,aA env vals=some ds∧Q (.jump l ds)
 | .ret x,env,Q=>∃d,x.eval env=some d∧Q (.ret d)
 | .ee x h sl ks,env,Q=>∃d st kd,x.eval env=some d∧h.eval env=some st∧aA env ks=some kd∧Q (.ee d st sl kd)
 | .lR x neg u,env,Q=>∃d bs,x.eval env=some d∧d.isNil=some bs∧∀b,b∈bs→bp P u (env++[.v (.bool (b != neg))]) Q
 | .pick x u,env,Q=>∃ys,x.eval env=some (.bk ys)∧∀d st,.a_ [d,st]∈ys→bp P u (env++[d,st]) Q
 | .Ia f keep cr res u,env,Q=>∃eH,aA env cr=some eH∧eH.all D.JE=true∧bp P u env (HU P f keep eH res Q)
 | .gX f h args rs sl ks u,env,Q=>∃st ds o,h.eval env=some st∧aA env args=some ds∧eS P f st ds o∧match o with
  | .ret d=>d.fits rs=true∧bp P u (env++[d]) Q
  | .ee d=>∃kd,aA env ks=some kd∧Q (.ee d st sl kd)
 | .gH f h args rs sl ks u,env,Q=>∃st ds o h',h.eval env=some st∧aA env args=some ds∧bu P f st ds o h'∧match o with
  | .ret d=>d.fits rs=true∧bp P u (env++[d,h']) Q
  | .ee d=>∃kd,aA env ks=some kd∧Q (.ee d h' sl kd)
 | .fS x h args rs sl ks u,env,Q=>∃f us cs st ds o h',x.eval env=some (.fn f us cs)∧bL P f=true∧h.eval env=some st∧aA env args=some ds∧bu P f st (us++ds++cs) o h'∧match o with
  | .ret d=>d.fits rs=true∧bp P u (env++[d,h']) Q
  | .ee d=>∃kd,aA env ks=some kd∧Q (.ee d h' sl kd)
 | .nW x h sl cr n l body rest,env,Q=>∃f us cs st eH d eT,x.eval env=some (.fn f us cs)∧bL P f=true∧h.eval env=some st∧aA env cr=some eH∧aN eH=true∧eT.bZ=true ∧
   (∀(m:Nat) (rec:Loop),(∀st1 ds st2,st1.bZ=true→aN ds=true→ds.length=n→bp P body (env++[st1]++ds) (fun s=>s=.jump l [st2])→r7 P (.yl m rec sl eH) st1 ds st2)→aZ P f st (us++[.yl m rec sl eH]++cs) d eT)∧bp P rest (env++[eT]) Q
theorem dK {P:Program}:∀{t:U} {env:List D} {Q Q':gu→Prop},(∀s,Q s→Q' s)→bp P t env Q→bp P t env Q'
 | .ev x t,env,Q,Q',hq,⟨d,h1,h2⟩=>⟨d,h1,dK hq h2⟩
 | .aR x t,env,Q,Q',hq,⟨h1,h2⟩=>⟨h1,dK hq h2⟩
 | .call f h args rs t,env,Q,Q',hq,⟨st,ds,d,h1,h2,h3,h4,h5⟩=>⟨st,ds,d,h1,h2,h3,h4,dK hq h5⟩
 | .bw f h args rs t,env,Q,Q',hq,⟨st,ds,d,h',h1,h2,h3,h4,h5⟩=>⟨st,ds,d,h',h1,h2,h3,h4,dK hq h5⟩
 | .ei x h args rs t,env,Q,Q',hq,⟨f,us,cs,st,ds,d,g1,g2,h1,h2,h3,h4,h5⟩=>⟨f,us,cs,st,ds,d,g1,g2,h1,h2,h3,h4,dK hq h5⟩
 | .gen b t,env,Q,Q',hq,⟨d,h1,h2⟩=>⟨d,h1,dK hq h2⟩
 | .chain or g v u,env,Q,Q',hq,⟨p,q,h1,h2,h3⟩=>⟨p,q,h1,h2,dK hq h3⟩
 | .ite c a b,env,Q,Q',hq,⟨v,h1,h2,h3⟩=>⟨v,h1,fun e=>dK hq (h2 e),fun e=>dK hq (h3 e)⟩
 | .loop l inits body,env,Q,Q',hq,⟨ds,h1,n,h2⟩=>⟨ds,h1,n,sJ (fun _ _ _ hR h=>⟨h.1,dK hR h.2⟩) hq n ds h2⟩
 | .join l n body rest,env,Q,Q',hq,h=>dK (t:=body) (fun s hs=>by
   cases s with
   | jump l' kL=>
    simp only[cU] at hs ⊢;split
    ·rename_i e;rw[A0z e] at hs;exact⟨hs.1,dK hq hs.2⟩
    ·rename_i e;rw[A0B e] at hs;exact hq _ hs
   | ret d=>exact hq _ hs
   | ee d st sl kd=>exact hq _ hs) h
 | .Xn c as bs rest,env,Q,Q',hq,⟨v,ds,h1,h2,h3,h4⟩=>⟨v,ds,h1,h2,h3,dK hq h4⟩
 | .jump l vals Nw,env,Q,Q',hq,⟨h0,ds,h1,h2⟩=>⟨h0,ds,h1,hq _ h2⟩
 | .ret x,env,Q,Q',hq,⟨d,h1,h2⟩=>⟨d,h1,hq _ h2⟩
 | .ee x h sl ks,env,Q,Q',hq,⟨d,st,kd,h1,h2,h3,h4⟩=>⟨d,st,kd,h1,h2,h3,hq _ h4⟩
 | .lR x neg t,env,Q,Q',hq,⟨d,bs,h1,h2,h3⟩=>⟨d,bs,h1,h2,fun b hb=>dK hq (h3 b hb)⟩
 | .pick x t,env,Q,Q',hq,⟨ys,h1,h2⟩=>⟨ys,h1,fun d st hy=>dK hq (h2 d st hy)⟩
 | .Ia f keep cr res t,env,Q,Q',hq,⟨eH,h1,h2,h3⟩=>⟨eH,h1,h2,dK (fun _=>F6 hq) h3⟩
 | .gX f h args rs sl ks t,env,Q,Q',hq,⟨st,ds,.ret d,h1,h2,h3,h4,h5⟩=>⟨st,ds,.ret d,h1,h2,h3,h4,dK hq h5⟩
 | .gX f h args rs sl ks t,env,Q,Q',hq,⟨st,ds,.ee d,h1,h2,h3,kd,h4,h5⟩=>⟨st,ds,.ee d,h1,h2,h3,kd,h4,hq _ h5⟩
 | .gH f h args rs sl ks t,env,Q,Q',hq,⟨st,ds,.ret d,h',h1,h2,h3,h4,h5⟩=>⟨st,ds,.ret d,h',h1,h2,h3,h4,dK hq h5⟩
 | .gH f h args rs sl ks t,env,Q,Q',hq,⟨st,ds,.ee d,h',h1,h2,h3,kd,h4,h5⟩=>⟨st,ds,.ee d,h',h1,h2,h3,kd,h4,hq _ h5⟩
 | .fS x h args rs sl ks t,env,Q,Q',hq,⟨f,us,cs,st,ds,.ret d,h',g1,g2,h1,h2,h3,h4,h5⟩=>⟨f,us,cs,st,ds,.ret d,h',g1,g2,h1,h2,h3,h4,dK hq h5⟩
 | .fS x h args rs sl ks t,env,Q,Q',hq,⟨f,us,cs,st,ds,.ee d,h',g1,g2,h1,h2,h3,kd,h4,h5⟩=>⟨f,us,cs,st,ds,.ee d,h',g1,g2,h1,h2,h3,kd,h4,hq _ h5⟩
 | .nW x h sl cr n l body rest,env,Q,Q',hq,⟨f,us,cs,st,eH,d,eT,h1,h2,h3,h4,h5,h6,h7,h8⟩=>⟨f,us,cs,st,eH,d,eT,h1,h2,h3,h4,h5,h6,h7,dK hq h8⟩
inductive SE where
 | no
 | e (x:E)
 | pair (i j:Nat)
 deriving Inhabited
def Sk (n i:Nat):E→E
 | .aa (.sym p) (.aa (.sym q) .ai)=>if p<n∧q<n then(if i=0 then .sym p else if i=1 then .sym q else .av i (.aa (.sym p) (.aa (.sym q) .ai))) else .av i (.aa (.sym p) (.aa (.sym q) .ai))
 | x=>.av i x
def E.sb (n:Nat)(σ:List SE):E→Option E
 | .sym k=>match σ[k]? with
  | some (.e x)=>some x
  | some (.pair i j)=>some (.aa (.sym i) (.aa (.sym j) .ai))
  | _=>none
 | .const d=>some (.const d)
 | .nil=>some .nil
 | .ai=>some .ai
 | .un o a=>(a.sb n σ).map (.un o)
 | .conv k a=>(a.sb n σ).map (.conv k)
 | .bI a=>(a.sb n σ).map .bI
 | .gy a=>(a.sb n σ).map .gy
 | .aV a=>(a.sb n σ).map .aV
 | .cell i a=>(a.sb n σ).map (.cell i)
 | .cells i m a=>(a.sb n σ).map (.cells i m)
 | .bE m a=>(a.sb n σ).map (.bE m)
 | .cw a=>(a.sb n σ).map .cw
 | .av i a=>(a.sb n σ).map (Sk n i)
 | .rep b a d=>(a.sb n σ).map fun x=>.rep b x d
 | .deref a=>(a.sb n σ).map .deref
 | .iW t a=>(a.sb n σ).map (.iW t)
 | .aj k a=>(a.sb n σ).map (.aj k)
 | .nn a=>(a.sb n σ).map .nn
 | .aJ a=>(a.sb n σ).map .aJ
 | .bin o k a b=>(a.sb n σ).bind fun x=>(b.sb n σ).map (.bin o k x)
 | .idx a b=>(a.sb n σ).bind fun x=>(b.sb n σ).map (.idx x)
 | .cons a b=>(a.sb n σ).bind fun x=>(b.sb n σ).map (.cons x)
 | .app m k a b=>(a.sb n σ).bind fun x=>(b.sb n σ).map (.app m k x)
 | .bz a b=>(a.sb n σ).bind fun x=>(b.sb n σ).map (.bz x)
 | .b_ f a b=>(a.sb n σ).bind fun x=>(b.sb n σ).map (.b_ f x)
 | .aa a b=>(a.sb n σ).bind fun x=>(b.sb n σ).map (.aa x)
 | .mm m a b=>(a.sb n σ).bind fun x=>(b.sb n σ).map (.mm m x)
 | .ax m a b=>(a.sb n σ).bind fun x=>(b.sb n σ).map (.ax m x)
 | .ld g m a b=>(a.sb n σ).bind fun x=>(b.sb n σ).map (.ld g m x)
 | .fO e m a b=>(a.sb n σ).bind fun x=>(b.sb n σ).map (.fO e m x)
 | .cE e m a b=>(a.sb n σ).bind fun x=>(b.sb n σ).map (.cE e m x)
 | .cR a b=>(a.sb n σ).bind fun x=>(b.sb n σ).map (.cR x)
 | .guard a w b=>(a.sb n σ).bind fun x=>(b.sb n σ).map (.guard x w)
 | .sub m a b c=>(a.sb n σ).bind fun x=>(b.sb n σ).bind fun y=>(c.sb n σ).map (.sub m x y)
 | .set a b k c=>(a.sb n σ).bind fun x=>(b.sb n σ).bind fun y=>(c.sb n σ).map (.set x y k)
 | .ite a b c=>(a.sb n σ).bind fun x=>(b.sb n σ).bind fun y=>(c.sb n σ).map (.ite x y)
 | .eL m a b c=>(a.sb n σ).bind fun x=>(b.sb n σ).bind fun y=>(c.sb n σ).map (.eL m x y)
 | .gM e m k a b c=>(a.sb n σ).bind fun x=>(b.sb n σ).bind fun y=>(c.sb n σ).map (.gM e m k x y)
 | .apps a b c=>(a.sb n σ).bind fun x=>(b.sb n σ).bind fun y=>(c.sb n σ).map (.apps x y)
 | .m4 o a b c d=>(a.sb n σ).bind fun x=>(b.sb n σ).bind fun y=>(c.sb n σ).bind fun z=>(d.sb n σ).map (.m4 o x y z)
def K7 (env':List D)(x:Option D):SE→Prop
 | .no=>True
 | .e y=>y.eval env'=x
 | .pair i j=>∃d1 d2,env'[i]? = some d1∧env'[j]? = some d2∧x=some (.a_ [d1,d2])
def F4 (σ:List SE)(env env':List D):Prop:=∀(k:Nat) (s:SE),σ[k]? = some s→K7 env' env[k]? s
theorem LH {env:List D}{i:Nat}(x:E):(Sk env.length i x).eval env=(E.av i x).eval env:=by
 unfold Sk;split
 ·rename_i p q;split
  ·rename_i h;have e1:=A0e h.1;have e2:=A0e h.2;split
   ·rename_i e;subst e;simp only[E.eval,e1,e2,A0d,D.aa,D.av];rfl
   ·split
    ·rename_i e;subst e;simp only[E.eval,e1,e2,A0d,D.aa,D.av];rfl
    ·rfl
  ·rfl
 ·rfl
theorem E.eA {σ:List SE}{env env':List D}(hσ:F4 σ env env'):∀{x x':E},x.sb env'.length σ=some x'→x'.eval env'=x.eval env:=by
 intro x
 induction x <;> intro x' h <;> simp only[E.sb,A0a,A0b] at h
 case sym k=>
  split at h
  ·rename_i y hk;cases h;exact hσ k _ hk
  ·rename_i i j hk;cases h;obtain⟨d1,d2,h1,h2,h3⟩:=hσ k _ hk;show _=env[k]?;rw[h3];simp only[E.eval,h1,h2,A0d,D.aa]
  ·cases h
 case av i a ih=>
  obtain⟨y,h1,rfl⟩:=h;rw[LH];simp only[E.eval,ih h1]
 case const d=>cases h;rfl
 case nil=>cases h;rfl
 case ai=>cases h;rfl
 case ite a b c iF nc T3=>
  obtain⟨y,h1,z,h2,u,h3,rfl⟩:=h;simp only[E.eval,iF h1,nc h2,T3 h3]
 case guard a w b iF nc=>
  obtain⟨y,h1,z,h2,rfl⟩:=h;simp only[E.eval,iF h1,nc h2]
 all_goals first
 |(rename_i ih;obtain⟨y,h1,rfl⟩:=h;simp only[E.eval,ih h1])
 |(rename_i iF nc;obtain⟨y,h1,z,h2,rfl⟩:=h;simp only[E.eval,iF h1,nc h2])
 |(rename_i iF nc T3;obtain⟨y,h1,z,h2,u,h3,rfl⟩:=h;simp only[E.eval,iF h1,nc h2,T3 h3])
 |(rename_i iF nc T3 ihd;obtain⟨y,h1,z,h2,u,h3,v,h4,rfl⟩:=h;simp only[E.eval,iF h1,nc h2,T3 h3,ihd h4])
def jJ (n:Nat)(σ:List SE):List E→Option (List E)
 | []=>some []
 | x :: r=>(x.sb n σ).bind fun y=>(jJ n σ r).map (y :: ·)
theorem cZ {σ:List SE}{env env':List D}(hσ:F4 σ env env'):∀{l l':List E},jJ env'.length σ l=some l'→aA env' l'=aA env l
 | [],l',h=>by cases h;rfl
 | x :: r,l',h=>by simp only[jJ,A0b,A0a] at h;obtain⟨y,h1,z,h2,rfl⟩:=h;simp only[aA,E.eA hσ h1,cZ hσ h2]
def BT (n:Nat)(σ:List SE):List (E×Bool)→Option (List (E×Bool))
 | []=>some []
 | p :: r=>(p.1.sb n σ).bind fun y=>(BT n σ r).map ((y,p.2) :: ·)
theorem nU {σ:List SE}{env env':List D}(hσ:F4 σ env env'):∀{l l':List (E×Bool)},BT env'.length σ l=some l'→((∀p,p∈l'→∃d,p.1.eval env'=some d)→∀p,p∈l→∃d,p.1.eval env=some d)∧(bq env' l'↔bq env l)
 | [],l',h=>by cases h;exact⟨fun _ p hp=>(by cases hp),(by simp[bq])⟩
 | x :: r,l',h=>by
  simp only[BT,A0b,A0a] at h;obtain⟨y,h1,z,h2,rfl⟩:=h;have e:=E.eA hσ h1;obtain⟨g1,g2⟩:=nU hσ h2;refine⟨fun h p hp=>?_,?_⟩
  ·rcases A0E.1 hp with rfl | hp
   ·rw[←e];exact h (y,p.2) (by simp)
   ·exact g1 (fun q hq=>h q (by simp[hq])) p hp
  ·unfold bq at g2 ⊢;simp only[List.forall_mem_cons,e,g2]
theorem F4.append {σ σ2:List SE}{env env' bB ds:List D}(h:F4 σ env env')(hl:env.length=σ.length)(h2:∀(k:Nat) (s:SE),σ2[k]? = some s→K7 bB ds[k]? s)(he:env' <+: bB):F4 (σ++σ2) (env++ds) bB:=by
 intro k s hk;rcases A0U k σ.length with hlt | hge
 ·rw[A0g hlt] at hk;rw[A0g (by omega)];have:=h k s hk;cases s with
  | no=>exact trivial
  | e y=>
   have hd:=A0e (show k<env.length by omega);simp only[K7] at this ⊢;rw[hd] at this ⊢;exact E.ck he _ this
  | pair i j=>
   obtain⟨d1,d2,g1,g2,g3⟩:=this;obtain⟨r,rfl⟩:=he;exact⟨d1,d2,by rw[A0g (A0c.1 g1).1];exact g1,by rw[A0g (A0c.1 g2).1];exact g2,g3⟩
 ·rw[A0o hge] at hk;rw[A0o (by omega),hl];exact h2 _ s hk
def E.bits:E→Nat
 | .sym k=>1 <<< k
 | .const _ | .nil | .ai=>0
 | .un _ a | .conv _ a | .bI a | .gy a | .aV a | .cell _ a | .cells _ _ a | .bE _ a | .cw a | .av _ a | .rep _ a _ | .deref a | .iW _ a | .aj _ a | .nn a | .aJ a=>a.bits
 | .bin _ _ a b | .idx a b | .cons a b | .app _ _ a b | .bz a b | .b_ _ a b | .aa a b | .mm _ a b | .ax _ a b | .ld _ _ a b | .fO _ _ a b | .cE _ _ a b | .cR a b | .guard a _ b=>a.bits ||| b.bits
 | .sub _ a b c | .set a b _ c | .ite a b c | .eL _ a b c | .gM _ _ _ a b c | .apps a b c=>a.bits ||| (b.bits ||| c.bits)
 | .m4 _ a b c d=>a.bits ||| (b.bits ||| (c.bits ||| d.bits))
def ko:List E→Nat
 | []=>0
 | x :: r=>x.bits ||| ko r
def HM:List (E×Bool)→Nat
 | []=>0
 | x :: r=>x.1.bits ||| HM r
def Bind.bits:Bind→Nat
 | .ev x=>x.bits
 | .call act _ h args _ | .bw act _ h args _=>HM act ||| (h.bits ||| ko args)
 | .ei act x h args _ | .dG act x h args _=>HM act ||| (x.bits ||| (h.bits ||| ko args))
def T.bits:T→Nat
 | .bind b t=>b.bits ||| t.bits
 | .ite c a b=>c.bits ||| (a.bits ||| b.bits)
 | .loop _ inits body=>ko inits ||| body.bits
 | .join _ _ body rest=>body.bits ||| rest.bits
 | .jump _ vals=>ko vals
 | .ret x=>x.bits
 | .ee x h _ ks=>x.bits ||| (h.bits ||| ko ks)
 | .lR x _ t=>x.bits ||| t.bits
 | .pick x t=>x.bits ||| t.bits
 | .Ia _ _ cr _ t=>ko cr ||| t.bits
 | .gX _ h args _ _ ks t | .gH _ h args _ _ ks t=>h.bits ||| (ko args ||| (ko ks ||| t.bits))
 | .fS x h args _ _ ks t=>x.bits ||| (h.bits ||| (ko args ||| (ko ks ||| t.bits)))
 | .nW x h _ cr _ _ body rest=>x.bits ||| (h.bits ||| (ko cr ||| (body.bits ||| rest.bits)))
def ajD (m k:Nat):Bool:=(m >>> k) % 2==1
def oS (g:E)(w:Bool):Nat→T→List Bind×Nat×T
 | n,.bind b t=>match pM n g w b with
  | some b'=>let r:=oS g w (n+1) t;(b' :: r.1,r.2.1+1,r.2.2)
  | none=>([],0,.bind b t)
 | _,t=>([],0,t)
def Bn (b:Bool):E→Bool
 | .const (.v (.bool c))=>b==c
 | _=>false
def Bw (n : Nat) (b : Bind) (t : T) : Option (Bool × E × T × Nat × T) :=
  match aaj [b] with
  | some (g, w) => match oS g w n (.bind b t) with
    | (bs, k, .bind (.ev (.ite g' y z)) rest) =>
      if g.x6 g' = true ∧ (rest.bits >>> n) % (1 <<< k) = 0 then
        if w = false ∧ Bn true y = true then some (true, g, af bs (.ret z), k, rest)
        else if w = true ∧ Bn false z = true then some (false, g, af bs (.ret y), k, rest)
        else none
      else none
    | _ => none
  | none => none
def wD:E→Bool
 | .sym _=>true
 | .cell _ x | .av _ x | .aj _ x | .bE _ x | .nn x=>wD x
 | _=>false
def cheap (n:Nat):E→Option (Bool×E)
 | .sym j=>if j<n then some (false,.sym j) else none
 | .const d=>some (false,.const d)
 | .bE _ y | .nn y | .aV y=>if wD y=true then some (true,y) else none
 | .cell i y=>if wD y=true then some (true,.cell i y) else none
 | .av i y=>if wD y=true then some (true,.av i y) else none
 | .aj i y=>if wD y=true then some (true,.aj i y) else none
 | _=>none
def eP {α:Type}:List Bool→List α→List α
 | true :: r,x :: l=>x :: eP r l
 | false :: r,_ :: l=>eP r l
 | _,_=>[]
def sure (n:Nat):E→Bool
 | .sym k=>decide (k<n)
 | .const _=>true
 | _=>false
def nw:Nat→List Bool→List SE
 | _,[]=>[]
 | n,true :: r=>.e (.sym n) :: nw (n+1) r
 | n,false :: r=>.no :: nw n r
def CH (bits:Nat):Nat→Nat→List Bool
 | _,0=>[]
 | k,m+1=>ajD bits k :: CH bits (k+1) m
def rA (n:Nat):List Bool→List E→List Bool
 | b :: r,x :: l=>(b||!sure n x) :: rA n r l
 | _,_=>[]
def SR (l n:Nat):U→U→U
 | .ite c (.jump l1 as []) (.jump l2 bs []),rest=>if l1=l∧l2=l∧as.length=n∧bs.length=n then .Xn c as bs rest else .join l n (.ite c (.jump l1 as []) (.jump l2 bs [])) rest
 | body,rest=>.join l n body rest
def sG (n:Nat)(σ:List SE):Bind→Option Bind
 | .ev x=>(x.sb n σ).map .ev
 | .call act f h args rs=>(BT n σ act).bind fun oF=>(h.sb n σ).bind fun h'=>(jJ n σ args).map fun ic=>.call oF f h' ic rs
 | .bw act f h args rs=>(BT n σ act).bind fun oF=>(h.sb n σ).bind fun h'=>(jJ n σ args).map fun ic=>.bw oF f h' ic rs
 | .ei act x h args rs=>(BT n σ act).bind fun oF=>(x.sb n σ).bind fun x'=>(h.sb n σ).bind fun h'=>(jJ n σ args).map fun ic=>.ei oF x' h' ic rs
 | .dG act x h args rs=>(BT n σ act).bind fun oF=>(x.sb n σ).bind fun x'=>(h.sb n σ).bind fun h'=>(jJ n σ args).map fun ic=>.dG oF x' h' ic rs
def tr:Nat→Nat→List SE→List (Nat×List Bool)→T→Option U
 | 0,_,_,_,_=>none
 | f+1,n,σ,Γ,.bind b t=>
  match Bw σ.length b t with
  | some (or,g,inner,k,rest)=>(g.sb n σ).bind fun g'=>(tr f n σ [] inner).bind fun v=>(tr f (n+1) (σ++(List.replicate k .no++[.e (.sym n)])) Γ rest).map (.chain or g' v)
  | none=>match b with
   | .ev x=>(x.sb n σ).bind fun x'=>match cheap n x' with
    | some (false,y)=>tr f n (σ++[.e y]) Γ t
    | some (true,y)=>(tr f n (σ++[.e y]) Γ t).map (.aR x')
    | none=>(tr f (n+1) (σ++[.e (.sym n)]) Γ t).map (.ev x')
   | .call [] fn h args rs=>(h.sb n σ).bind fun h'=>(jJ n σ args).bind fun ic=>(tr f (n+1) (σ++[.e (.sym n)]) Γ t).map (.call fn h' ic rs)
   | .bw [] fn h args rs=>(h.sb n σ).bind fun h'=>(jJ n σ args).bind fun ic=>(tr f (n+2) (σ++[.pair n (n+1)]) Γ t).map (.bw fn h' ic rs)
   | .ei [] x h args rs=>(x.sb n σ).bind fun x'=>(h.sb n σ).bind fun h'=>(jJ n σ args).bind fun ic=>(tr f (n+1) (σ++[.e (.sym n)]) Γ t).map (.ei x' h' ic rs)
   | b=>(sG n σ b).bind fun b'=>(tr f (n+1) (σ++[.e (.sym n)]) Γ t).map (.gen b')
 | f+1,n,σ,Γ,.ite c a b=>(c.sb n σ).bind fun c'=>(tr f n σ Γ a).bind fun a'=>(tr f n σ Γ b).map (.ite c' a')
 | f+1,n,σ,Γ,.loop l inits body=>
  let keep:=rA σ.length (CH body.bits σ.length inits.length) inits
  if keep.length=inits.length then(jJ n σ (eP keep inits)).bind fun C1=>(tr f (n+C1.length) (σ++nw n keep) ((l,keep) :: Γ) body).map (.loop l C1) else none
 | f+1,n,σ,Γ,.join l m body rest=>
  let keep:=CH rest.bits σ.length m
  if keep.length=m then(tr f n σ ((l,keep) :: Γ) body).bind fun u5=>(tr f (n+(eP keep keep).length) (σ++nw n keep) Γ rest).map (SR l (eP keep keep).length u5) else none
 | _+1,n,σ,Γ,.jump l vals=>(Γ.lookup l).bind fun keep=>if vals.length=keep.length then(jJ n σ (eP keep vals)).bind fun Zl=>(jJ n σ ((eP (keep.map not) vals).filter fun x=>!sure σ.length x)).map (.jump l Zl) else none
 | _+1,n,σ,_,.ret x=>(x.sb n σ).map .ret
 | _+1,n,σ,_,.ee x h sl ks=>(x.sb n σ).bind fun x'=>(h.sb n σ).bind fun h'=>(jJ n σ ks).map (.ee x' h' sl)
 | f+1,n,σ,Γ,.lR x neg t=>(x.sb n σ).bind fun x'=>(tr f (n+1) (σ++[.e (.sym n)]) Γ t).map (.lR x' neg)
 | f+1,n,σ,Γ,.pick x t=>(x.sb n σ).bind fun x'=>(tr f (n+2) (σ++[.pair n (n+1)]) Γ t).map (.pick x')
 | f+1,n,σ,Γ,.Ia fn keep cr res t=>(jJ n σ cr).bind fun ia=>(tr f n σ Γ t).map (.Ia fn keep ia res)
 | f+1,n,σ,Γ,.gX fn h args rs sl ks t=>(h.sb n σ).bind fun h'=>(jJ n σ args).bind fun ic=>(jJ n σ ks).bind fun AQ=>(tr f (n+1) (σ++[.e (.sym n)]) Γ t).map (.gX fn h' ic rs sl AQ)
 | f+1,n,σ,Γ,.gH fn h args rs sl ks t=>(h.sb n σ).bind fun h'=>(jJ n σ args).bind fun ic=>(jJ n σ ks).bind fun AQ=>(tr f (n+2) (σ++[.pair n (n+1)]) Γ t).map (.gH fn h' ic rs sl AQ)
 | f+1,n,σ,Γ,.fS x h args rs sl ks t=>(x.sb n σ).bind fun x'=>(h.sb n σ).bind fun h'=>(jJ n σ args).bind fun ic=>(jJ n σ ks).bind fun AQ=>(tr f (n+2) (σ++[.pair n (n+1)]) Γ t).map (.fS x' h' ic rs sl AQ)
 | f+1,n,σ,Γ,.nW x h sl cr m l body rest=>(x.sb n σ).bind fun x'=>(h.sb n σ).bind fun h'=>(jJ n σ cr).bind fun ia=>
  (tr f (n+(m+1)) (σ++nw n (List.replicate (m+1) true)) [(l,[true])] body).bind fun u5=>(tr f (n+1) (σ++[.e (.sym n)]) Γ rest).map (.nW x' h' sl ia m l u5)
end
section
section
variable {P:Program} {g:E} {w p:Bool}
theorem EV:∀{t:T} {env:List D} {x:E} {dx:D},g.eval env=some (.v (.bool w))→den P (af (oS g w env.length t).1 (.ret x)) env (fun s=>s=.ret dx) →
  ∃us:List D,us.length=(oS g w env.length t).2.1∧x.eval (env++us)=some dx∧∀(Q:gu→Prop),den P (oS g w env.length t).2.2 (env++us) Q→den P t env Q:=by
 intro t
 induction t with
 | bind b t ih=>
  intro env x dx hg h;simp only[oS] at h ⊢;cases hs:pM env.length g w b with
  | none=>
   simp only[hs] at h ⊢;obtain⟨d,h1,h2⟩:=h;cases h2;exact⟨[],rfl,by simpa using h1,fun Q k=>by simpa using k⟩
  | some b'=>
   simp only[hs] at h ⊢;have h':den P (.bind b' (af (oS g w (env.length+1) t).1 (.ret x))) env (fun s=>s=.ret dx):=h;obtain⟨d,h1,h2⟩:=DV h';have hl:env.length+1=(env++[d]).length:=by simp
   rw[hl] at h1 ⊢;obtain⟨us,g1,g2,g3⟩:=ih (env:=env++[d]) (E.ck (prefix_append _ _) _ hg) h1;refine⟨d :: us,by simp[g1],by simpa using g2,fun Q k=>?_⟩;exact BK hs hg (h2 _ _ (g3 Q (by simpa using k)))
 | _=>
  intro env x dx hg h;obtain⟨d,h1,h2⟩:=h;cases h2;exact⟨[],rfl,by simpa using h1,fun Q k=>by simpa[oS] using k⟩
theorem EW:∀{t:T} {env:List D},g.eval env=some (.v (.bool p))→p≠w →
  ∃us:List D,us.length=(oS g w env.length t).2.1∧∀(Q:gu→Prop),den P (oS g w env.length t).2.2 (env++us) Q→den P t env Q:=by
 intro t
 induction t with
 | bind b t ih=>
  intro env hg hp;simp only[oS];cases hs:pM env.length g w b with
  | none=>exact⟨[],rfl,fun Q k=>by simpa using k⟩
  | some b'=>
   simp only;have hl:env.length+1=(env++[D.undef]).length:=by simp
   rw[hl];obtain⟨us,g1,g3⟩:=ih (env:=env++[D.undef]) (E.ck (prefix_append _ _) _ hg) hp;refine⟨D.undef :: us,by simp[g1],fun Q k=>?_⟩;exact BL hs hg hp (g3 Q (by simpa using k))
 | _=>
  intro env hg hp;exact⟨[],rfl,fun Q k=>by simpa[oS] using k⟩
theorem CX {b:Bool}{x:E}(h:Bn b x=true):x=.const (.v (.bool b)):=by
 unfold Bn at h;split at h
 ·simp only[B0K] at h;rw[h]
 ·cases h
theorem KI {b:Bind} {t inner rest:T} {or:Bool} {k:Nat} {env:List D} {Q:gu→Prop} (hc:Bw env.length b t=some (or,g,inner,k,rest)) {q:Bool} (hg:g.eval env=some (.v (.bool p)))
  (h1:p=!or→den P inner env (fun s=>s=.ret (.v (.bool q)))) (h2:∀us:List D,us.length=k→den P rest (env++us++[.v (.bool (bif or then p||q else p&&q))]) Q):den P (.bind b t) env Q:=by
 unfold Bw at hc;split at hc
 ·rename_i g0 w _;split at hc
  ·rename_i bs k0 g' y z arY hT;split at hc
   ·rename_i hb;have hgg:=E.mg hb.1;subst hgg;split at hc
    ·rename_i hw;cases hc;obtain⟨rfl,hy⟩:=hw;have hy:=CX hy;subst hy;cases p with
     | true=>
      obtain⟨us,g1,g3⟩:=EW (P:=P) (t:=.bind b t) (w:=false) hg (by simp);rw[hT] at g1 g3;refine g3 Q ⟨.v (.bool true),?_,?_⟩
      ·simp only[E.eval,E.ck (prefix_append env us) _ hg]
      ·simpa using h2 us g1
     | false=>
      have wi:=h1 rfl;have e:bs=(oS g false env.length (.bind b t)).1:=by rw[hT]
      rw[e] at wi;obtain⟨us,g1,g2,g3⟩:=EV (P:=P) (t:=.bind b t) hg wi;rw[hT] at g1 g3;refine g3 Q ⟨.v (.bool q),?_,?_⟩
      ·simp only[E.eval,E.ck (prefix_append env us) _ hg];exact g2
      ·simpa using h2 us g1
    ·split at hc
     ·rename_i hw;cases hc;obtain⟨rfl,hz⟩:=hw;have hz:=CX hz;subst hz;cases p with
      | false=>
       obtain⟨us,g1,g3⟩:=EW (P:=P) (t:=.bind b t) (w:=true) hg (by simp);rw[hT] at g1 g3;refine g3 Q ⟨.v (.bool false),?_,?_⟩
       ·simp only[E.eval,E.ck (prefix_append env us) _ hg]
       ·simpa using h2 us g1
      | true=>
       have wi:=h1 rfl;have e:bs=(oS g true env.length (.bind b t)).1:=by rw[hT]
       rw[e] at wi;obtain⟨us,g1,g2,g3⟩:=EV (P:=P) (t:=.bind b t) hg wi;rw[hT] at g1 g3;refine g3 Q ⟨.v (.bool q),?_,?_⟩
       ·simp only[E.eval,E.ck (prefix_append env us) _ hg];exact g2
       ·simpa using h2 us g1
     ·cases hc
   ·cases hc
  ·cases hc
 ·cases hc
theorem KH {env:List D}{x y:E}{c:Bool}(h:cheap env.length x=some (c,y))(hd:c=true→∃d,x.eval env=some d):∃d,x.eval env=some d∧y.eval env=some d:=by
 unfold cheap at h;split at h
 ·rename_i j;split at h
  ·rename_i hj;cases h;exact⟨_,A0e hj,A0e hj⟩
  ·cases h
 ·cases h;exact⟨_,rfl,rfl⟩
 ·split at h
  ·cases h;obtain⟨d,hd⟩:=hd rfl;simp only[E.eval,A0b] at hd;obtain⟨d',h1,h2⟩:=hd;refine⟨d',?_,h1⟩;simp only[E.eval,h1,A0d];unfold D.bE at h2 ⊢;split at h2
   ·split at h2
    ·rename_i hl;rw[A0z hl]
    ·cases h2
   ·cases h2
  ·cases h
 ·split at h
  ·cases h;obtain⟨d,hd⟩:=hd rfl;simp only[E.eval,A0b] at hd;obtain⟨d',h1,h2⟩:=hd;refine⟨d',?_,h1⟩;simp only[E.eval,h1,A0d];unfold D.nn at h2 ⊢;split at h2 <;> first | rfl | cases h2
  ·cases h
 ·split at h
  ·cases h;obtain⟨d,hd⟩:=hd rfl;simp only[E.eval,A0b] at hd;obtain⟨d',h1,h2⟩:=hd;refine⟨d',?_,h1⟩;simp only[E.eval,h1,A0d];unfold D.aV at h2 ⊢;split at h2
   ·rename_i hl;rw[A0z hl]
   ·cases h2
  ·cases h
 ·split at h
  ·cases h;obtain⟨d,hd⟩:=hd rfl;exact⟨d,hd,hd⟩
  ·cases h
 ·split at h
  ·cases h;obtain⟨d,hd⟩:=hd rfl;exact⟨d,hd,hd⟩
  ·cases h
 ·split at h
  ·cases h;obtain⟨d,hd⟩:=hd rfl;exact⟨d,hd,hd⟩
  ·cases h
 ·cases h
theorem HD:∀{keep:List Bool} {ds pre:List D},ds.length=keep.length→∀(k:Nat) (s:SE),(nw pre.length keep)[k]? = some s→K7 (pre++eP keep ds) ds[k]? s
 | [],_,_,_,k,s,h=>by simp[nw] at h
 | true :: r,d :: ds,pre,hl,k,s,h=>by
  cases k with
  | zero=>
   simp only[nw,A0L,A0x] at h;subst h;simp[K7,E.eval,eP]
  | succ k=>
   simp only[nw,B0B] at h;have hp:pre.length+1=(pre++[d]).length:=by simp
   rw[hp] at h;have:=HD (pre:=pre++[d]) (ds:=ds) (keep:=r) (by simpa using hl) k s h;simpa[eP] using this
 | false :: r,d :: ds,pre,hl,k,s,h=>by
  cases k with
  | zero=>
   simp only[nw,A0L,A0x] at h;subst h;exact trivial
  | succ k=>
   simp only[nw,B0B] at h;have:=HD (pre:=pre) (ds:=ds) (keep:=r) (by simpa using hl) k s h;simpa[eP] using this
 | _ :: _,[],_,hl,_,_,_=>by simp at hl
theorem mB:∀{keep:List Bool} {n:Nat},(nw n keep).length=keep.length
 | [],_=>rfl
 | true :: r,n=>by simp[nw,mB (keep:=r)]
 | false :: r,n=>by simp[nw,mB (keep:=r)]
theorem iS {env:List D}:∀{l:List E} {ds:List D},aA env l=some ds→ds.length=l.length
 | [],ds,h=>by simp[aA] at h;simp[h]
 | x :: r,ds,h=>by simp only[aA,A0b,A0a] at h;obtain⟨d,_,kL,h2,rfl⟩:=h;simp[iS h2]
theorem nv {env:List D}:∀{keep:List Bool} {l:List E} {kL:List D},l.length=keep.length→aA env (eP keep l)=some kL→(∀x,x∈eP (keep.map not) l→∃d,x.eval env=some d)→∃ds,aA env l=some ds∧eP keep ds=kL
 | [],[],kL,_,h,_=>by simp[eP,aA] at h;subst h;exact⟨[],rfl,rfl⟩
 | true :: r,x :: l,kL,hl,h,hd=>by simp only[eP,aA,A0b,A0a] at h;obtain⟨d,h1,ds2,h2,rfl⟩:=h;obtain⟨ds,g1,g2⟩:=nv (keep:=r) (l:=l) (by simpa using hl) h2 (fun x hx=>hd x (by simpa[eP] using hx));exact⟨d :: ds,by simp[aA,h1,g1],by simp[eP,g2]⟩
 | false :: r,x :: l,kL,hl,h,hd=>by simp only[eP] at h;obtain⟨d,h1⟩:=hd x (by simp[eP]);obtain⟨ds,g1,g2⟩:=nv (keep:=r) (l:=l) (by simpa using hl) h (fun x hx=>hd x (by simp[eP,hx]));exact⟨d :: ds,by simp[aA,h1,g1],by simp[eP,g2]⟩
 | [],_ :: _,_,hl,_,_=>by simp at hl
 | _ :: _,[],_,hl,_,_=>by simp at hl
theorem Aq {env:List D}:∀{l:List E} {ds:List D},aA env l=some ds→∀x,x∈l→∃d,x.eval env=some d
 | [],_,_,x,hx=>by cases hx
 | y :: r,ds,h,x,hx=>by
  simp only[aA,A0b,A0a] at h;obtain⟨d,h1,ds2,h2,rfl⟩:=h;rcases A0E.1 hx with rfl | hx
  ·exact⟨d,h1⟩
  ·exact Aq h2 x hx
theorem NR {env:List D}{x:E}(h:sure env.length x=true):∃d,x.eval env=some d:=by
 cases x <;> simp only[sure,A0t] at h
 case sym k=>exact⟨_,A0e h⟩
 case const d=>exact⟨d,rfl⟩
 all_goals cases h
theorem zc {env:List D}:∀{ks:List Bool} {l:List E},(rA env.length ks l).length=l.length→∀x,x∈eP ((rA env.length ks l).map not) l→∃d,x.eval env=some d
 | [],[],_,x,hx=>by simp[rA,eP] at hx
 | b :: r,y :: l,hl,x,hx=>by
  simp only[rA,B0a,Nat.add_right_cancel_iff,B0p] at hl hx;cases hb:(b||!sure env.length y) with
  | true=>
   rw[hb] at hx;simp only[D0N,eP] at hx;exact zc hl x hx
  | false=>
   rw[hb] at hx;simp only[Bool.not_false,eP,A0E] at hx;rcases hx with rfl | hx
   ·simp only[C0c,Bool.not_eq_false'] at hb;exact NR hb.2
   ·exact zc hl x hx
 | [],_ :: _,hl,_,_=>by simp[rA] at hl
 | _ :: _,[],_,x,hx=>by simp[rA,eP] at hx
structure tN (Γ:List (Nat×List Bool))(Q' Q:gu→Prop):Prop where
 ret:∀d,Q' (.ret d)→Q (.ret d)
 ee:∀d st sl kd,Q' (.ee d st sl kd)→Q (.ee d st sl kd)
 jump:∀l keep,Γ.lookup l=some keep→∀ds:List D,ds.length=keep.length→Q' (.jump l (eP keep ds))→Q (.jump l ds)
theorem tN.catch {Γ:List (Nat×List Bool)}{Q' Q:gu→Prop}{K' K:List D→Prop}{l:Nat}{keep:List Bool}(h:tN Γ Q' Q)(hK:∀ds:List D,ds.length=keep.length→K' (eP keep ds)→K ds):tN ((l,keep) :: Γ) (cU l K' Q') (cU l K Q):=by
 refine⟨h.ret,h.ee,fun m kp hm ds hl=>?_⟩;simp only[List.lookup] at hm;split at hm
 ·rename_i e;have e:m=l:=by simpa using e
  cases hm;subst e;simp only[cU,B0d];exact hK ds hl
 ·rename_i e;have e:m≠l:=by simpa using e
  simp only[cU,A0B e];exact h.jump m kp hm ds hl
theorem tN.same {Γ:List (Nat×List Bool)}(hΓ:Γ=[]){Q:gu→Prop}:tN Γ Q Q:=by subst hΓ;exact⟨fun _ h=>h,fun _ _ _ _ h=>h,fun _ _ h=>by cases h⟩
theorem P0 {l n:Nat}{body rest:U}{env:List D}{Q:gu→Prop}(h:bp P (SR l n body rest) env Q):bp P (.join l n body rest) env Q:=by
 unfold SR at h;split at h
 ·rename_i c l1 as l2 bs;split at h
  ·rename_i hc;obtain⟨rfl,rfl,h1,h2⟩:=hc;obtain⟨v,ds,g1,g2,g3,g4⟩:=h;refine⟨v,g1,fun e=>?_,fun e=>?_⟩
   ·refine⟨⟨[],rfl⟩,ds,g2 e,?_⟩;simp only[cU,B0d];exact⟨by rw[iS (g2 e),h1],g4⟩
   ·refine⟨⟨[],rfl⟩,ds,g3 e,?_⟩;simp only[cU,B0d];exact⟨by rw[iS (g3 e),h2],g4⟩
  ·exact h
 ·exact h
end
section
variable {P:Program} {σ:List SE} {env env':List D}
theorem F4.one (h:F4 σ env env')(hl:env.length=σ.length){d:D}{s:SE}{bB:List D}(he:env' <+: bB)(hs:K7 bB (some d) s):F4 (σ++[s]) (env++[d]) bB:=
 h.append hl (fun k s' hk=>by
  cases k with
  | zero=>simp at hk;subst hk;exact hs
  | succ k=>simp at hk) he
theorem F4.push (h:F4 σ env env')(hl:env.length=σ.length)(d:D):F4 (σ++[.e (.sym env'.length)]) (env++[d]) (env'++[d]):=
 h.one hl (prefix_append _ _) (by simp[K7,E.eval])
theorem F4.pair (h:F4 σ env env')(hl:env.length=σ.length)(d e:D):F4 (σ++[.pair env'.length (env'.length+1)]) (env++[.a_ [d,e]]) (env'++[d,e]):=
 h.one hl (prefix_append _ _) ⟨d,e,by simp,by simp,rfl⟩
theorem F4.nw (h:F4 σ env env')(hl:env.length=σ.length){keep:List Bool}{ds:List D}(hd:ds.length=keep.length):F4 (σ++Go.Am.nw env'.length keep) (env++ds) (env'++eP keep ds):=
 h.append hl (HD hd) (prefix_append _ _)
theorem V5 {b:Bind}{Q:gu→Prop}{d:D}(h:den P (.bind b (.ret (.sym env.length))) env (fun s=>s=.ret d)){t:T}(k:den P t (env++[d]) Q):den P (.bind b t) env Q:=by obtain⟨d',h1,h2⟩:=DV h;obtain⟨d2,g1,g2⟩:=h1;simp only[E.eval,A0o (A0m _),B0R,A0L,A0x] at g1;cases g2;subst g1;exact h2 _ _ k
theorem LS (hσ:F4 σ env env'){b b':Bind}(h:sG env'.length σ b=some b'){d:D}(hd:den P (.bind b' (.ret (.sym env'.length))) env' (fun s=>s=.ret d)):den P (.bind b (.ret (.sym env.length))) env (fun s=>s=.ret d):=by
 have last:∀{e:List D} {x:D},den P (.ret (.sym e.length)) (e++[x]) (fun s=>s=.ret d)↔x=d:=by
  intro e x;constructor
  ·rintro⟨d2,g1,g2⟩
   simp only[E.eval,A0o (A0m _),B0R,A0L,A0x] at g1;cases g2;exact g1
  ·rintro rfl
   exact⟨x,by simp[E.eval],rfl⟩
 cases b with
 | ev x=>
  simp only[sG,A0a] at h;obtain⟨x',h1,rfl⟩:=h;obtain⟨d0,g1,g2⟩:=hd;exact⟨d0,by rw[←E.eA hσ h1];exact g1,last.2 (last.1 g2)⟩
 | call act f h' args rs=>
  simp only[sG,A0b,A0a] at h;obtain⟨oF,ha,h2,hh,ic,hA,rfl⟩:=h;obtain⟨k1,k2⟩:=nU hσ ha;obtain⟨g0,d0,g1,g2⟩:=hd;refine⟨k1 g0,d0,fun jj=>?_,last.2 (last.1 g2)⟩;obtain⟨st,ds,q1,q2,q3⟩:=g1 (k2.2 jj);exact⟨st,ds,by rw[←E.eA hσ hh];exact q1,by rw[←cZ hσ hA];exact q2,q3⟩
 | bw act f h' args rs=>
  simp only[sG,A0b,A0a] at h;obtain⟨oF,ha,h2,hh,ic,hA,rfl⟩:=h;obtain⟨k1,k2⟩:=nU hσ ha;obtain⟨g0,st,d0,hn,g1,g2,g3,g4⟩:=hd;refine⟨k1 g0,st,d0,hn,by rw[←E.eA hσ hh];exact g1,fun jj=>?_,fun jj=>g3 fun hh=>jj (k2.1 hh),last.2 (last.1 g4)⟩;obtain⟨ds,q2,q3⟩:=g2 (k2.2 jj);exact⟨ds,by rw[←cZ hσ hA];exact q2,q3⟩
 | ei act x h' args rs=>
  simp only[sG,A0b,A0a] at h;obtain⟨oF,ha,x',hx,h2,hh,ic,hA,rfl⟩:=h;obtain⟨k1,k2⟩:=nU hσ ha;obtain⟨g0,d0,g1,g2⟩:=hd;refine⟨k1 g0,d0,fun jj=>?_,last.2 (last.1 g2)⟩;obtain⟨f,us,cs,st,ds,q0,q1,q2,q3,q4⟩:=g1 (k2.2 jj);exact⟨f,us,cs,st,ds,by rw[←E.eA hσ hx];exact q0,q1,by rw[←E.eA hσ hh];exact q2,by rw[←cZ hσ hA];exact q3,q4⟩
 | dG act x h' args rs=>
  simp only[sG,A0b,A0a] at h;obtain⟨oF,ha,x',hx,h2,hh,ic,hA,rfl⟩:=h;obtain⟨k1,k2⟩:=nU hσ ha;obtain⟨g0,st,d0,hn,g1,g2,g3,g4⟩:=hd;refine⟨k1 g0,st,d0,hn,by rw[←E.eA hσ hh];exact g1,fun jj=>?_,fun jj=>g3 fun hh=>jj (k2.1 hh),last.2 (last.1 g4)⟩;obtain⟨xd,ds,q1,q2,q3⟩:=g2 (k2.2 jj);exact⟨xd,ds,by rw[←E.eA hσ hx];exact q1,by rw[←cZ hσ hA];exact q2,q3⟩
theorem Dv {α:Type}:∀{m:Nat} {l:List α},l.length=m→eP (List.replicate m true) l=l
 | 0,[],_=>rfl
 | m+1,x :: l,h=>by simp[List.replicate,eP,Dv (m:=m) (l:=l) (by simpa using h)]
theorem Sf:∀(f:Nat) {σ:List SE} {Γ:List (Nat×List Bool)} {t:T} {u:U} {env env':List D} {Q' Q:gu→Prop},tr f env'.length σ Γ t=some u→env.length=σ.length→F4 σ env env'→tN Γ Q' Q→bp P u env' Q'→den P t env Q:=by
 intro f
 induction f with
 | zero=>intro σ Γ t u env env' Q' Q h;simp[tr] at h
 | succ f ih=>
  intro σ Γ t u env env' Q' Q h hl hσ hQ hu;have vo:∀{t:T} {u:U} {d:D} {Γ:List (Nat×List Bool)} {Q' Q:gu→Prop},tr f (env'.length+1) (σ++[.e (.sym env'.length)]) Γ t=some u→tN Γ Q' Q→bp P u (env'++[d]) Q'→den P t (env++[d]) Q:=by intro t u d Γ Q' Q ht hq hd;exact ih (env:=env++[d]) (env':=env'++[d]) (by simpa using ht) (by simp[hl]) (hσ.push hl d) hq hd
  have Gy:∀{t:T} {u:U} {d e:D} {Γ:List (Nat×List Bool)} {Q' Q:gu→Prop},tr f (env'.length+2) (σ++[.pair env'.length (env'.length+1)]) Γ t=some u→tN Γ Q' Q→bp P u (env'++[d,e]) Q'→den P t (env++[.a_ [d,e]]) Q:=by intro t u d e Γ Q' Q ht hq hd;exact ih (env:=env++[.a_ [d,e]]) (env':=env'++[d,e]) (by simpa using ht) (by simp[hl]) (hσ.pair hl d e) hq hd
  cases t with
  | bind b t=>
   simp only[tr] at h;cases hc:Bw σ.length b t with
   | some r=>
    obtain⟨or,g,inner,k,rest⟩:=r;simp only[hc,A0b,A0a] at h;obtain⟨g',h1,v,h2,r',h3,rfl⟩:=h;obtain⟨p,q,k1,k2,k3⟩:=hu;refine KI (by rw[hl];exact hc) (by rw[←E.eA hσ h1];exact k1) (fun e=>ih h2 hl hσ (tN.same rfl) (k2 e)) fun us hus=>?_;rw[A0A];refine ih (env':=env'++[_]) (by simpa using h3) (by simp[hl,hus]) ?_ hQ k3;refine hσ.append hl (fun k' s hs=>?_) (prefix_append _ _);rcases A0U k' k with hk | hk
    ·rw[A0g (by simpa using hk)] at hs;simp only[B0o,hk,B0d,A0x] at hs;subst hs;exact trivial
    ·rw[A0o (by simpa using hk)] at hs;rw[A0o (by omega)];simp only[C0H] at hs;rw[hus];cases RF:k'-k with
     | zero=>
      rw[RF] at hs;simp only[A0L,A0x] at hs;subst hs;simp[K7,E.eval]
     | succ m=>rw[RF] at hs;simp at hs
   | none=>
    simp only[hc] at h;have YB:∀{b:Bind},((sG env'.length σ b).bind fun b'=>(tr f (env'.length+1) (σ++[.e (.sym env'.length)]) Γ t).map (.gen b'))=some u→den P (.bind b t) env Q:=by intro b h;simp only[A0b,A0a] at h;obtain⟨b',h1,r,h2,rfl⟩:=h;obtain⟨d,k1,k2⟩:=hu;exact V5 (LS hσ h1 k1) (vo h2 hQ k2)
    split at h
    ·rename_i x;simp only[A0b] at h;obtain⟨x',hx,h⟩:=h;have ex:=E.eA hσ hx;split at h
     ·rename_i y hch;obtain⟨d,k1,k2⟩:=KH hch (fun e=>by cases e);exact⟨d,by rw[←ex];exact k1,ih (env:=env++[d]) h (by simp[hl]) (hσ.one hl (B0W _) k2) hQ hu⟩
     ·rename_i y hch;simp only[A0a] at h;obtain⟨r,h2,rfl⟩:=h;obtain⟨d,k1,k2⟩:=KH hch (fun _=>hu.1);exact⟨d,by rw[←ex];exact k1,ih (env:=env++[d]) h2 (by simp[hl]) (hσ.one hl (B0W _) k2) hQ hu.2⟩
     ·simp only[A0a] at h;obtain⟨r,h2,rfl⟩:=h;obtain⟨d,k1,k2⟩:=hu;exact⟨d,by rw[←ex];exact k1,vo h2 hQ k2⟩
    ·simp only[A0b,A0a] at h;obtain⟨h',hh,ic,ha,r,h2,rfl⟩:=h;obtain⟨st,ds,d,k1,k2,k3,k4,k5⟩:=hu;exact⟨fun _ hp=>(by cases hp),d,fun _=>⟨st,ds,by rw[←E.eA hσ hh];exact k1,by rw[←cZ hσ ha];exact k2,k3,k4⟩,vo h2 hQ k5⟩
    ·simp only[A0b,A0a] at h;obtain⟨h',hh,ic,ha,r,h2,rfl⟩:=h;obtain⟨st,ds,d,hn,k1,k2,k3,k4,k5⟩:=hu;exact⟨fun _ hp=>(by cases hp),st,d,hn,by rw[←E.eA hσ hh];exact k1,fun _=>⟨ds,by rw[←cZ hσ ha];exact k2,k3,k4⟩,fun uS=>absurd (fun _ hp=>(by cases hp)) uS,Gy h2 hQ k5⟩
    ·simp only[A0b,A0a] at h;obtain⟨x',hx,h',hh,ic,ha,r,h2,rfl⟩:=h;obtain⟨fn,us,cs,st,ds,d,g1,g2,k1,k2,k3,k4,k5⟩:=hu;exact⟨fun _ hp=>(by cases hp),d,fun _=>⟨fn,us,cs,st,ds,by rw[←E.eA hσ hx];exact g1,g2,by rw[←E.eA hσ hh];exact k1,by rw[←cZ hσ ha];exact k2,k3,k4⟩,vo h2 hQ k5⟩
    ·exact YB h
  | ite c a b=>
   simp only[tr,A0b,A0a] at h;obtain⟨c',hc,a',ha,b',hb,rfl⟩:=h;obtain⟨v,k1,k2,k3⟩:=hu;exact⟨v,by rw[←E.eA hσ hc];exact k1,fun e=>ih ha hl hσ hQ (k2 e),fun e=>ih hb hl hσ hQ (k3 e)⟩
  | loop l inits body=>
   simp only[tr] at h;split at h
   ·rename_i HZ;simp only[A0b,A0a] at h;obtain⟨C1,hi,u5,hb,rfl⟩:=h;obtain⟨kL,k1,n,k2⟩:=hu;rw[←hl] at HZ hi hb;generalize xG:rA env.length (CH body.bits env.length inits.length) inits=keep at *;obtain⟨ds,g1,g2⟩:=nv (env:=env) (keep:=keep) (l:=inits) HZ.symm (by rw[←cZ hσ hi];exact k1) (by rw[←xG];exact zc (by rw[xG];exact HZ));refine⟨ds,g1,n,?_⟩;have nh:C1.length=(eP keep inits).length:=by have e1:=iS k1;have e2:=iS (show aA env (eP keep inits)=some kL by rw[←cZ hσ hi];exact k1);omega
    have main:∀(n:Nat) (ds:List D) {R' R:gu→Prop},ds.length=inits.length→tN Γ R' R→rounds l (fun ds Q=>ds.length=C1.length∧bp P u5 (env'++ds) Q) R' n (eP keep ds)→rounds l (fun ds Q=>ds.length=inits.length∧den P body (env++ds) Q) R n ds:=by
     intro n
     induction n with
     | zero=>intro ds R' R _ _ h;exact h
     | succ n ihn=>
      intro ds R' R fR hR h;obtain⟨q1,q2⟩:=h;refine⟨fR,ih (env:=env++ds) (env':=env'++eP keep ds) (by rw[A0u,q1];exact hb) (by simp[hl,fR,mB,HZ]) (hσ.nw hl (by omega)) (hR.catch fun WL WC hr=>ihn WL (by omega) hR hr) q2⟩
    exact main n ds (iS g1) hQ (by rw[g2];exact k2)
   ·cases h
  | join l m body rest=>
   simp only[tr] at h;split at h
   ·rename_i HZ;simp only[A0b,A0a] at h;obtain⟨u5,hb,Zw,hr,rfl⟩:=h;have hu:=P0 hu;generalize CH rest.bits σ.length m=keep at *;show den P body env (cU l _ Q);refine ih hb hl hσ (hQ.catch fun ds fR hk=>?_) hu;obtain⟨q1,q2⟩:=hk;exact⟨by omega,ih (env:=env++ds) (env':=env'++eP keep ds) (by rw[A0u,q1];exact hr) (by simp[hl,fR,mB]) (hσ.nw hl fR) hQ q2⟩
   ·cases h
  | jump l vals=>
   simp only[tr,A0b] at h;obtain⟨keep,MQ,h⟩:=h;split at h
   ·rename_i HZ;simp only[A0b,A0a] at h;obtain⟨Zl,hv,Nw,hch,rfl⟩:=h;obtain⟨⟨cs,k0⟩,kL,k1,k2⟩:=hu;obtain⟨ds,g1,g2⟩:=nv (env:=env) (keep:=keep) (l:=vals) HZ (by rw[←cZ hσ hv];exact k1) (fun x hx=>by
     cases hs:sure σ.length x with
     | true=>exact NR (by rw[hl];exact hs)
     | false=>exact Aq (show aA env _=some cs by rw[←cZ hσ hch];exact k0) x (by simp[hx,hs]))
    exact⟨ds,g1,hQ.jump l keep MQ ds (by rw[iS g1,HZ]) (by rw[g2];exact k2)⟩
   ·cases h
  | ret x=>
   simp only[tr,A0a] at h;obtain⟨x',hx,rfl⟩:=h;obtain⟨d,k1,k2⟩:=hu;exact⟨d,by rw[←E.eA hσ hx];exact k1,hQ.ret _ k2⟩
  | ee x hE sl ks=>
   simp only[tr,A0b,A0a] at h;obtain⟨x',hx,h',hh,AQ,rX,rfl⟩:=h;obtain⟨d,st,kd,k1,k2,k3,k4⟩:=hu;exact⟨d,st,kd,by rw[←E.eA hσ hx];exact k1,by rw[←E.eA hσ hh];exact k2,by rw[←cZ hσ rX];exact k3,hQ.ee _ _ _ _ k4⟩
  | lR x neg t=>
   simp only[tr,A0b,A0a] at h;obtain⟨x',hx,t',ht,rfl⟩:=h;obtain⟨d,bs,k1,k2,k3⟩:=hu;exact⟨d,bs,by rw[←E.eA hσ hx];exact k1,k2,fun b hb=>vo ht hQ (k3 b hb)⟩
  | pick x t=>
   simp only[tr,A0b,A0a] at h;obtain⟨x',hx,t',ht,rfl⟩:=h;obtain⟨ys,k1,k2⟩:=hu;exact⟨ys,by rw[←E.eA hσ hx];exact k1,fun d st hy=>Gy ht hQ (k2 d st hy)⟩
  | Ia fn keep cr res t=>
   simp only[tr,A0b,A0a] at h;obtain⟨ia,hc,t',ht,rfl⟩:=h;obtain⟨eH,k1,k2,k3⟩:=hu;refine⟨eH,by rw[←cZ hσ hc];exact k1,k2,ih ht hl hσ ⟨fun d hd=>?_,fun d st sl kd hd=>?_,fun l kp _ ds _ hd=>hd.elim⟩ k3⟩
   ·unfold HU at hd ⊢;split at hd
    ·obtain⟨eT,d',q1,q2,q3⟩:=hd;exact⟨eT,d',q1,q2,hQ.ret _ q3⟩
    ·rename_i heq;cases heq
    ·exact hd.elim
   ·unfold HU at hd ⊢;obtain⟨q0,eT,d',q1,q2,q3⟩:=hd;exact⟨q0,eT,d',q1,q2,hQ.ret _ q3⟩
  | gX fn hE args rs sl ks t=>
   simp only[tr,A0b,A0a] at h;obtain⟨h',hh,ic,ha,AQ,rX,t',ht,rfl⟩:=h;obtain⟨st,ds,o,k1,k2,k3,k4⟩:=hu;refine⟨st,ds,o,by rw[←E.eA hσ hh];exact k1,by rw[←cZ hσ ha];exact k2,k3,?_⟩;cases o with
   | ret d=>exact⟨k4.1,vo ht hQ k4.2⟩
   | ee d=>obtain⟨kd,q1,q2⟩:=k4;exact⟨kd,by rw[←cZ hσ rX];exact q1,hQ.ee _ _ _ _ q2⟩
  | gH fn hE args rs sl ks t=>
   simp only[tr,A0b,A0a] at h;obtain⟨h',hh,ic,ha,AQ,rX,t',ht,rfl⟩:=h;obtain⟨st,ds,o,hn,k1,k2,k3,k4⟩:=hu;refine⟨st,ds,o,hn,by rw[←E.eA hσ hh];exact k1,by rw[←cZ hσ ha];exact k2,k3,?_⟩;cases o with
   | ret d=>exact⟨k4.1,Gy ht hQ k4.2⟩
   | ee d=>obtain⟨kd,q1,q2⟩:=k4;exact⟨kd,by rw[←cZ hσ rX];exact q1,hQ.ee _ _ _ _ q2⟩
  | fS x hE args rs sl ks t=>
   simp only[tr,A0b,A0a] at h;obtain⟨x',hx,h',hh,ic,ha,AQ,rX,t',ht,rfl⟩:=h;obtain⟨fn,us,cs,st,ds,o,hn,g1,g2,k1,k2,k3,k4⟩:=hu;refine⟨fn,us,cs,st,ds,o,hn,by rw[←E.eA hσ hx];exact g1,g2,by rw[←E.eA hσ hh];exact k1,by rw[←cZ hσ ha];exact k2,k3,?_⟩;cases o with
   | ret d=>exact⟨k4.1,Gy ht hQ k4.2⟩
   | ee d=>obtain⟨kd,q1,q2⟩:=k4;exact⟨kd,by rw[←cZ hσ rX];exact q1,hQ.ee _ _ _ _ q2⟩
  | nW x hE sl cr m l body rest=>
   simp only[tr,A0b,A0a] at h;obtain⟨x',hx,h',hh,ia,hc,u5,hb,Zw,hr,rfl⟩:=h;obtain⟨fn,us,cs,st,eH,d,eT,g1,g2,k1,k2,k3,k4,k5,k6⟩:=hu;refine⟨fn,us,cs,st,eH,d,eT,by rw[←E.eA hσ hx];exact g1,g2,by rw[←E.eA hσ hh];exact k1,by rw[←cZ hσ hc];exact k2,k3,k4,fun mm rec hY=>?_,vo hr hQ k6⟩;refine k5 mm rec fun st1 ds st2 n1 n2 n3 fD=>hY st1 ds st2 n1 n2 n3 ?_;have e:(st1 :: ds).length=(List.replicate (m+1) true).length:=by simp[n3]
   have hs:=hσ.nw hl e;rw[Dv (by simp[n3])] at hs;rw[A0A] at fD ⊢;refine ih (env:=env++([st1]++ds)) (env':=env'++([st1]++ds)) (by simpa[n3,D0J,Nat.add_left_comm] using hb) (by simp[hl,n3,mB]) hs ⟨fun d hd=>(by cases hd),fun _ _ _ _ hd=>(by cases hd),fun l' kp MQ kL fR hd=>?_⟩ fD;simp only[List.lookup] at MQ;split at MQ
   ·rename_i e';have e':l'=l:=by simpa using e'
    cases MQ
    match kL,fR with
    | [y],_=>
     simp only[eP] at hd;rw[hd]
   ·cases MQ
def qO (n:Nat)(t:T):Option U:=tr 100000 n ((List.range n).map fun k=>.e (.sym k)) [] t
theorem nT {t:T}{u:U}{Q:gu→Prop}(h:qO env.length t=some u)(hu:bp P u env Q):den P t env Q:=
 Sf 100000 h (by simp) (fun k s hk=>by
  simp only[A0w,A0a] at hk;obtain⟨j,h1,rfl⟩:=hk;have:j=k:=by
   rw[D0T (by
    have:=(A0c.1 h1).1;simpa using this)] at h1
   exact(B0M h1).symm
  subst this;rfl) (tN.same rfl) hu
end
end
section
def bP (P:Program)(f:FuncId)(kn:Kn)(cf:cF)(bn:List Bool)(u:U):Prop:=
 ∃fn,P.funcs[f]? = some fn∧bK P fn=bn∧(match kn with
  | .plain=>(jE P cf fn).bind (qO (bn.length+1))
  | .defers keep=>(iU P cf fn keep).bind (qO (bn.length+1))
  | .gK=>(oC P cf fn).bind (qO (bn.length+2)))=some u
section
variable {P:Program} {f:FuncId} {kn:Kn} {cf:cF} {bn:List Bool} {u:U} {ds bs bs':List D} {d:D} {o:Out}
theorem bP.plain {fn:Func}(hf:P.funcs[f]? = some fn)(h1:bK P fn=bn)(h2:(jE P cf fn).bind (qO (bn.length+1))=some u):bP P f .plain cf bn u:=⟨fn,hf,h1,h2⟩
theorem bP.defers {fn:Func}{keep:List Nat}(hf:P.funcs[f]? = some fn)(h1:bK P fn=bn)(h2:(iU P cf fn keep).bind (qO (bn.length+1))=some u):bP P f (.defers keep) cf bn u:=⟨fn,hf,h1,h2⟩
theorem bP.gK {fn:Func}(hf:P.funcs[f]? = some fn)(h1:bK P fn=bn)(h2:(oC P cf fn).bind (qO (bn.length+2))=some u):bP P f .gK cf bn u:=⟨fn,hf,h1,h2⟩
theorem bP.N2 (h:bP P f .plain cf bn u)(fQ:cf.ro=true)(dQ:dA bn ds=true)(fD:bp P u (ds++[.st bs]) (rT o (.st bs))):eS P f (.st bs) ds o:=by obtain⟨fn,hf,rfl,hc⟩:=h;obtain⟨t,h1,h2⟩:=A0b.1 hc;obtain⟨hl,_⟩:=fU dQ;exact M1 fQ hf h1 dQ (nT (by simpa[←hl] using h2) fD)
theorem bP.F7 (h:bP P f .plain cf bn u)(dQ:dA bn ds=true)(fD:bp P u (ds++[.st bs]) (rT o (.st bs'))):bu P f (.st bs) ds o (.st bs'):=by obtain⟨fn,hf,rfl,hc⟩:=h;obtain⟨t,h1,h2⟩:=A0b.1 hc;obtain⟨hl,_⟩:=fU dQ;exact Br hf h1 dQ (nT (by simpa[←hl] using h2) fD)
theorem bP.VG {keep:List Nat}(h:bP P f (.defers keep) cf bn u)(dQ:dA bn ds=true)(fD:bp P u (ds++[.st bs]) (rT o (.st bs'))):bu P f (.st bs) ds o (.st bs'):=by obtain⟨fn,hf,rfl,hc⟩:=h;obtain⟨t,h1,h2⟩:=A0b.1 hc;obtain⟨hl,_⟩:=fU dQ;exact Dp hf h1 dQ (nT (by simpa[←hl] using h2) fD)
theorem bP.recoverD {m:Option D}{d0:D}(h:bP P f .gK cf bn u)(dQ:dA bn ds=true)(hm:(vl m).one=true)(fD:bp P u (ds++[.st bs,vl m]) (fun s=>s=.ret (.a_ [d0,.st bs']))):rS P f (.st bs) ds m (.st bs'):=by obtain⟨fn,hf,rfl,hc⟩:=h;obtain⟨t,h1,h2⟩:=A0b.1 hc;obtain⟨hl,_⟩:=fU dQ;exact Vd hf h1 dQ hm (nT (by simpa[←hl] using h2) fD)
theorem bP.R (h:bP P f .plain cf bn u)(fQ:cf.ro=true)(dQ:dA bn ds=true)(fD:bp P u (ds++[.st bs]) (fun s=>s=.ret (.a_ [d,.st bs]))):aQ P f (.st bs) ds d:=h.N2 fQ dQ fD
theorem bP.W (h:bP P f .plain cf bn u)(dQ:dA bn ds=true)(fD:bp P u (ds++[.st bs]) (fun s=>s=.ret (.a_ [d,.st bs']))):aZ P f (.st bs) ds d (.st bs'):=h.F7 dQ fD
end
def aD:List (U→U)→U→U
 | [],u=>u
 | f :: r,u=>f (aD r u)
theorem aI (u:U):aD [] u=u:=rfl
theorem aB (f:U→U)(r:List (U→U))(u:U):aD (f :: r) u=f (aD r u):=rfl
abbrev ki (n:Int):E:=.const (.v (.int .i64 n))
abbrev kb (b:Bool):E:=.const (.v (.bool b))
def yc (x:E):Nat→Nat→E
 | _,0=>.nil
 | k,n+1=>.cons (.cell k x) (yc x (k+1) n)
def r6 (n:Nat)(x:E):E:=yc x 0 n
end
end Go.Am
