/-
 What the small language's text means holds of the code that it was made of.
-/
import Derived.Test.YtdljkokeieeafaaGreatDoorAmCompiletoAmRange
set_option linter.unusedSimpArgs false
set_option linter.unusedVariables false
namespace Go.Am
noncomputable section

section
variable {P:Program} {w0:World} {X:Ent}

/-! ## forgetting -/

theorem SV.purge_rd {w:World}{ρ:Rho}{env:List D}{v:Value}{sv:SV}(d:Nat)(h:SRd w ρ env v sv):SRd w ρ env v (sv.purge d):=by
 rw[SV.purge_def]
 split
 ·exact h
 ·exact .junk

theorem SObj.purge_ok {w:World}{ρ:Rho}{env:List D}{o:Nat}{x:SObj}(d:Nat)(h:ObjOk w ρ env o x):ObjOk w ρ env o (x.purge d):=by
 cases x with
 | box cs=>
  obtain⟨vs,ty,h1,h2,h3,h4,h5⟩:=h
  refine⟨vs,ty,h1,by simpa using h2,h3,fun i v c hv hc=>?_,h5⟩
  simp only[List.getElem?_map,Option.map_eq_some_iff] at hc
  obtain⟨c',hc',rfl⟩:=hc
  exact SV.purge_rd d (h4 i v c' hv hc')
 | row y sz=>exact h
 | tok e sz=>exact h
 | store cf x=>exact h

theorem SObj.purge_ro (d:Nat)(x:SObj):(x.purge d).ro=x.ro:=by cases x <;> rfl

theorem SObj.purge_block (ρ:Rho)(o d:Nat)(x:SObj):objBlk ρ o (x.purge d)=objBlk ρ o x:=by cases x <;> rfl

theorem Rep.purge {w:World}{a:Act}{σ:SState}{env:List D}{ρ:Rho}(h:Rep w0 X w a σ env ρ)(d:Nat):Rep w0 X w a (σ.purge d) env ρ:=by
 by_cases hd:d=HID
 ·rw[SState.purge_def,if_pos hd];exact h
 have hpt:(σ.purge d).tmps=σ.tmps.map (SV.purge d):=by rw[SState.purge_def,if_neg hd]
 have hobj:∀o y,(σ.purge d).obj o=some y→∃x,σ.obj o=some x∧y=x.purge d:=by
  intro o y hy
  rw[SState.purge_def,if_neg hd] at hy
  simp only[SState.obj_def] at hy ⊢
  by_cases ho:o=HID
  ·rw[if_pos ho] at hy ⊢
   obtain⟨z,hz,rfl⟩:=Option.map_eq_some_iff.1 hy
   exact⟨z,hz,rfl⟩
  rw[if_neg ho] at hy ⊢
  simp only[List.getD_eq_getElem?_getD,List.getElem?_set,List.getElem?_map,List.length_map] at hy ⊢
  split at hy
  ·split at hy <;> simp at hy
  ·cases ho:σ.mem[o]? with
   | none=>rw[ho] at hy;simp at hy
   | some z=>
    rw[ho] at hy
    cases z with
    | none=>simp at hy
    | some x=>simp at hy;exact⟨x,rfl,hy.symm⟩
 refine⟨by rw[hpt];simpa using h.size,fun t=>?_,fun o y hy=>?_,?_,?_,h.cells,h.os,h.tape,h.output,h.grown,h.old,h.sub,h.new,h.nod,h.hold⟩
 ·have:=h.tmps t
  simp only[SState.tmp_def] at this ⊢
  rw[hpt]
  simp only[List.getD_eq_getElem?_getD,List.getElem?_map] at this ⊢
  cases ht:σ.tmps[t]? with
  | none=>exact .junk
  | some c=>rw[ht] at this;exact SV.purge_rd d this
 ·obtain⟨x,hx,rfl⟩:=hobj o y hy
  exact SObj.purge_ok d (h.objs o x hx)
 ·intro o o' y y' b h1 h2 h3 h4
  obtain⟨x,hx,rfl⟩:=hobj o y h1
  obtain⟨x',hx',rfl⟩:=hobj o' y' h2
  rw[SObj.purge_block] at h3 h4
  exact h.inj o o' x x' b hx hx' h3 h4
 ·intro o y b h1 h2
  obtain⟨x,hx,rfl⟩:=hobj o y h1
  rw[SObj.purge_block] at h2
  rw[SObj.purge_ro]
  exact h.own o x b hx h2

theorem Rep.purgeAll {w:World}{a:Act}{env:List D}{ρ:Rho}:∀(ds:List Nat) {σ:SState},Rep w0 X w a σ env ρ→Rep w0 X w a (purgeAll ds σ) env ρ
 | [],_,h=>h
 | d :: ds,_,h=>Rep.purgeAll ds (h.purge d)

theorem purgeAll_len:∀(ds:List Nat) (σ:SState),(purgeAll ds σ).tmps.length=σ.tmps.length∧(purgeAll ds σ).mem.length=σ.mem.length
 | [],_=>⟨rfl,rfl⟩
 | d :: ds,σ=>by
  have h1:=purgeAll_len ds (σ.purge d)
  have h2:(σ.purge d).tmps.length=σ.tmps.length∧(σ.purge d).mem.length=σ.mem.length:=by
   rw[SState.purge_def];split <;> simp
  exact⟨h1.1.trans h2.1,h1.2.trans h2.2⟩

theorem opsOk_spec {σ:SState}{ops:Array Oper}(h:opsOk σ ops=true):∀(j d:Nat),(ops[j]?).bind (fun(o:Oper)=>o.dst)=some d→d<σ.tmps.length:=by
 intro j d hj
 obtain⟨o,ho,hd⟩:=Option.bind_eq_some_iff.1 hj
 have:=Array.all_eq_true'.1 h o (Array.mem_of_getElem? ho)
 rw[hd] at this
 simpa using this

theorem drun_len {ops:Array Oper}:∀{l:List Oper} {σ σ':SState} {ix:Nat} {bs:List Bind} {rs:List Rec},drun P ops l σ ix=some (σ',bs,rs)→σ'.tmps.length=σ.tmps.length∧σ'.mem.length=σ.mem.length
 | [],σ,σ',ix,bs,rs,h=>by simp[drun] at h;rw[h.1];exact⟨rfl,rfl⟩
 | o :: l,σ,σ',ix,bs,rs,h=>by
  simp only[drun] at h
  split at h
  ·cases h
  ·split at h <;>
   ·obtain⟨⟨τ,bs',rs'⟩,h2,h3⟩:=Option.map_eq_some_iff.1 h
    cases h3
    have h1:=app_len σ o.dst (by assumption)
    have h2:=drun_len h2
    exact⟨h2.1.trans h1.1,h2.2.trans h1.2⟩

theorem dregion_some {ops:Array Oper}{σ σ':SState}{u:Nat}{bs:List Bind}(h:dregion P ops σ u=some (σ',bs)):∃R bs0 xs,drun P ops ops.toList σ u=some (σ',bs0,R)∧P.follows .mixedOrders=true∧((orderOk ops R σ=true∧extras P ops R σ=some xs)∨extras2 P ops R σ (u+bs0.length)=some xs)∧bs=bs0++xs.map .ev:=by
 unfold dregion at h
 split at h
 ·rename_i x hx
  split at h
  ·rename_i hc
   obtain⟨τ,bs',R⟩:=x
   obtain⟨xs,h1,h2⟩:=Option.map_eq_some_iff.1 h
   cases h2
   refine⟨R,bs',xs,hx,hc,?_,rfl⟩
   split at h1
   ·rename_i ho
    exact .inl ⟨ho,h1⟩
   ·exact .inr h1
  ·cases h
 ·cases h

theorem dregion_any {rd:Option Nat} {nd:Nat} {ops:Array Oper} {σ σ':SState} {u:Nat} {bs:List Bind} {a:Act} {w:World} {ρ:Rho} {env:List D} {Q:Exit→Act→World→Prop} (h:dregion P ops σ u=some (σ',bs)) (hr:Rep w0 X w a σ env ρ) (hm:σ.mem.length=σ.tmps.length)
  (hsz:∀(j d:Nat),(ops[j]?).bind (fun(o:Oper)=>o.dst)=some d→d<σ.tmps.length) (hb:BindsOk P env u bs) (hu:u+bs.length≤env.length) (hQ:∀a' w' ρ',Rep w0 X w' a' σ' env ρ'→Q .normal a' w'):wpAnyIn (FW rd) nd P .any ops Q ops.size (Array.replicate ops.size false) a { w with drawn:=w.drawn+1 }:=by
 obtain⟨R,bs0,xs,hd,hmix,hcase,rfl⟩:=dregion_some h
 have hb0:BindsOk P env u bs0:=fun i b hi=>hb i b (by rw[List.getElem?_append_left (List.getElem?_eq_some_iff.1 hi).1];exact hi)
 obtain⟨h1,h2⟩:=drun_spec (R:=R) (k:=0) hd rfl rfl (Nat.zero_le _) rfl hb0 (by simp at hu;omega)
 have hev:∀y,y∈xs→∃d,y.eval env=some d:=fun y hy=>by
  obtain⟨k,hk⟩:=List.mem_iff_getElem?.1 hy
  obtain⟨d,hd',_⟩:=hb (bs0.length+k) (.ev y) (by rw[List.getElem?_append_right (by omega)];simp[hk])
  exact⟨d,hd'⟩
 have hclosed:Closed ops (doneOf (Array.replicate ops.size false)):=by
  intro k o hk
  simp only[doneOf,Array.getD_eq_getD_getElem?,Array.getElem?_replicate] at hk
  split at hk <;> simp at hk
 have hdone:doneOf (Array.replicate ops.size false)=fun _=>false:=by
  funext j
  simp only[doneOf,Array.getD_eq_getD_getElem?,Array.getElem?_replicate]
  split <;> rfl
 rcases hcase with⟨hok,hex⟩ | hex
 ·refine wpAny_draw (w0:=w0) (X:=X) (env:=env) (R:=R) (σ:=σ) hok (fun i o ho=>?_) hm hsz (fun a' w' ρ' hr'=>hQ a' w' ρ' (by rw[←h1];exact hr')) _ _ _ _ ρ (by simp) hclosed (Nat.le_trans List.countP_le_length (by simp)) ?_
  ·obtain⟨r,f1,f2,f3,f4,f5⟩:=h2 i o (Nat.zero_le _) ho
   obtain⟨ys,g1,g2⟩:=extras_at hex i (Array.getElem?_eq_some_iff.1 ho).1
   exact⟨r,f1,f2,f3,f4,f5,ys,g1,fun y hy=>hev y (g2 y hy)⟩
  ·rw[hdone,runTo_below (i:=0) ops.size (Nat.zero_le _) fun _ _ _=>rfl]
   exact hr.drew
 ·obtain⟨cf,t,hok,hj,hal⟩:=extras2_some hex
  refine wpAny_draw2 (w0:=w0) (X:=X) (env:=env) (R:=R) (σ:=σ) (cf:=cf) (t:=t) hok (fun i o ho=>?_) hj hm hsz (fun a' w' ρ' hr'=>hQ a' w' ρ' (by rw[←h1];exact hr')) _ _ _ _ ρ (by simp) hclosed (Nat.le_trans List.countP_le_length (by simp)) ?_
  ·obtain⟨r,f1,f2,f3,f4,f5⟩:=h2 i o (Nat.zero_le _) ho
   obtain⟨ys,g1,g2⟩:=hal i (Array.getElem?_eq_some_iff.1 ho).1
   exact⟨r,f1,f2,f3,f4,f5,ys,g1,fun y hy=>hev y (g2 y hy)⟩
  ·rw[hdone,st2_none]
   exact hr.drew

theorem dregion_len {ops:Array Oper}{σ σ':SState}{u:Nat}{bs:List Bind}(h:dregion P ops σ u=some (σ',bs)):σ'.tmps.length=σ.tmps.length∧σ'.mem.length=σ.mem.length:=by
 obtain⟨R,bs0,xs,hd,_⟩:=dregion_some h
 exact drun_len hd

theorem regionT_sound {rd:Option Nat} {nd:Nat} {ops:Array Oper} {draw:Bool} {id:Nat} {σ:SState} {t:T} {k:SKont} {a:Act} {w:World} {ρ:Rho} {env:List D} {Q:Sig→Prop} {Q':Exit→Act→World→Prop} {N:Nat} (h:regionT P ops draw σ env.length k=some t) (hden:den P t env Q) (hr:Rep w0 X w a σ env ρ) (h1:σ.tmps.length=N) (h2:σ.mem.length=N)
  (hp:PanQ w0 X Q Q') (hQ:∀(σ':SState) (env':List D) (t':T) (a':Act) (w':World) (ρ':Rho),env <+: env'→k σ' env'.length=some t'→den P t' env' Q→Rep w0 X w' a' σ' env' ρ'→σ'.tmps.length=N→σ'.mem.length=N→Q' .normal a' w'):(Code.region id ops draw).wpIn (FW rd) nd P Q' a w:=by
 unfold regionT at h
 simp only at h
 split at h
 ·cases h
 ·rename_i hok
  simp only[Bool.not_eq_true',Bool.not_eq_false] at hok
  have hl:=purgeAll_len (sites ops) σ
  have hsz:=opsOk_spec hok
  have g1:(purgeAll (sites ops) σ).tmps.length=N:=hl.1.trans h1
  have g2:(purgeAll (sites ops) σ).mem.length=N:=hl.2.trans h2
  split at h
  ·rename_i hd
   rw[show draw=true from by simpa using hd]
   split at h
   ·rename_i x hx
    have hx:=dregionN_some hx
    obtain⟨t',hk,rfl⟩:=Option.map_eq_some_iff.1 h
    obtain⟨ds,hdl,hd',hbs⟩:=den_binds hden
    have hlen:=dregion_len hx
    obtain⟨_,_,_,_,hmix,_⟩:=dregion_some hx
    refine wpIn_region_any hmix (dregion_any hx ((hr.env (prefix_append env ds)).purgeAll _) (by rw[g1,g2]) hsz hbs (by simp[hdl]) fun a' w' ρ' hr'=>?_)
    exact hQ _ (env++ds) t' a' w' ρ' (prefix_append _ _) (by rw[List.length_append,hdl];exact hk) hd' hr' (hlen.1.trans g1) (hlen.2.trans g2)
   ·split at h
    ·rename_i hlast
     split at h
     ·rename_i o x ho hx
      split at h
      ·rename_i s hs
       split at h
       ·rename_i hdst
        obtain⟨t',ht',rfl⟩:=Option.map_eq_some_iff.1 h
        obtain⟨ds,hdl,hd',hbs⟩:=den_binds hden
        have hlen:=dregion_len hx
        obtain⟨_,_,_,_,hmix,_⟩:=dregion_some hx
        refine wpIn_region_any hmix ?_
        have hsz':∀(j d:Nat),(ops.pop[j]?).bind (fun(o:Oper)=>o.dst)=some d→d<(purgeAll (sites ops) σ).tmps.length:=fun j d hj=>hsz j d (by
         rw[Array.getElem?_pop] at hj
         split at hj
         ·exact hj
         ·cases hj)
        have hany:=dregion_any (rd:=rd) (nd:=nd) (Q:=fun e a w=>match e with | .normal=>wpOpIn (FW rd) nd P ops Q' (ops.size-1) (Q' .normal) a w | e=>Q' e a w) hx ((hr.env (prefix_append env ds)).purgeAll _) (by rw[g1,g2]) hsz' hbs (by simp[hdl]) (fun a' w' ρ' hr'=>by
         obtain⟨hw,hwp⟩:=sop_sound (rd:=rd) (nd:=nd) (ops:=ops) (env:=env++ds) hs (dstOk_defer hdst) (dstOk_spec hdst) (by rw[List.length_append,hdl];exact ht') hd' hr' hp (K:=Q' .normal) fun σ2 env2 t2 a2 w2 ρ2 hpre hk hd2 hr2 e1 e2=>hQ σ2 env2 t2 a2 w2 ρ2 ((prefix_append env ds).trans hpre) hk hd2 hr2 (e1.trans (hlen.1.trans g1)) (e2.trans (hlen.2.trans g2))
         show wpOpIn (FW rd) nd P ops Q' (ops.size-1) (Q' .normal) a' w'
         unfold wpOpIn
         rw[ho]
         simp only
         rw[if_pos hw]
         exact hwp)
        have:=wpAny_last (Q:=Q') hlast.1 hlast.2 ops.pop.size (Array.replicate ops.pop.size false) a _ (by simp) (by
         intro k ok hk
         simp only[doneOf,Array.getD_eq_getD_getElem?,Array.getElem?_replicate] at hk
         split at hk <;> simp at hk) hany
        have e1:ops.pop.size+1=ops.size:=by simp;omega
        have e2:(Array.replicate ops.pop.size false).push false=Array.replicate ops.size false:=by
         rw[←e1,Array.replicate_succ]
        rw[e1,e2] at this
        exact this
       ·cases h
      ·cases h
     ·cases h
    ·cases h
  ·rename_i hd
   rw[show draw=false from by simpa using hd]
   exact wpIn_region_list (segs_sound hp (fun j d hjd=>by rw[←g1];exact hsz j d hjd) h hden (hr.purgeAll _) g1 g2 hQ)

/-! ## the code -/

def Lens (N:Nat)(σ:SState):Prop:=σ.tmps.length=N∧σ.mem.length=N

def Post (P:Program)(B:World→Ent→Prop)(N:Nat)(RetOk:World→Act→D→Prop)(env:List D)(dp:Nat)(ex:List (Nat×Ex))(k:Kont)(Q:Sig→Prop):Exit→Act→World→Prop
 | .normal,a',w'=>∃w0 X env' σ' ρ' t',B w0 X∧env <+: env'∧k dp env'.length σ'=some t'∧den P t' env' Q∧Rep w0 X w' a' σ' env' ρ'∧Lens N σ'
 | .exit id,a',w'=>∃w0 X e ds ρ',B w0 X∧exOf ex id=some e∧Q (.jump e.lab ds)∧Rep w0 X w' a' e.tm (env.take e.base++ds) ρ'∧Lens N e.tm
 | .ret,a',w'=>∃d,Q (.ret d)∧RetOk w' a' d
 | .panic c,a',w'=>∃w0 X σ env ρ v d bs,B w0 X∧c=[{ v,recovered:=false }]∧Rep w0 X w' a' σ env ρ∧RdD w' ρ.S v d∧StOk w' ρ.S ρ.foot bs∧(∃cf x,σ.obj HID=some (.store cf x))∧∃kd,KeepRd w' ρ.S a' (keepOf σ) kd∧Q (.pan d (.st bs) (keepOf σ) kd)
 | _,_,_=>False

theorem take_prefix {env env':List D}(h:env <+: env'){b:Nat}(hb:b≤env.length):env'.take b=env.take b:=by
 obtain⟨r,rfl⟩:=h
 rw[List.take_append_of_le_length hb]

theorem take_self (env:List D):env.take env.length=env:=List.take_length

theorem Rep.retoks {w:World}{a:Act}{env:List D}:∀{ps:List (Nat×Nat)} {σ:SState} {ρ:Rho},Rep w0 X w a σ env ρ→∃ρ',Rep w0 X w a (retoks ps σ) env ρ'
 | [],_,ρ,h=>⟨ρ,h⟩
 | p :: ps,_,_,h=>by
  obtain⟨ρ1,h1⟩:=h.retok p.1 p.2
  exact Rep.retoks (ps:=ps) h1

theorem retoks_len:∀(ps:List (Nat×Nat)) (σ:SState),(retoks ps σ).tmps.length=σ.tmps.length∧(retoks ps σ).mem.length=σ.mem.length
 | [],_=>⟨rfl,rfl⟩
 | p :: ps,σ=>by
  have h1:=retoks_len ps (σ.retok p.1 p.2)
  have h2:=σ.retok_len p.1 p.2
  exact⟨h1.1.trans h2.1,h1.2.trans h2.2⟩

theorem Rep.undead {w:World}{a:Act}{σ:SState}{env:List D}{ρ:Rho}(h:Rep w0 X w a σ env ρ):Rep w0 X w a σ.undead env ρ:=by
 refine⟨by simpa[SState.undead_def] using h.size,fun t=>?_,h.objs,h.inj,h.own,h.cells,h.os,h.tape,h.output,h.grown,h.old,h.sub,h.new,h.nod,h.hold⟩
 have:=h.tmps t
 simp only[SState.tmp_def] at this ⊢
 simp only[SState.undead_def,List.getD_eq_getElem?_getD,List.getElem?_map] at this ⊢
 cases ht:σ.tmps[t]? with
 | none=>exact .junk
 | some c=>
  rw[ht] at this
  simp only[Option.getD_some,Option.map_some] at this ⊢
  unfold Go.Am.undead
  split
  ·split
   ·exact this
   ·obtain⟨es,h1,h2,_⟩:=this.own_inv
    exact .e h1 h2 fun _=>rfl
  ·exact this

theorem undead_len (σ:SState):σ.undead.tmps.length=σ.tmps.length∧σ.undead.mem.length=σ.mem.length:=by simp[SState.undead_def]

theorem matchR_rep {w:World}{a:Act}{env:List D}{ρ:Rho}{base:Nat}{tm σ:SState}{args:List E}{ds:List D}(h:Rep w0 X w a σ env ρ)(hb:base≤env.length)(hm:matchR base tm σ=some args)(hd:evalAll env args=some ds) :
  ∃ρ',Rep w0 X w a tm (cutEnv env base ds) ρ'∧σ.tmps.length=tm.tmps.length∧σ.mem.length=tm.mem.length:=by
 obtain⟨ρ',h'⟩:=h.undead.retoks (ps:=tokPairs tm.tmps σ.undead.tmps)
 obtain⟨h1,h2,h3⟩:=matchS_rep h' hb hm hd
 have hl:=retoks_len (tokPairs tm.tmps σ.undead.tmps) σ.undead
 have hu:=undead_len σ
 exact⟨ρ',h1,hu.1.symm.trans (hl.1.symm.trans h2),hu.2.symm.trans (hl.2.symm.trans h3)⟩

theorem Post.join {B:World→Ent→Prop} {N:Nat} {RetOk:World→Act→D→Prop} {env:List D} {dp dp' n:Nat} {ex:List (Nat×Ex)} {k:Kont} {Q:Sig→Prop} {tm:SState} {tr:T} (hk:k dp (env.length+n) tm=some tr) (hex:∀id e,exOf ex id=some e→e.lab<dp) {e:Exit} {a':Act} {w':World}
  (h:Post P B N RetOk env dp' ex (jumpTo dp env.length tm) (catchL dp (fun ds=>ds.length=n∧den P tr (env++ds) Q) Q) e a' w'):Post P B N RetOk env dp ex k Q e a' w':=by
 cases e with
 | normal=>
  obtain⟨w0,X,env',σ',ρ',t',hB,hpre,ht',hden,hrep,hlen⟩:=h
  obtain⟨args,hm,rfl⟩:=Option.map_eq_some_iff.1 ht'
  obtain⟨ds,hev,hQ⟩:=hden
  simp only[catchL,if_true] at hQ
  obtain⟨hdn,hd⟩:=hQ
  obtain⟨ρ2,hrep',h1,h2⟩:=matchR_rep hrep (List.IsPrefix.length_le hpre) hm hev
  rw[cutEnv,take_prefix hpre (Nat.le_refl _),take_self] at hrep'
  exact⟨w0,X,env++ds,tm,ρ2,tr,hB,prefix_append _ _,by rw[List.length_append,hdn];exact hk,hd,hrep',by rw[←h1];exact hlen.1,by rw[←h2];exact hlen.2⟩
 | exit id=>
  obtain⟨w0,X,e,ds,ρ',hB,he,hQ,hrep,hlen⟩:=h
  refine⟨w0,X,e,ds,ρ',hB,he,?_,hrep,hlen⟩
  simp only[catchL] at hQ
  rwa [if_neg (Nat.ne_of_lt (hex id e he))] at hQ
 | ret=>exact h
 | goto l=>exact h
 | panic c=>exact h
 | outgrown=>exact h

theorem joinAt_some {dp u:Nat}{m:SState×Nat}{body:Option T}{k:Kont}{t:T}(h:joinAt dp u m body k=some t):∃tb tr,body=some tb∧k dp (u+m.2) m.1=some tr∧t=.join dp m.2 tb tr:=by
 unfold joinAt at h
 split at h
 ·rename_i h1;cases h;exact⟨_,_,rfl,h1,rfl⟩
 ·cases h

theorem iteOf_some {x:E}{a b:Option T}{t:T}(h:iteOf x a b=some t):∃ta tb,a=some ta∧b=some tb∧t=.ite x ta tb:=by
 unfold iteOf at h
 split at h
 ·cases h;exact⟨_,_,rfl,rfl,rfl⟩
 ·cases h

theorem loopAt_some {dp u:Nat}{m:SState×Nat}{σ:SState}{body:Option T}{t:T}(h:loopAt dp u m σ body=some t):∃inits tb,matchR u m.1 σ=some inits∧body=some tb∧inits.length=m.2∧t=.loop dp inits tb:=by
 unfold loopAt at h
 split at h
 ·rename_i inits tb h1
  split at h
  ·rename_i h2;cases h;exact⟨inits,_,h1,rfl,h2,rfl⟩
  ·cases h
 ·cases h

theorem exOf_filter {id : Nat} : ∀ {ex : List (Nat × Ex)} {id' : Nat} {e : Ex}, exOf (ex.filter (·.1 != id)) id' = some e → id' ≠ id ∧ exOf ex id' = some e
  | [], _, _, h => by simp [exOf] at h
  | (i, x) :: r, id', e, h => by
    simp only [List.filter_cons] at h
    split at h
    · rename_i hi
      simp only [bne_iff_ne, ne_eq] at hi
      simp only [exOf] at h ⊢
      split at h
      · rename_i e1
        subst e1
        exact ⟨hi, by rw [if_pos rfl]; exact h⟩
      · rename_i e1
        rw [if_neg e1]
        exact exOf_filter h
    · rename_i hi
      simp only [bne_iff_ne, ne_eq, Decidable.not_not] at hi
      obtain ⟨h1, h2⟩ := exOf_filter h
      simp only [exOf]
      rw [if_neg (by rw [hi]; exact Ne.symm h1)]
      exact ⟨h1, h2⟩

theorem yspec_of_body {N:Nat} {dp:Nat} {asg body:Code} {tb:T} {σ:SState} {cf:StCfg} {env:List D} {ps:Array Tmp} {fn:FuncId} {dfb m:Nat} {a:Act} {w:World} {ρ:Rho} (hr:Rep w0 X w a σ env ρ) (hl:Lens N σ) (_:cf.ro=false)
  (hasg:∀(l:Nat) (w1:World) (X1:Ent) (σ1:SState) (env1:List D) (Q:Sig→Prop) (a1:Act) (w2:World) (ρ1:Rho),(∃r0,w1.heap[l]? = some (.loop r0)∧¬X1.may l∧¬X1.foot l)→σ1=roundState σ cf env.length ps.toList→env1.length=env.length+1+ps.size→den P tb env1 Q→Rep w1 X1 w2 a1 σ1 env1 ρ1→Lens N σ1→asg.wpIn (FW (some l)) 0 P (Post P (fun w X=>w=w1∧X=X1) N (fun _ _ _=>False) env1 (dp+1) [] (fun dp' u' σ'=>compile P (fun _=>none) body dp' u' σ' [] (roundEnd dp)) Q) a1 w2)
  (hbody:∀(l:Nat) (w1:World) (X1:Ent) (σ1:SState) (env1:List D) (t1:T) (Q:Sig→Prop) (a1:Act) (w2:World) (ρ1:Rho),(∃r0,w1.heap[l]? = some (.loop r0)∧¬X1.may l∧¬X1.foot l)→compile P (fun _=>none) body (dp+1) env1.length σ1 [] (roundEnd dp)=some t1→den P t1 env1 Q→Rep w1 X1 w2 a1 σ1 env1 ρ1→Lens N σ1→body.wpIn (FW (some l)) 0 P (Post P (fun w X=>w=w1∧X=X1) N (fun _ _ _=>False) env1 (dp+1) [] (roundEnd dp) Q) a1 w2)
  {cds:List D} (hcds:evalAll env ((dataSlots 0 σ.tmps).map (·.2))=some cds) {st1:D} {ds:List D} {st2:D} (hnc:noyls cds=true) (hn1:st1.noyl=true) (hn2:noyls ds=true) (hdl:ds.length=ps.size) (hden:den P tb (env++[st1]++ds) fun s=>s=.jump dp [st2]) :
  YSpec P (.yl m { state:=.ready,pending:=none,fn,tmps:=a.tmps,params:=ps,assign:=asg,body,defers:=dfb } ((dataSlots 0 σ.tmps).map (·.1)) cds) st1 ds st2:=by
 intro wS S foot bs vs yv hb hst hhold hfl hS hy hvl hrd
 subst hb
 have hn1:noyls bs=true:=by simpa[D.noyl] using hn1
 obtain⟨rec,hrec⟩:∃rec:Loop,rec={ state:=.ready,pending:=none,fn,tmps:=a.tmps,params:=ps,assign:=asg,body,defers:=dfb }:=⟨_,rfl⟩
 rw[←hrec] at hy
 generalize hsl:(dataSlots 0 σ.tmps).map (·.1)=sl at hy
 cases hy with
 | yl hh hcap=>
 obtain⟨hlm,hnf⟩:=hhold m rec hh
 have hlt:m<wS.heap.size:=(Array.getElem?_eq_some_iff.1 hlm).1
 refine⟨m,_,_,_,_,rfl,run_yield hlm (by rw[hvl,hdl,hrec]),?_⟩
 have hrbody:rec.body=body:=by rw[hrec]
 have hrass:rec.assign=asg:=by rw[hrec]
 have hrps:rec.params=ps:=by rw[hrec]
 have hrtm:rec.tmps=a.tmps:=by rw[hrec]
 rw[hrbody,hrass,hrps,hrtm]
 refine roundIn_of_wpIn (F:=Fence.wide) trivial ?_
 obtain⟨Sr,hSr⟩:∃Sr:Sets,Sr=S.under fun l=>if l=m then none else S.hold l:=⟨_,rfl⟩
 have hlike:S.Like Sr:=by rw[hSr];exact S.like_under _
 have hmem:∀b o,Sr b o↔S b o:=by intro b o;rw[hSr];exact Iff.rfl
 have hto:∀{v:Value} {d:D},d.noyl=true→RdD wS S v d→RdD wS Sr v d:=fun hn h=>h.like hlike hn
 have hst2:StOk wS Sr foot bs:=hst.to hlike (fun b o h=>(hmem b o).1 h) (fun b hb=>rfl) fun v d i x hi hp h=>hto (noyl_part hn1 hi hp) h
 have hcaps:∀(t:Nat) (x:E) (b:Bool),σ.tmps[t]? = some (.e x b)→∃d,x.eval env=some d∧RdD wS Sr (a.tmps.getD t undef) d∧(b=true→d.one=true):=by
  intro t x b ht
  have h0:=hr.tmps t
  rw[SState.tmp_def,List.getD_eq_getElem?_getD,ht] at h0
  obtain⟨d,hd,_,h1⟩:=SRd.e_inv (x:=x) (s:=b) h0
  obtain⟨i,hi⟩:=dataSlots_mem (k:=0) ht
  rw[Nat.zero_add] at hi
  obtain⟨d',hd',hx'⟩:=evalAll_get (i:=i) (x:=x) hcds (by simp[hi])
  rw[hd] at hx'
  cases hx'
  have:=hcap i t d (by rw[←hsl];simp[hi]) hd'
  rw[hrtm] at this
  exact⟨d,hd,hto (noyls_get hnc hd') this,h1⟩
 obtain⟨ρr,hρr⟩:∃ρr:Rho,ρr={ blk:=fun _=>0,val:=fun _=>undef,S:=Sr,foot:=foot }:=⟨_,rfl⟩
 have hSρ:ρr.S=Sr:=by rw[hρr]
 have henv:env <+: env++[.st bs]++ds:=by rw[List.append_assoc];exact prefix_append _ _
 have hargs:=putArgs_rd (w:=wS) (ρ:=ρr) (env:=env++[.st bs]++ds) (ps:=ps.toList) (vs:=vs.toList) (u:=env.length+1) (tm:=a.tmps) (svs:=σ.tmps.map SV.data) (by simp[hr.size]) (by simp[hvl,hdl]) (fun t=>by
  rw[List.getD_eq_getElem?_getD,List.getElem?_map]
  cases ht:σ.tmps[t]? with
  | none=>exact .junk
  | some sv=>
   simp only[Option.map_some,Option.getD_some]
   cases sv with
   | e x b=>
    obtain⟨d,h1,h2,h3⟩:=hcaps t x b ht
    exact .e (E.eval_mono henv _ h1) (by rw[hSρ];exact h2) h3
   | _=>exact .junk) (fun i v hi=>by
  have hlt:i<ds.length:=by
   have:=(List.getElem?_eq_some_iff.1 hi).1
   simp at this
   omega
  refine⟨ds[i],?_,?_⟩
  ·rw[List.getElem?_append_right (by simp),List.length_append]
   simp[show env.length+1+i-(env.length+1)=i from by omega]
  ·rw[hSρ]
   exact hto (noyls_get hn2 (List.getElem?_eq_getElem hlt)) (hrd i v _ (by simpa using hi) (List.getElem?_eq_getElem hlt)))
 have hfold:(ps.zip vs).foldl (fun tmps (x:Tmp×Value)=>tmps.setIfInBounds x.1 x.2) a.tmps=(ps.toList.zip vs.toList).foldl (fun tmps (x:Tmp×Value)=>tmps.setIfInBounds x.1 x.2) a.tmps:=by
  rw[←Array.foldl_toList,Array.toList_zip]
 have hround:Rep wS { may:=foot,S:=Sr,foot:=foot,dfs:=[] } wS { tmps:=(ps.zip vs).foldl (fun tmps (x:Tmp×Value)=>tmps.setIfInBounds x.1 x.2) a.tmps,defers:=[] } (roundState σ cf env.length ps.toList) (env++[.st bs]++ds) ρr:=by
  have hobj:∀o x,(roundState σ cf env.length ps.toList).obj o=some x→o=HID∧x=.store cf (.sym env.length):=by
   intro o x hx
   simp only[SState.obj_def,roundState,List.getD_eq_getElem?_getD,List.getElem?_replicate] at hx
   split at hx
   ·cases hx;exact⟨by assumption,rfl⟩
   ·split at hx <;> simp at hx
  refine⟨by rw[hfold];exact hargs.1,fun t=>by rw[hfold,SState.tmp_def];exact hargs.2 t,fun o x hx=>?_,fun o o' x x' b hx hx' _ _=>?_,fun o x b hx hb=>?_,fun b o hs=>?_,rfl,.refl _,rfl,Nat.le_refl _,fun _ _ _=>rfl,by rw[hSρ];exact Sets.le_refl _,fun b o hs=>.inl (by rw[hSρ] at hs;exact hs),rfl,fun l rec' hl'=>?_⟩
  ·obtain⟨rfl,rfl⟩:=hobj o x hx
   refine⟨bs,?_,by rw[hρr];exact hst2,rfl⟩
   simp only[E.eval]
   rw[List.append_assoc,List.getElem?_append_right (Nat.le_refl _)]
   simp
  ·obtain⟨rfl,_⟩:=hobj o x hx
   obtain⟨rfl,_⟩:=hobj o' x' hx'
   rfl
  ·obtain⟨rfl,rfl⟩:=hobj o x hx
   have hb:foot b:=by rw[hρr] at hb;exact hb
   exact⟨.inr (.inr hb),hfl b hb⟩
  ·rw[hSρ] at hs
   exact hS b o ((hmem b o).1 hs)
  ·have hl2:Sr.hold l=some rec':=hl'
   rw[hSr] at hl2
   simp only[Sets.under] at hl2
   split at hl2
   ·cases hl2
   ·rename_i hne
    obtain⟨g1,g2⟩:=hhold l rec' hl2
    exact⟨g1,g2,g2⟩
 have hlens:Lens N (roundState σ cf env.length ps.toList):=⟨by simp[roundState,putArgs_length,hl.1],by simp[roundState,hl.2]⟩
 refine wpIn_mono (hasg m wS _ _ (env++[.st bs]++ds) _ _ wS ρr ⟨_,hlm,hnf,hnf⟩ rfl (by simp[hdl];omega) hden hround hlens) fun e a1 w1 hp=>?_
 cases e with
 | exit id=>obtain⟨_,_,e,_,_,_,he,_⟩:=hp;simp[exOf] at he
 | ret=>obtain⟨_,_,hf⟩:=hp;exact hf.elim
 | goto l=>exact hp.elim
 | panic c=>obtain⟨_,_,_,_,_,_,_,_,_,_,_,_,_,_,_,_,hq⟩:=hp;cases hq
 | outgrown=>exact hp.elim
 | normal=>
 obtain⟨wB,XB,envB,σB,ρB,tB,⟨hwB,hXB⟩,hpreB,hkB,hdenB,hrepB,hlensB⟩:=hp
 rw[hwB,hXB] at hrepB
 have hSrm:Sr.hold m=none:=by rw[hSr];simp[Sets.under]
 obtain⟨hm1,hrepB⟩:=hrepB.putBoth (r':={ rec with state:=.busy }) hlm hnf hnf hSrm
 refine⟨_,run_beginRound hm1 (by rw[hrec]),?_⟩
 have hk2:Keeps S wS (wS.putObj m (.loop { rec with state:=.busy })):=Keeps.putObj hlm _
 generalize hw2:wS.putObj m (.loop { rec with state:=.busy })=w2 at hrepB hk2
 have hm2:w2.heap[m]? = some (.loop { rec with state:=.busy }):=by rw[←hw2];exact World.putObj_heap_same hlt
 have ho2:∀b,b≠m→w2.heap[b]? = wS.heap[b]?:=fun b hb=>by rw[←hw2];exact World.putObj_heap_other hb
 have hs2:w2.heap.size=wS.heap.size:=by rw[←hw2];simp
 have e2:w2.os=wS.os∧TL w2 wS∧w2.output=wS.output:=by rw[←hw2];exact⟨rfl,⟨rfl,Nat.le_refl _⟩,rfl⟩
 refine wpIn_mono (hbody m w2 _ _ envB _ _ _ _ ρB ⟨_,hm2,hnf,hnf⟩ hkB hdenB hrepB hlensB) fun e a3 w3 hp=>?_
 cases e with
 | normal=>
  obtain⟨w0',X',env',σ',ρ',t',⟨hw0,hX0⟩,hpre,hk,hden',hrep',hlens'⟩:=hp
  rw[hw0,hX0] at hrep'
  unfold roundEnd at hk
  split at hk
  ·rename_i cf' h' hhs
   cases hk
   obtain⟨ds',hev,hq⟩:=hden'
   cases hq
   have hob:σ'.obj HID=some (.store cf' h'):=by rw[SState.obj_def,if_pos rfl];exact hhs
   obtain⟨bs',hb1,hst',_⟩:=hrep'.objs _ _ hob
   simp only[evalAll,hb1,Option.bind_some,Option.map_some,Option.some.injEq,List.cons.injEq,and_true] at hev
   subst hev
   have hleft:=left_of_rep hrep' hst' ⟨cf',h',hob⟩ fun _ h=>h
   have hltm:m<w2.heap.size:=by rw[hs2];exact hlt
   have hm3:w3.heap[m]? = some (.loop { rec with state:=.busy }):=(hleft.old m hltm hnf).trans hm2
   have hend:=run_endRound (P:=P) none hm3
   have hrec4:({ rec with state:=.busy }:Loop)={ { rec with state:=.busy } with state:=.busy }:=rfl
   refine⟨_,_,hend,ρ'.S.under S.hold,ρ'.foot,bs',rfl,rfl,?_⟩
   have hloop:({ ({ rec with state:=LoopState.busy }:Loop) with state:=if(none:Option Code).isNone then LoopState.ready else LoopState.done,pending:=none }:Loop)=rec:=by rw[hrec];rfl
   rw[hloop]
   have hk34:∀(T:Sets),Keeps T w3 (w3.putObj m (.loop rec)):=fun T=>Keeps.putObj hm3 rec
   have hlt3:m<w3.heap.size:=(Array.getElem?_eq_some_iff.1 hm3).1
   have hnf3:¬ρ'.foot m:=fun hf=>by
    rcases(hleft.ft m hf).1 with g | g
    ·exact hnf g
    ·omega
   have hho:ρ'.S.hold=Sr.hold:=hleft.le.hold
   refine⟨hst'.to (ρ'.S.like_under _) (fun _ _ h=>h) (fun b hb=>World.putObj_heap_other fun e=>hnf3 (e ▸ hb)) (fun v d i x hi hp h=>(h.keep (hk34 _) (Sets.le_refl _)).rehold (ρ'.S.like_under _) fun l r hlr=>?_),?_,?_,?_,?_,?_,?_,?_,?_,?_,?_⟩
   ·rw[hho,hSr] at hlr
    simp only[Sets.under] at hlr ⊢
    split at hlr
    ·cases hlr
    ·exact hlr
   ·intro b o hs
    rw[hk34 S b o hs]
    refine Eq.trans (World.cell?_of_block (a:=⟨b,o,none⟩) (hleft.old b (by rw[hs2];exact hS b o hs) fun hf=>hst.nos b o hf hs)) (hk2 b o hs)
   ·refine⟨fun b o hs=>hleft.le.mem b o ((hmem b o).2 hs),?_,fun i hi=>?_,fun i hi=>?_,rfl,fun i hi=>(hleft.le.lrec i (by rw[←hlike.n];exact hi)).trans (hlike.lrec i)⟩
    ·rw[hlike.n];exact hleft.le.n
    ·exact(hleft.le.loc i (by rw[←hlike.n];exact hi)).trans (hlike.loc i)
    ·exact(hleft.le.cap i (by rw[←hlike.n];exact hi)).trans (hlike.cap i)
   ·exact hleft.os.trans e2.1
   ·exact⟨hleft.tape.tape.trans e2.2.1.tape,Nat.le_trans e2.2.1.dr hleft.tape.dr⟩
   ·exact hleft.output.trans e2.2.2
   ·simp only[World.putObj_size];rw[←hs2];exact hleft.size
   ·intro b hb hnb
    by_cases e:b=m
    ·subst e;rw[World.putObj_heap_same hlt3,hlm]
    ·rw[World.putObj_heap_other e,hleft.old b (by rw[hs2];exact hb) hnb,ho2 b e]
   ·intro b hb
    have:=hleft.ft b hb
    rw[hs2] at this
    simp only[World.putObj_size]
    exact this
   ·intro b o hs
    have:=hleft.new b o hs
    rw[hs2] at this
    exact this.imp_left fun h=>(hmem b o).1 h
   ·intro b o hs
    simp only[World.putObj_size]
    exact hleft.lt b o hs
  ·cases hk
 | exit id=>obtain⟨_,_,e,_,_,_,he,_⟩:=hp;simp[exOf] at he
 | ret=>obtain⟨_,_,hf⟩:=hp;exact hf.elim
 | goto l=>exact hp.elim
 | panic c=>obtain⟨_,_,_,_,_,_,_,_,_,_,_,_,_,_,_,_,hq⟩:=hp;cases hq
 | outgrown=>exact hp.elim

def REnd (w1:World)(X1:Ent)(w':World)(st:D):Prop:=∃(a:Act) (σ:SState) (env:List D) (ρ:Rho) (bs:List D),Rep w1 X1 w' a σ env ρ∧(∃cf x,σ.obj HID=some (.store cf x))∧st=.st bs∧StOk w' ρ.S ρ.foot bs

def REndQ (w1:World)(X1:Ent)(q:Option Nat)(b:Bool)(st:D):Exit→Act→World→Prop
 | .normal,_,w'=>b=true∧REnd w1 X1 w' st
 | .ret,_,w'=>b=false∧q=none∧REnd w1 X1 w' st
 | .exit id,_,w'=>b=false∧q=some id∧REnd w1 X1 w' st
 | _,_,_=>False

theorem rendQ_of_post {w1:World} {X1:Ent} {N dp base:Nat} {σ:SState} {cf:StCfg} {q:Option Nat} {env1:List D} {b:Bool} {st:D} (hb:base≤env1.length) {e:Exit} {a':Act} {w':World}
  (h:Post P (fun w X=>w=w1∧X=X1) N (fun w' a d=>∃σ env ρ x,Rep w1 X1 w' a σ env ρ∧roundRet q σ=some x∧x.eval env=some d) env1 (dp+2) (roundEx dp base σ cf q) (roundEnd dp) (fun s=>s=rsig dp q b st) e a' w'):REndQ w1 X1 q b st e a' w':=by
 have ofs:∀{a:Act} {σ:SState} {env:List D} {ρ:Rho} {cf:StCfg} {x:E} {d:D},Rep w1 X1 w' a σ env ρ→σ.obj HID=some (.store cf x)→x.eval env=some d→REnd w1 X1 w' d:=by
  intro a σ env ρ cf x d hr ho hx
  obtain⟨bs,h1,h2,_⟩:=hr.objs _ _ ho
  rw[hx] at h1
  cases h1
  exact⟨a,σ,env,ρ,bs,hr,⟨cf,x,ho⟩,rfl,h2⟩
 cases e with
 | normal=>
  obtain⟨w0',X',env',σ',ρ',t',⟨hw0,hX0⟩,hpre,hk,hden',hrep',hlens'⟩:=h
  rw[hw0,hX0] at hrep'
  unfold roundEnd at hk
  split at hk
  ·rename_i cf' h' hhs
   cases hk
   obtain⟨ds',hev,hq⟩:=hden'
   obtain⟨d,hd,rfl⟩:∃d,h'.eval env'=some d∧ds'=[d]:=by
    simp only[evalAll,Option.bind_eq_some_iff,Option.map_eq_some_iff,Option.bind_some,Option.some.injEq] at hev
    obtain⟨d,h1,r,rfl,rfl⟩:=hev
    exact⟨d,h1,rfl⟩
   cases b with
   | true=>cases hq;exact⟨rfl,ofs hrep' (by rw[SState.obj_def,if_pos rfl];exact hhs) hd⟩
   | false=>
    cases q with
    | none=>cases hq
    | some id=>
     simp only[rsig,cond_false,Sig.jump.injEq] at hq
     omega
  ·cases hk
 | ret=>
  obtain⟨d,hq,σ',env',ρ',x,hrep',hx,hd⟩:=h
  cases b with
  | true=>cases hq
  | false=>
   cases q with
   | some id=>cases hq
   | none=>
    cases hq
    refine⟨rfl,rfl,?_⟩
    unfold roundRet at hx
    split at hx
    ·rename_i cf' h' _ hhs
     cases hx
     exact ofs hrep' (by rw[SState.obj_def,if_pos rfl];exact hhs) hd
    ·cases hx
 | exit id=>
  obtain⟨w0',X',e,ds',ρ',⟨hw0,hX0⟩,he,hq,hrep',hlens'⟩:=h
  rw[hw0,hX0] at hrep'
  cases q with
  | none=>simp[roundEx,exOf] at he
  | some id'=>
   simp only[roundEx,exOf] at he
   split at he
   ·rename_i e1
    cases he
    subst e1
    cases b with
    | true=>
     simp only[rsig,cond_true,Sig.jump.injEq] at hq
     omega
    | false=>
     cases hq
     refine⟨rfl,rfl,ofs hrep' (by rw[SState.obj_def,if_pos rfl]) ?_⟩
     simp only[E.eval]
     rw[List.getElem?_append_right (by simp;omega)]
     simp[Nat.min_eq_left hb]
   ·cases he
 | goto l=>exact h.elim
 | panic c=>obtain⟨_,_,_,_,_,_,_,_,_,_,_,_,_,_,_,_,hq⟩:=h;cases b <;> cases q <;> cases hq
 | outgrown=>exact h.elim

theorem yspecx_of_body {N:Nat} {dp:Nat} {q:Option Nat} {asg body:Code} {tb:T} {σ:SState} {cf:StCfg} {env:List D} {ps:Array Tmp} {fn:FuncId} {dfb:Nat} {a:Act} {w:World} {ρ:Rho} (hr:Rep w0 X w a σ env ρ) (hl:Lens N σ)
  (hasg:∀(l:Nat) (w1:World) (X1:Ent) (σ1:SState) (env1:List D) (Q:Sig→Prop) (a1:Act) (w2:World) (ρ1:Rho),(∃r0,w1.heap[l]? = some (.loop r0)∧¬X1.may l∧¬X1.foot l)→σ1=roundState σ cf env.length ps.toList→env1.length=env.length+1+ps.size→den P tb env1 Q→Rep w1 X1 w2 a1 σ1 env1 ρ1→Lens N σ1→asg.wpIn (FW (some l)) 0 P (Post P (fun w X=>w=w1∧X=X1) N (fun _ _ _=>False) env1 (dp+2) [] (fun dp' u' σ'=>compile P (roundRet q) body dp' u' σ' (roundEx dp (env.length+1+ps.size) σ cf q) (roundEnd dp)) Q) a1 w2)
  (hbody:∀(l:Nat) (w1:World) (X1:Ent) (σ1:SState) (env1:List D) (t1:T) (b:Bool) (st2:D) (a1:Act) (w2:World) (ρ1:Rho),(∃r0,w1.heap[l]? = some (.loop r0)∧¬X1.may l∧¬X1.foot l)→compile P (roundRet q) body (dp+2) env1.length σ1 (roundEx dp (env.length+1+ps.size) σ cf q) (roundEnd dp)=some t1→env.length+1+ps.size≤env1.length→den P t1 env1 (fun s=>s=rsig dp q b st2)→Rep w1 X1 w2 a1 σ1 env1 ρ1→Lens N σ1→body.wpIn (FW (some l)) 0 P (REndQ w1 X1 q b st2) a1 w2)
  {cds:List D} (hcds:evalAll env ((dataSlots 0 σ.tmps).map (·.2))=some cds) {i:Nat} {bs1 bs2 ds:List D} {b:Bool} (hlp:bs1[i]? = some (.lpb false)) (hdl:ds.length=ps.size) (hb2:bs2[i]? = some (.tup [])) (hden:den P tb (env++[.st (bs1.set i (.tup []))]++ds) fun s=>s=rsig dp q b (.st bs2)) :
  YSpecB P (.ylb i ({ state:=.ready,pending:=none,fn,tmps:=a.tmps,params:=ps,assign:=asg,body,defers:=dfb },qCode q) ((dataSlots 0 σ.tmps).map (·.1)) cds) (.st bs1) ds b (.st (bs2.set i (.lpb !b))):=by
 intro wS S foot bs vs yv hb hst hhold hfl hS hy hvl hrd
 cases hb
 obtain⟨rec,hrec⟩:∃rec:Loop,rec={ state:=.ready,pending:=none,fn,tmps:=a.tmps,params:=ps,assign:=asg,body,defers:=dfb }:=⟨_,rfl⟩
 rw[←hrec] at hy
 generalize hsl:(dataSlots 0 σ.tmps).map (·.1)=sl at hy
 cases hy with
 | ylb hi hlr hcap=>
 obtain⟨hfm,hlm,hnm⟩:=hst.its i _ hlp rfl
 simp only[ItOk,hlr,cond_false] at hlm
 generalize hm:S.loc i=m at hfm hlm hnm
 have hlt:m<wS.heap.size:=(Array.getElem?_eq_some_iff.1 hlm).1
 refine⟨m,_,_,_,_,rfl,run_yield hlm (by rw[hvl,hdl,hrec]),?_⟩
 have hrbody:rec.body=body:=by rw[hrec]
 have hrass:rec.assign=asg:=by rw[hrec]
 have hrps:rec.params=ps:=by rw[hrec]
 have hrtm:rec.tmps=a.tmps:=by rw[hrec]
 rw[hrbody,hrass,hrps,hrtm]
 refine roundIn_of_wpIn (F:=Fence.wide) trivial ?_
 have hst2:StOk wS S (fun b=>foot b∧b≠m) (bs1.set i (.tup [])):=hm ▸ hst.drop hlp rfl
 obtain⟨footr,hfr⟩:∃footr:Nat→Prop,footr=fun b=>foot b∧b≠m:=⟨_,rfl⟩
 rw[←hfr] at hst2
 have hfr1:∀b,footr b→foot b:=fun b hb=>by rw[hfr] at hb;exact hb.1
 have hnf:¬footr m:=fun hb=>by rw[hfr] at hb;exact hb.2 rfl
 have hhm:S.hold m=none:=by
  cases hx:S.hold m with
  | none=>rfl
  | some r=>exact absurd hfm (hhold m r hx).2
 have hcaps:∀(t:Nat) (x:E) (b:Bool),σ.tmps[t]? = some (.e x b)→∃d,x.eval env=some d∧RdD wS S (a.tmps.getD t undef) d∧(b=true→d.one=true):=by
  intro t x b ht
  have h0:=hr.tmps t
  rw[SState.tmp_def,List.getD_eq_getElem?_getD,ht] at h0
  obtain⟨d,hd,_,h1⟩:=SRd.e_inv (x:=x) (s:=b) h0
  obtain⟨i,hi⟩:=dataSlots_mem (k:=0) ht
  rw[Nat.zero_add] at hi
  obtain⟨d',hd',hx'⟩:=evalAll_get (i:=i) (x:=x) hcds (by simp[hi])
  rw[hd] at hx'
  cases hx'
  have:=hcap i t d (by rw[←hsl];simp[hi]) hd'
  rw[hrtm] at this
  exact⟨d,hd,this,h1⟩
 obtain⟨ρr,hρr⟩:∃ρr:Rho,ρr={ blk:=fun _=>0,val:=fun _=>undef,S:=S,foot:=footr }:=⟨_,rfl⟩
 have hSρ:ρr.S=S:=by rw[hρr]
 have henv:env <+: env++[.st (bs1.set i (.tup []))]++ds:=by rw[List.append_assoc];exact prefix_append _ _
 have hargs:=putArgs_rd (w:=wS) (ρ:=ρr) (env:=env++[.st (bs1.set i (.tup []))]++ds) (ps:=ps.toList) (vs:=vs.toList) (u:=env.length+1) (tm:=a.tmps) (svs:=σ.tmps.map SV.data) (by simp[hr.size]) (by simp[hvl,hdl]) (fun t=>by
  rw[List.getD_eq_getElem?_getD,List.getElem?_map]
  cases ht:σ.tmps[t]? with
  | none=>exact .junk
  | some sv=>
   simp only[Option.map_some,Option.getD_some]
   cases sv with
   | e x b=>
    obtain⟨d,h1,h2,h3⟩:=hcaps t x b ht
    exact .e (E.eval_mono henv _ h1) (by rw[hSρ];exact h2) h3
   | _=>exact .junk) (fun j v hj=>by
  have hlt:j<ds.length:=by
   have:=(List.getElem?_eq_some_iff.1 hj).1
   simp at this
   omega
  refine⟨ds[j],?_,?_⟩
  ·rw[List.getElem?_append_right (by simp),List.length_append]
   simp[show env.length+1+j-(env.length+1)=j from by omega]
  ·rw[hSρ]
   exact hrd j v _ (by simpa using hj) (List.getElem?_eq_getElem hlt))
 have hfold:(ps.zip vs).foldl (fun tmps (x:Tmp×Value)=>tmps.setIfInBounds x.1 x.2) a.tmps=(ps.toList.zip vs.toList).foldl (fun tmps (x:Tmp×Value)=>tmps.setIfInBounds x.1 x.2) a.tmps:=by
  rw[←Array.foldl_toList,Array.toList_zip]
 have hround:Rep wS { may:=footr,S:=S,foot:=footr,dfs:=[] } wS { tmps:=(ps.zip vs).foldl (fun tmps (x:Tmp×Value)=>tmps.setIfInBounds x.1 x.2) a.tmps,defers:=[] } (roundState σ cf env.length ps.toList) (env++[.st (bs1.set i (.tup []))]++ds) ρr:=by
  have hobj:∀o x,(roundState σ cf env.length ps.toList).obj o=some x→o=HID∧x=.store cf (.sym env.length):=by
   intro o x hx
   simp only[SState.obj_def,roundState,List.getD_eq_getElem?_getD,List.getElem?_replicate] at hx
   split at hx
   ·cases hx;exact⟨by assumption,rfl⟩
   ·split at hx <;> simp at hx
  refine⟨by rw[hfold];exact hargs.1,fun t=>by rw[hfold,SState.tmp_def];exact hargs.2 t,fun o x hx=>?_,fun o o' x x' b hx hx' _ _=>?_,fun o x b hx hb=>?_,fun b o hs=>?_,rfl,.refl _,rfl,Nat.le_refl _,fun _ _ _=>rfl,by rw[hSρ];exact Sets.le_refl _,fun b o hs=>.inl (by rw[hSρ] at hs;exact hs),rfl,fun l rec' hl'=>?_⟩
  ·obtain⟨rfl,rfl⟩:=hobj o x hx
   refine⟨bs1.set i (.tup []),?_,by rw[hρr];exact hst2,rfl⟩
   simp only[E.eval]
   rw[List.append_assoc,List.getElem?_append_right (Nat.le_refl _)]
   simp
  ·obtain⟨rfl,_⟩:=hobj o x hx
   obtain⟨rfl,_⟩:=hobj o' x' hx'
   rfl
  ·obtain⟨rfl,rfl⟩:=hobj o x hx
   have hb:footr b:=by rw[hρr] at hb;exact hb
   exact⟨.inr (.inr hb),hfl b (hfr1 b hb)⟩
  ·rw[hSρ] at hs
   exact hS b o hs
  ·obtain⟨g1,g2⟩:=hhold l rec' hl'
   exact⟨g1,fun h=>g2 (hfr1 _ h),fun h=>g2 (hfr1 _ h)⟩
 have hlens:Lens N (roundState σ cf env.length ps.toList):=⟨by simp[roundState,putArgs_length,hl.1],by simp[roundState,hl.2]⟩
 refine wpIn_mono (hasg m wS _ _ (env++[.st (bs1.set i (.tup []))]++ds) _ _ wS ρr ⟨_,hlm,hnf,hnf⟩ rfl (by simp[hdl];omega) hden hround hlens) fun e a1 w1 hp=>?_
 cases e with
 | exit id=>obtain⟨_,_,e,_,_,_,he,_⟩:=hp;simp[exOf] at he
 | ret=>obtain⟨_,_,hf⟩:=hp;exact hf.elim
 | goto l=>exact hp.elim
 | panic c=>obtain⟨_,_,_,_,_,_,_,_,_,_,_,_,_,_,_,_,hq⟩:=hp;cases b <;> cases q <;> cases hq
 | outgrown=>exact hp.elim
 | normal=>
 obtain⟨wB,XB,envB,σB,ρB,tB,⟨hwB,hXB⟩,hpreB,hkB,hdenB,hrepB,hlensB⟩:=hp
 rw[hwB,hXB] at hrepB
 obtain⟨hm1,hrepB⟩:=hrepB.putBoth (r':={ rec with state:=.busy }) hlm hnf hnf hhm
 refine⟨_,run_beginRound hm1 (by rw[hrec]),?_⟩
 have hk2:Keeps S wS (wS.putObj m (.loop { rec with state:=.busy })):=Keeps.putObj hlm _
 generalize hw2:wS.putObj m (.loop { rec with state:=.busy })=w2 at hrepB hk2
 have hm2:w2.heap[m]? = some (.loop { rec with state:=.busy }):=by rw[←hw2];exact World.putObj_heap_same hlt
 have ho2:∀b,b≠m→w2.heap[b]? = wS.heap[b]?:=fun b hb=>by rw[←hw2];exact World.putObj_heap_other hb
 have hs2:w2.heap.size=wS.heap.size:=by rw[←hw2];simp
 have e2:w2.os=wS.os∧TL w2 wS∧w2.output=wS.output:=by rw[←hw2];exact⟨rfl,⟨rfl,Nat.le_refl _⟩,rfl⟩
 have hlB:env.length+1+ps.size≤envB.length:=by
  have:=List.IsPrefix.length_le hpreB
  simp[hdl] at this
  omega
 have hltm:m<w2.heap.size:=by rw[hs2];exact hlt
 have fin:∀(w3:World) (jump:Option Code),REnd w2 { may:=footr,S:=S,foot:=footr,dfs:=[] } w3 (.st bs2)→({ ({ rec with state:=LoopState.busy }:Loop) with state:=if jump.isNone then LoopState.ready else LoopState.done,pending:=jump }:Loop)=(bif !b then { rec with state:=.done,pending:=some (qCode q) } else rec)→jump.isNone=b →
   ∃v w',(Instr.endRound m jump).run P w3=.ok v w'∧∃(S':Sets) (foot':Nat→Prop) (bs':List D),(Ending.returned v)=.returned (.bool b)∧D.st (bs2.set i (.lpb !b))=.st bs'∧StOk w' S' foot' bs'∧Keeps S wS w'∧S≤S'∧w'.os=wS.os∧TL w' wS∧w'.output=wS.output∧wS.heap.size≤w'.heap.size ∧
    (∀b,b<wS.heap.size→¬foot b→w'.heap[b]? = wS.heap[b]?)∧(∀b,foot' b→(foot b∨wS.heap.size≤b)∧b<w'.heap.size)∧(∀b o,S' b o→S b o∨foot b∨wS.heap.size≤b)∧∀b o,S' b o→b<w'.heap.size:=by
  rintro w3 jump ⟨a',σ',env',ρ',bs',hrep',hob',hbs,hst'⟩ hloop hjb
  cases hbs
  have hleft:=left_of_rep hrep' hst' hob' fun _ h=>h
  have hm3:w3.heap[m]? = some (.loop { rec with state:=.busy }):=(hleft.old m hltm hnf).trans hm2
  have hend:=run_endRound (P:=P) jump hm3
  rw[hloop] at hend
  have hlt3:m<w3.heap.size:=(Array.getElem?_eq_some_iff.1 hm3).1
  have hnf3:¬ρ'.foot m:=fun hf=>by
   rcases(hleft.ft m hf).1 with g | g
   ·exact hnf g
   ·omega
  have hloc:ρ'.S.loc i=m:=(hleft.le.loc i hi).trans hm
  obtain⟨r4,hr4⟩:∃r4:Loop,r4=(bif !b then { rec with state:=.done,pending:=some (qCode q) } else rec):=⟨_,rfl⟩
  rw[←hr4] at hend
  have hk34:∀(T:Sets),Keeps T w3 (w3.putObj m (.loop r4)):=fun T=>Keeps.putObj hm3 r4
  have hnm3:∀off,¬ρ'.S m off:=fun off hs=>by
   rcases hleft.new m off hs with g | g | g
   ·exact hnm off g
   ·exact hnf g
   ·omega
  have hrv:=hst'.revive (w':=w3.putObj m (.loop r4)) (z:=.lpb !b) hb2 rfl (by
   rw[hloc,World.putObj_heap_same hlt3,hr4]
   simp only[ItOk,(hleft.le.lrec i hi).trans hlr]) (by rw[hloc];exact hnf3) (by rw[hloc];exact hnm3) (hk34 _) fun b hb=>World.putObj_heap_other fun e=>hnf3 (e ▸ hb)
  refine⟨_,_,hend,ρ'.S,_,_,by rw[hjb],rfl,hrv,?_,hleft.le,hleft.os.trans e2.1,⟨hleft.tape.tape.trans e2.2.1.tape,Nat.le_trans e2.2.1.dr hleft.tape.dr⟩,hleft.output.trans e2.2.2,?_,?_,?_,?_,?_⟩
  ·intro b o hs
   rw[hk34 S b o hs]
   exact Eq.trans (World.cell?_of_block (a:=⟨b,o,none⟩) (hleft.old b (by rw[hs2];exact hS b o hs) fun hf=>hst2.nos b o hf hs)) (hk2 b o hs)
  ·simp only[World.putObj_size];rw[←hs2];exact hleft.size
  ·intro b hb hnb
   have hbm:b≠m:=fun e=>hnb (e ▸ hfm)
   rw[World.putObj_heap_other hbm,hleft.old b (by rw[hs2];exact hb) (fun h=>hnb (hfr1 b h)),ho2 b hbm]
  ·intro b hb
   simp only[World.putObj_size]
   rcases hb with hb | hb
   ·have:=hleft.ft b hb
    rw[hs2] at this
    exact⟨this.1.imp_left (hfr1 b),this.2⟩
   ·rw[hloc] at hb
    subst hb
    exact⟨.inl hfm,hlt3⟩
  ·intro b o hs
   have:=hleft.new b o hs
   rw[hs2] at this
   exact this.imp_right fun h=>h.imp_left (hfr1 b)
  ·intro b o hs
   simp only[World.putObj_size]
   exact hleft.lt b o hs
 refine wpIn_mono (hbody m w2 _ _ envB _ b _ _ _ ρB ⟨_,hm2,hnf,hnf⟩ hkB hlB hdenB hrepB hlensB) fun e a3 w3 hp=>?_
 cases e with
 | normal=>
  obtain⟨hb,he⟩:=hp
  subst hb
  exact fin w3 none he (by rw[hrec];rfl) rfl
 | ret=>
  obtain⟨hb,hq,he⟩:=hp
  subst hb hq
  exact fin w3 (some .ret) he (by rw[hrec];rfl) rfl
 | exit id=>
  obtain⟨hb,hq,he⟩:=hp
  subst hb hq
  exact fin w3 (some (.exit id)) he (by rw[hrec];rfl) rfl
 | goto l=>exact hp.elim
 | panic c=>exact hp.elim
 | outgrown=>exact hp.elim

theorem rfor_mark {B:World→Ent→Prop} {rd:Option Nat} {σ:SState} {cf:StCfg} {hE:E} {env:List D} {a:Act} {w W3:World} {ρ:Rho} {S3:Sets} {foot3:Nat→Prop} {st':D} {mark:List Deferred} (hr:Rep w0 X w a σ env ρ) (hro:cf.ro=false) (hhs:σ.hs=some (.store cf hE)) (hB:B w0 X) (hcl:rd≠none∨∀w1 X1 w2 X2,B w1 X1→Ext w1 X1 w2 X2→B w2 X2)
  (hrep:Rep w0 X W3 a (σ.setObj HID (some (.store cf (.sym env.length)))) (env++[st']) { ρ with S:=S3,foot:=foot3 }) (hmark:mark=[]∨(rd=none∧∃dd,mark=[{ target:=.collected dd,args:=#[] }]∧W3.heap[dd]? = some (.deferred (some []))∧w.heap.size≤dd∧¬foot3 dd)) :
  ∃w1 X1,B w1 X1∧Rep w1 X1 W3 { a with defers:=mark++a.defers } (setH σ (.sym env.length)) (env++[st']) { ρ with S:=S3,foot:=foot3 }:=by
 have hset:setH σ (.sym env.length)=σ.setObj HID (some (.store cf (.sym env.length))):=by unfold setH;rw[hhs]
 have hob':∀o y,o≠HID→(σ.setObj HID (some (.store cf (.sym env.length)))).obj o=some y→σ.obj o=some y:=fun o y ho hy=>by rwa [SState.obj_setObj' (.inl rfl),if_neg ho] at hy
 obtain⟨ρ2,hρ2⟩:∃ρ2:Rho,ρ2={ ρ with S:=S3,foot:=foot3 }:=⟨_,rfl⟩
 rw[←hρ2] at hrep
 rw[←hρ2]
 rcases hmark with rfl | ⟨hrdn,dd,rfl,hDW,hD2,hnfD⟩
 ·exact⟨w0,X,hB,by rw[hset];exact hrep⟩
 ·have hcl:=hcl.resolve_left (fun h=>h hrdn)
  have hfoot2:ρ2.foot=foot3:=by rw[hρ2]
  have hro':∀o y,(σ.setObj HID (some (.store cf (.sym env.length)))).obj o=some y→y.ro=false:=by
   intro o y hy
   by_cases ho:o=HID
   ·subst ho
    rw[SState.obj_setObj' (.inl rfl),if_pos rfl] at hy
    cases hy
    exact hro
   ·have:=hob' o y ho hy
    cases y with
    | store c z=>obtain⟨_,_,_,e⟩:=hr.objs o _ this;exact absurd e ho
    | _=>rfl
  have hown:∀o y b,(σ.setObj HID (some (.store cf (.sym env.length)))).obj o=some y→objBlk ρ2 o y b→(w0.heap.size≤b∨X.may b):=fun o y b hy hb=>by
   rcases(hrep.own o y b hy hb).1 with g | g
   ·rw[hro' o y hy] at g;cases g.1
   ·exact g
  have hobH:(σ.setObj HID (some (.store cf (.sym env.length)))).obj HID=some (.store cf (.sym env.length)):=by rw[SState.obj_setObj' (.inl rfl),if_pos rfl]
  obtain⟨X1,hX1⟩:∃X1:Ent,X1={ may:=fun b=>∃o y,(σ.setObj HID (some (.store cf (.sym env.length)))).obj o=some y∧objBlk ρ2 o y b,S:=ρ2.S,foot:=foot3,dfs:=[{ target:=.collected dd,args:=#[] }]++X.dfs }:=⟨_,rfl⟩
  have hmay:∀b,X1.may b↔∃o y,(σ.setObj HID (some (.store cf (.sym env.length)))).obj o=some y∧objBlk ρ2 o y b:=fun b=>by rw[hX1]
  have hfoot1:X1.foot=foot3:=by rw[hX1]
  have hX1S:X1.S=ρ2.S:=by rw[hX1]
  have hnD:¬X1.may dd:=by
   rw[hmay]
   rintro⟨o,y,hy,hb⟩
   by_cases ho:o=HID
   ·subst ho
    rw[hobH] at hy
    cases hy
    exact hnfD (by rw[←hfoot2];exact hb)
   ·have hy':=hob' o y ho hy
    have hb':objBlk ρ o y dd:=by
     cases y with
     | store c z=>obtain⟨_,_,_,e⟩:=hr.objs o _ hy';exact absurd e ho
     | box cs=>rw[hρ2] at hb;exact hb
     | row x' sz=>rw[hρ2] at hb;exact hb
     | tok e' sz=>rw[hρ2] at hb;exact hb
    have:=(hr.own o y dd hy' hb').2
    omega
  have hholdW:∀l' rec',X.S.hold l'=some rec'→W3.heap[l']? = some (.loop rec')∧¬X1.may l'∧¬X1.foot l':=by
   intro l' rec' hl'
   have h1:ρ2.S.hold l'=some rec':=by rw[hrep.sub.hold];exact hl'
   obtain⟨g1,g2⟩:=hrep.holdOk hobH l' rec' h1
   obtain⟨k1,k2,k3⟩:=hr.hold l' rec' hl'
   have hlt:=(Array.getElem?_eq_some_iff.1 k1).1
   refine⟨g1,?_,by rw[hfoot1,←hfoot2];exact g2⟩
   rw[hmay]
   rintro⟨o,y,hy,hb⟩
   rcases hown o y l' hy hb with g | g
   ·omega
   ·exact k2 g
  have hext:Ext w0 X W3 X1:=by
   refine⟨by rw[hX1S];exact hrep.sub,hrep.os,hrep.tape,hrep.output,hrep.grown,hrep.old,fun b hb=>?_,fun b hb=>?_,fun b o hs=>?_,[dd],by rw[hX1];rfl,by simp,fun D hD=>?_⟩
   ·obtain⟨o,y,hy,hb⟩:=(hmay b).1 hb
    exact(hown o y b hy hb).symm
   ·rw[hfoot1,←hfoot2] at hb
    exact .inr (hown HID _ b hobH hb).symm
   ·rw[hX1S] at hs
    exact hrep.new b o hs
   ·simp at hD
    subst hD
    exact⟨hDW,hnD,by rw[hfoot1];exact hnfD,Nat.le_trans hr.grown hD2⟩
  refine⟨W3,X1,hcl w0 X W3 X1 hB hext,?_⟩
  rw[hset]
  refine⟨hrep.size,hrep.tmps,hrep.objs,hrep.inj,fun o y b hy hb=>⟨.inr (.inr ((hmay b).2 ⟨o,y,hy,hb⟩)),(hrep.own o y b hy hb).2⟩,hrep.cells,rfl,.refl _,rfl,Nat.le_refl _,fun _ _ _=>rfl,by rw[hX1S];exact Sets.le_refl _,fun b o hs=>.inl (by rw[hX1S];exact hs),?_,fun l' rec' hl'=>hholdW l' rec' ?_⟩
  ·rw[hX1]
   show[({ target:=.collected dd,args:=#[] }:Deferred)]++a.defers=[{ target:=.collected dd,args:=#[] }]++X.dfs
   rw[hr.nod]
  ·rw[hX1S,hrep.sub.hold] at hl'
   exact hl'

theorem enter_loop {rd:Option Nat}{ps:Array Tmp}{asg body:Code}{σ:SState}{env:List D}{a:Act}{w:World}{ρ:Rho}(hr:Rep w0 X w a σ env ρ)(hrd:∀l,rd=some l→∃r0,w0.heap[l]? = some (.loop r0)∧¬X.may l∧¬X.foot l)(fn:FuncId) :
  ∃(l:Nat) (mark:List Deferred) (W1:World) (rec:Loop) (dfb:Nat),rec={ state:=.ready,pending:=none,fn,tmps:=a.tmps,params:=ps,assign:=asg,body,defers:=dfb } ∧
   (Instr.enterLoop fn a.tmps ps asg body (FW rd).round).run P w=.ok (l,mark) W1∧W1.heap[l]? = some (.loop rec)∧w.heap.size≤l∧w.heap.size≤W1.heap.size∧(∀b,b<w.heap.size→W1.heap[b]? = w.heap[b]?)∧W1.os=w.os∧TL W1 w∧W1.output=w.output ∧
   (mark=[]∨(rd=none∧∃dd,mark=[{ target:=.collected dd,args:=#[] }]∧W1.heap[dd]? = some (.deferred (some []))∧w.heap.size≤dd∧dd≠l)):=by
 cases rd with
 | none=>
  refine⟨_,_,_,_,w.heap.size,rfl,run_enterLoop_outer fn a.tmps ps asg body,?_,by omega,by simp;omega,fun b hb=>?_,rfl,⟨rfl,Nat.le_refl _⟩,rfl,.inr ⟨rfl,_,rfl,?_,Nat.le_refl _,by omega⟩⟩
  ·have:=World.alloc_heap_new (w.alloc (.deferred (some []))) (.loop { state:=.ready,pending:=none,fn,tmps:=a.tmps,params:=ps,assign:=asg,body,defers:=w.heap.size })
   rwa [World.size_alloc] at this
  ·rw[heapOld _ _ b (by simp;omega),heapOld _ _ b hb]
  ·rw[heapOld _ _ _ (by simp)]
   exact World.alloc_heap_new w _
 | some l0=>
  obtain⟨r0,g1,g2,g3⟩:=hrd l0 rfl
  have hl0:w.heap[l0]? = some (.loop r0):=(hr.old l0 (Array.getElem?_eq_some_iff.1 g1).1 g2).trans g1
  refine⟨_,_,_,_,r0.defers,rfl,run_enterLoop_inner hl0 fn a.tmps ps asg body,World.alloc_heap_new w _,Nat.le_refl _,by simp,fun b hb=>heapOld _ _ b hb,rfl,⟨rfl,Nat.le_refl _⟩,rfl,.inl rfl⟩

theorem callable_some {f : FuncId} (hcall : callable P f = true) : ∃ fn0, P.funcs[f]? = some fn0 ∧ (fn0.name == "runtime.NumGoroutine") = false ∧ fn0.body.isNone = false := by
 unfold callable at hcall
 split at hcall
 ·rename_i fn0 hf
  simp only[Bool.and_eq_true,Bool.not_eq_true',Option.isSome_iff_ne_none] at hcall
  refine⟨fn0,hf,hcall.1,?_⟩
  cases hb:fn0.body with
  | none=>exact absurd hb hcall.2
  | some _=>rfl
 ·cases hcall

theorem rfor_sound {B:World→Ent→Prop} {N:Nat} {rd:Option Nat} {nd:Nat} {g:Operand} {ps:Array Tmp} {dp:Nat} {asg body:Code} {tb:T} {σ:SState} {cf:StCfg} {xg hE:E} {env:List D} {a:Act} {w:World} {ρ:Rho} {Q:Exit→Act→World→Prop}
  (hr:Rep w0 X w a σ env ρ) (hl:Lens N σ) (hro:cf.ro=false) (hhs:σ.hs=some (.store cf hE)) (hB:B w0 X) (hg:(σ.opd g).toE=some xg)
  (hrd:∀l,rd=some l→∃r0,w0.heap[l]? = some (.loop r0)∧¬X.may l∧¬X.foot l) (hcl:rd≠none∨∀w1 X1 w2 X2,B w1 X1→Ext w1 X1 w2 X2→B w2 X2)
  (hasg:∀(l:Nat) (w1:World) (X1:Ent) (σ1:SState) (env1:List D) (Q:Sig→Prop) (a1:Act) (w2:World) (ρ1:Rho),(∃r0,w1.heap[l]? = some (.loop r0)∧¬X1.may l∧¬X1.foot l)→σ1=roundState σ cf env.length ps.toList→env1.length=env.length+1+ps.size→den P tb env1 Q→Rep w1 X1 w2 a1 σ1 env1 ρ1→Lens N σ1→asg.wpIn (FW (some l)) 0 P (Post P (fun w X=>w=w1∧X=X1) N (fun _ _ _=>False) env1 (dp+1) [] (fun dp' u' σ'=>compile P (fun _=>none) body dp' u' σ' [] (roundEnd dp)) Q) a1 w2)
  (hbody:∀(l:Nat) (w1:World) (X1:Ent) (σ1:SState) (env1:List D) (t1:T) (Q:Sig→Prop) (a1:Act) (w2:World) (ρ1:Rho),(∃r0,w1.heap[l]? = some (.loop r0)∧¬X1.may l∧¬X1.foot l)→compile P (fun _=>none) body (dp+1) env1.length σ1 [] (roundEnd dp)=some t1→den P t1 env1 Q→Rep w1 X1 w2 a1 σ1 env1 ρ1→Lens N σ1→body.wpIn (FW (some l)) 0 P (Post P (fun w X=>w=w1∧X=X1) N (fun _ _ _=>False) env1 (dp+1) [] (roundEnd dp) Q) a1 w2)
  {f:FuncId} {us cs cds:List D} {st d st':D} (hx:xg.eval env=some (.fn f us cs)) (hcall:callable P f=true) (hh:hE.eval env=some st) (hcds:evalAll env ((dataSlots 0 σ.tmps).map (·.2))=some cds) (hnc:noyls cds=true) (hn':st'.noyl=true)
  (hspec:∀(m:Nat) (rec:Loop),(∀st1 ds st2,st1.noyl=true→noyls ds=true→ds.length=ps.size→den P tb (env++[st1]++ds) (fun s=>s=.jump dp [st2])→YSpec P (.yl m rec ((dataSlots 0 σ.tmps).map (·.1)) cds) st1 ds st2)→FSpecW P f st (us++[.yl m rec ((dataSlots 0 σ.tmps).map (·.1)) cds]++cs) d st')
  (hQ:∀(w1:World) (X1:Ent) (a':Act) (w':World) (ρ':Rho),B w1 X1→Rep w1 X1 w' a' (setH σ (.sym env.length)) (env++[st']) ρ'→Q .normal a' w'):(Code.rangeFunc g ps asg body).wpIn (FW rd) nd P Q a w:=by
 have hob:σ.obj HID=some (.store cf hE):=by rw[SState.obj_def,if_pos rfl];exact hhs
 obtain⟨bs,hb1,hst,_⟩:=hr.objs _ _ hob
 rw[hb1] at hh
 cases hh
 have hflt:∀b,ρ.foot b→b<w.heap.size:=foot_lt hr hob
 have hhold:=hr.holdOk hob
 refine wpIn_rangeFunc fun fn _=>?_
 obtain⟨l,mark,W1,rec,dfb,hrec,hent,hlW,hle,hsz,hold1,ho1,ht1,hu1,hmark⟩:∃(l:Nat) (mark:List Deferred) (W1:World) (rec:Loop) (dfb:Nat),rec={ state:=.ready,pending:=none,fn,tmps:=a.tmps,params:=ps,assign:=asg,body,defers:=dfb } ∧
   (Instr.enterLoop fn a.tmps ps asg body (FW rd).round).run P w=.ok (l,mark) W1∧W1.heap[l]? = some (.loop rec)∧w.heap.size≤l∧w.heap.size≤W1.heap.size∧(∀b,b<w.heap.size→W1.heap[b]? = w.heap[b]?)∧W1.os=w.os∧TL W1 w∧W1.output=w.output ∧
   (mark=[]∨(rd=none∧∃dd,mark=[{ target:=.collected dd,args:=#[] }]∧W1.heap[dd]? = some (.deferred (some []))∧w.heap.size≤dd∧dd≠l)):=enter_loop hr hrd fn
 have hlt1:l<W1.heap.size:=(Array.getElem?_eq_some_iff.1 hlW).1
 have hnfl:¬ρ.foot l:=fun hf=>by have:=hflt l hf;omega
 obtain⟨dg,hdg,hrg⟩:=SV.toE_rd hg (opd_rd (a:=a) hr g)
 rw[hx] at hdg
 cases hdg
 generalize hvg:a.eval g=vg at hrg
 cases hrg with
 | @fn _ uv cv _ _ hul hcl' hur hcr=>
 obtain⟨fn0,hf0,hnm,hbn⟩:=callable_some hcall
 obtain⟨S1,hS1⟩:∃S1:Sets,S1=ρ.S.under fun l'=>if l'=l then some rec else ρ.S.hold l':=⟨_,rfl⟩
 have hlike:ρ.S.Like S1:=by rw[hS1];exact ρ.S.like_under _
 have hmem:∀b o,S1 b o↔ρ.S b o:=by intro b o;rw[hS1];exact Iff.rfl
 have hk1:∀(T:Sets),(∀b o,T b o→b<w.heap.size)→Keeps T w W1:=fun T hT b o hs=>World.cell?_of_block (a:=⟨b,o,none⟩) (hold1 b (hT b o hs))
 have hneq:∀l' rec',ρ.S.hold l'=some rec'→l'≠l:=fun l' rec' h e=>by
  have:=(Array.getElem?_eq_some_iff.1 (hhold l' rec' h).1).1
  omega
 have hto:∀{v:Value} {d:D},RdD w ρ.S v d→RdD W1 S1 v d:=fun h=>(h.keep (hk1 _ hr.cells) (Sets.le_refl _)).rehold hlike fun l' r' hl'=>by
  rw[hS1]
  simp only[Sets.under]
  rw[if_neg (hneq l' r' hl')]
  exact hl'
 have hst1:StOk W1 S1 ρ.foot bs:=hst.to hlike (fun b o h=>(hmem b o).1 h) (fun b hb=>hold1 b (hflt b hb)) fun v d i x hi hp h=>hto h
 have hhold1:HoldOk W1 S1 ρ.foot:=by
  intro l' rec' hl'
  rw[hS1] at hl'
  simp only[Sets.under] at hl'
  split at hl'
  ·rename_i e
   cases hl'
   subst e
   exact⟨hlW,hnfl⟩
  ·obtain⟨g1,g2⟩:=hhold l' rec' hl'
   exact⟨(hold1 l' (Array.getElem?_eq_some_iff.1 g1).1).trans g1,g2⟩
 have hyl:RdD W1 S1 (.func (.yield l) #[] #[]) (.yl l rec ((dataSlots 0 σ.tmps).map (·.1)) cds):=by
  refine .yl (by rw[hS1];simp[Sets.under]) fun i s d hi hd=>?_
  simp only[List.getElem?_map,Option.map_eq_some_iff] at hi
  obtain⟨⟨s',x⟩,hi,rfl⟩:=hi
  obtain⟨_,b,hb⟩:=dataSlots_get hi
  obtain⟨d',hd',hx'⟩:=evalAll_get (i:=i) (x:=x) hcds (by simp[hi])
  rw[hd] at hd'
  cases hd'
  have h0:=hr.tmps s'
  simp only[Nat.sub_zero] at hb
  rw[SState.tmp_def,List.getD_eq_getElem?_getD,hb] at h0
  obtain⟨d'',h1,h2,_⟩:=SRd.e_inv (x:=x) (s:=b) h0
  rw[h1] at hx'
  cases hx'
  rw[hrec]
  exact hto h2
 have hfs:=hspec l rec fun st1 ds st2 g1 g2 g3 g4=>by
  rw[hrec]
  exact yspec_of_body hr hl hro hasg hbody hcds hnc g1 g2 g3 g4
 refine⟨l,mark,W1,{ target:=.fn (.func f) cv,args:=uv++#[.func (.yield l) #[] #[]] },W1,f,uv++#[.func (.yield l) #[] #[]]++cv,W1,hent,?_,fun _ _=>trivial,?_,fun e=>(by cases e),callsFW.2 ?_⟩
 ·simp only[resolve,hvg,Deferred.ofValue]
  simp[Act.eval]
 ·simp only[invoke,callFunc,run_program,Sem.run_bind,Sem.run_pure,Result.andThen_ok,hf0,hnm,hbn,Bool.false_eq_true,if_false]
 refine(hfs W1 S1 ρ.foot bs _ rfl hst1 hhold1 (fun b hb=>Nat.lt_of_lt_of_le (hflt b hb) hsz) (fun b o hs=>Nat.lt_of_lt_of_le (hr.cells b o ((hmem b o).1 hs)) hsz) (by simp[hul,hcl'];omega) (fun i v x hv hx'=>get3 (us:=uv.toList) (vs:=[Value.func (.yield l) #[] #[]]) (ws:=cv.toList) (R:=fun v x=>RdD W1 S1 v x) (by simpa using hul) rfl (fun i u x hu hx=>hto (hur i u x (by simpa using hu) hx)) (fun i u x hu hx=>by
  cases i with
  | zero=>simp at hu hx;subst hu hx;exact hyl
  | succ i=>simp at hu) (fun i u x hu hx=>hto (hcr i u x (by simpa using hu) hx)) i v x (by rw[←Array.getElem?_toList] at hv;simpa using hv) hx')).mono ?_
 rintro e W2 ⟨v,S',foot',bs',⟨rfl,_⟩,rfl,hst',hk,hS,hos,htp,hout,hsz2,hbl,hf',hS2,hS3⟩
 have hn2:noyls bs'=true:=by simpa[D.noyl] using hn'
 have hl2:W2.heap[l]? = some (.loop rec):=(hbl l hlt1 hnfl).trans hlW
 have hend:=run_endLoop (P:=P) hl2 (by rw[hrec];simp)
 have hpend:rec.pending=none:=by rw[hrec]
 obtain⟨W3,hW3⟩:∃W3,W3=W2.putObj l (.loop { rec with state:=.exhausted }):=⟨_,rfl⟩
 rw[←hW3] at hend
 rw[hpend] at hend
 refine⟨none,W3,hend,?_⟩
 have hk3:∀(T:Sets),Keeps T W2 (W2.putObj l (.loop { rec with state:=.exhausted })):=fun T=>Keeps.putObj hl2 _
 have ho3:∀b,b≠l→(W2.putObj l (.loop { rec with state:=.exhausted })).heap[b]? = W2.heap[b]?:=fun b hb=>World.putObj_heap_other hb
 have hs3:(W2.putObj l (.loop { rec with state:=.exhausted })).heap.size=W2.heap.size:=World.putObj_size
 have hq3:(W2.putObj l (.loop { rec with state:=.exhausted })).os=W2.os∧TL (W2.putObj l (.loop { rec with state:=.exhausted })) W2∧(W2.putObj l (.loop { rec with state:=.exhausted })).output=W2.output:=⟨rfl,⟨rfl,Nat.le_refl _⟩,rfl⟩
 rw[←hW3] at hs3 hq3
 replace hk3:∀(T:Sets),Keeps T W2 W3:=fun T=>hW3 ▸ hk3 T
 replace ho3:∀b,b≠l→W3.heap[b]? = W2.heap[b]?:=fun b hb=>hW3 ▸ ho3 b hb
 have hnf3:∀b,foot' b→b≠l:=fun b hb e=>by
  rcases(hf' b hb).1 with g | g
  ·exact hnfl (e ▸ g)
  ·omega
 have hst3:StOk W3 (S'.under ρ.S.hold) foot' bs':=hst'.to (S'.like_under _) (fun _ _ h=>h) (fun b hb=>ho3 b (hnf3 b hb)) fun v d i x hi hp h=>(h.keep (hk3 _) (Sets.le_refl _)).like (S'.like_under _) (noyl_part hn2 hi hp)
 have hset:setH σ (.sym env.length)=σ.setObj HID (some (.store cf (.sym env.length))):=by unfold setH;rw[hhs]
 have hob':∀o y,o≠HID→(σ.setObj HID (some (.store cf (.sym env.length)))).obj o=some y→σ.obj o=some y:=fun o y ho hy=>by rwa [SState.obj_setObj' (.inl rfl),if_neg ho] at hy
 have hrep:=(hr.env (prefix_append env [.st bs'])).setStore (w':=W3) (x':=.sym env.length) (S':=S'.under ρ.S.hold) hob hro (by simp[E.eval]) hst3 (fun b o hs=>by
   rw[hk3 ρ.S b o hs,hk b o ((hmem b o).2 hs)]
   exact hk1 ρ.S hr.cells b o hs) ⟨fun b o hs=>hS.mem b o ((hmem b o).2 hs),by rw[hlike.n];exact hS.n,fun i hi=>(hS.loc i (by rw[←hlike.n];exact hi)).trans (hlike.loc i),fun i hi=>(hS.cap i (by rw[←hlike.n];exact hi)).trans (hlike.cap i),rfl,fun i hi=>(hS.lrec i (by rw[←hlike.n];exact hi)).trans (hlike.lrec i)⟩
  (hq3.1.trans (hos.trans ho1)) (hq3.2.1.trans (htp.trans ht1)) (hq3.2.2.trans (hout.trans hu1)) (by rw[hs3];exact Nat.le_trans hsz hsz2) (fun b hb hnb=>by
   rw[ho3 b (by omega),hbl b (Nat.lt_of_lt_of_le hb hsz) hnb,hold1 b hb]) (fun b hb=>by
   obtain⟨g1,g2⟩:=hf' b hb
   refine⟨g1.imp_right fun h=>Nat.le_trans hsz h,by rw[hs3];exact g2⟩) (fun b o hs=>by
   rcases hS2 b o hs with g | g | g
   ·exact .inl ((hmem b o).1 g)
   ·exact .inr (.inl g)
   ·exact .inr (.inr (Nat.le_trans hsz g))) (fun b o hs=>by rw[hs3];exact hS3 b o hs)
 obtain⟨w1',X1',hB1,hrep1⟩:=rfor_mark hr hro hhs hB hcl hrep (hmark.imp id fun⟨hrdn,dd,e,hD1,hD2,hD3⟩=>by
  have hDlt:dd<W1.heap.size:=(Array.getElem?_eq_some_iff.1 hD1).1
  have hnfD:¬ρ.foot dd:=fun hf=>by have:=hflt dd hf;omega
  exact⟨hrdn,dd,e,by rw[ho3 dd hD3,hbl dd hDlt hnfD];exact hD1,hD2,fun hf=>by
   rcases(hf' dd hf).1 with g | g
   ·exact hnfD g
   ·omega⟩)
 exact hQ w1' X1' _ W3 _ hB1 hrep1

theorem rforx_sound {B:World→Ent→Prop} {N:Nat} {rd:Option Nat} {nd:Nat} {g:Operand} {ps:Array Tmp} {dp:Nat} {q:Option Nat} {asg body:Code} {tb:T} {σ:SState} {cf:StCfg} {xg hE:E} {env:List D} {a:Act} {w:World} {ρ:Rho} {Q:Exit→Act→World→Prop}
  (hr:Rep w0 X w a σ env ρ) (hl:Lens N σ) (hro:cf.ro=false) (hhs:σ.hs=some (.store cf hE)) (hB:B w0 X) (hg:(σ.opd g).toE=some xg)
  (hrd:∀l,rd=some l→∃r0,w0.heap[l]? = some (.loop r0)∧¬X.may l∧¬X.foot l) (hcl:rd≠none∨∀w1 X1 w2 X2,B w1 X1→Ext w1 X1 w2 X2→B w2 X2)
  (hasg:∀(l:Nat) (w1:World) (X1:Ent) (σ1:SState) (env1:List D) (Q:Sig→Prop) (a1:Act) (w2:World) (ρ1:Rho),(∃r0,w1.heap[l]? = some (.loop r0)∧¬X1.may l∧¬X1.foot l)→σ1=roundState σ cf env.length ps.toList→env1.length=env.length+1+ps.size→den P tb env1 Q→Rep w1 X1 w2 a1 σ1 env1 ρ1→Lens N σ1→asg.wpIn (FW (some l)) 0 P (Post P (fun w X=>w=w1∧X=X1) N (fun _ _ _=>False) env1 (dp+2) [] (fun dp' u' σ'=>compile P (roundRet q) body dp' u' σ' (roundEx dp (env.length+1+ps.size) σ cf q) (roundEnd dp)) Q) a1 w2)
  (hbody:∀(l:Nat) (w1:World) (X1:Ent) (σ1:SState) (env1:List D) (t1:T) (b:Bool) (st2:D) (a1:Act) (w2:World) (ρ1:Rho),(∃r0,w1.heap[l]? = some (.loop r0)∧¬X1.may l∧¬X1.foot l)→compile P (roundRet q) body (dp+2) env1.length σ1 (roundEx dp (env.length+1+ps.size) σ cf q) (roundEnd dp)=some t1→env.length+1+ps.size≤env1.length→den P t1 env1 (fun s=>s=rsig dp q b st2)→Rep w1 X1 w2 a1 σ1 env1 ρ1→Lens N σ1→body.wpIn (FW (some l)) 0 P (REndQ w1 X1 q b st2) a1 w2)
  {f:FuncId} {us cs cds bs bs':List D} {d:D} {stop:Bool} (hx:xg.eval env=some (.fn f us cs)) (hcall:callable P f=true) (hh:hE.eval env=some (.st bs)) (hcds:evalAll env ((dataSlots 0 σ.tmps).map (·.2))=some cds) (hdead:bs'[bs.length]? = some (.tup []))
  (hspec:∀(rec:Loop×Code),(∀bs1 ds b bs2,bs1[bs.length]? = some (.lpb false)→ds.length=ps.size→bs2[bs.length]? = some (.tup [])→den P tb (env++[.st (bs1.set bs.length (.tup []))]++ds) (fun s=>s=rsig dp q b (.st bs2))→YSpecB P (.ylb bs.length rec ((dataSlots 0 σ.tmps).map (·.1)) cds) (.st bs1) ds b (.st (bs2.set bs.length (.lpb !b)))) →
    FSpecW P f (.st (bs++[.lpb false])) (us++[.ylb bs.length rec ((dataSlots 0 σ.tmps).map (·.1)) cds]++cs) d (.st (bs'.set bs.length (.lpb stop))))
  (hQ:∀(w1:World) (X1:Ent) (a':Act) (w':World) (ρ':Rho),B w1 X1→Rep w1 X1 w' a' (setH σ (.sym env.length)) (env++[.st bs']) ρ'→if stop then(qCode q).wpIn (FW rd) nd P Q a' w' else Q .normal a' w'):(Code.rangeFunc g ps asg body).wpIn (FW rd) nd P Q a w:=by
 have hob:σ.obj HID=some (.store cf hE):=by rw[SState.obj_def,if_pos rfl];exact hhs
 obtain⟨bs0,hb1,hst,_⟩:=hr.objs _ _ hob
 rw[hh] at hb1
 cases hb1
 have hflt:∀b,ρ.foot b→b<w.heap.size:=foot_lt hr hob
 have hhold:=hr.holdOk hob
 refine wpIn_rangeFunc fun fn _=>?_
 obtain⟨l,mark,W1,rec,dfb,hrec,hent,hlW,hle,hsz,hold1,ho1,ht1,hu1,hmark⟩:∃(l:Nat) (mark:List Deferred) (W1:World) (rec:Loop) (dfb:Nat),rec={ state:=.ready,pending:=none,fn,tmps:=a.tmps,params:=ps,assign:=asg,body,defers:=dfb } ∧
   (Instr.enterLoop fn a.tmps ps asg body (FW rd).round).run P w=.ok (l,mark) W1∧W1.heap[l]? = some (.loop rec)∧w.heap.size≤l∧w.heap.size≤W1.heap.size∧(∀b,b<w.heap.size→W1.heap[b]? = w.heap[b]?)∧W1.os=w.os∧TL W1 w∧W1.output=w.output ∧
   (mark=[]∨(rd=none∧∃dd,mark=[{ target:=.collected dd,args:=#[] }]∧W1.heap[dd]? = some (.deferred (some []))∧w.heap.size≤dd∧dd≠l)):=enter_loop hr hrd fn
 have hlt1:l<W1.heap.size:=(Array.getElem?_eq_some_iff.1 hlW).1
 have hnfl:¬ρ.foot l:=fun hf=>by have:=hflt l hf;omega
 obtain⟨dg,hdg,hrg⟩:=SV.toE_rd hg (opd_rd (a:=a) hr g)
 rw[hx] at hdg
 cases hdg
 generalize hvg:a.eval g=vg at hrg
 cases hrg with
 | @fn _ uv cv _ _ hul hcl' hur hcr=>
 obtain⟨fn0,hf0,hnm,hbn⟩:=callable_some hcall
 obtain⟨S1,hS1⟩:∃S1:Sets,S1=ρ.S.more l 0 (rec,qCode q):=⟨_,rfl⟩
 have hle1:ρ.S≤S1:=hS1 ▸ ρ.S.le_more l 0 _
 have hn:ρ.S.n=bs.length:=hst.n
 have hk1:∀(T:Sets),(∀b o,T b o→b<w.heap.size)→Keeps T w W1:=fun T hT b o hs=>World.cell?_of_block (a:=⟨b,o,none⟩) (hold1 b (hT b o hs))
 have hto:∀{v:Value} {d:D},RdD w ρ.S v d→RdD W1 S1 v d:=fun h=>h.keep (hk1 _ hr.cells) hle1
 have hS1n:∀b o,S1 b o↔ρ.S b o:=by intro b o;rw[hS1];exact Iff.rfl
 have hloc1:S1.loc bs.length=l:=by rw[hS1,←hn];simp[Sets.more]
 have hlr1:S1.lrec bs.length=(rec,qCode q):=by rw[hS1,←hn];simp[Sets.more]
 have hlt2:bs.length<S1.n:=by rw[hS1,←hn];simp[Sets.more]
 have hst1:StOk W1 S1 (fun b=>ρ.foot b∨b=l) (bs++[.lpb false]):=by
  rw[hS1]
  refine stOk_moreG hst (hk1 _ hr.cells) rfl (fun i x hi hx=>?_) (fun _=>Iff.rfl) (fun e sz cs hz=>by cases hz) (fun kvs hz=>by cases hz) (fun off hs=>?_) fun _=>?_
  ·have:=hflt _ (hst.live_foot hi hx)
   exact⟨hi,by omega,hold1 _ this⟩
  ·have:=hr.cells _ off hs;omega
  ·rw[hlW]
   simp[ItOk,Sets.more]
 have hhold1:HoldOk W1 S1 (fun b=>ρ.foot b∨b=l):=by
  intro l' rec' hl'
  rw[hS1] at hl'
  obtain⟨g1,g2⟩:=hhold l' rec' hl'
  have hlt:=(Array.getElem?_eq_some_iff.1 g1).1
  exact⟨(hold1 l' hlt).trans g1,fun h=>h.elim g2 fun e=>by omega⟩
 have hyl:RdD W1 S1 (.func (.yield l) #[] #[]) (.ylb bs.length (rec,qCode q) ((dataSlots 0 σ.tmps).map (·.1)) cds):=by
  rw[←hloc1]
  refine .ylb hlt2 hlr1 fun i s d hi hd=>?_
  simp only[List.getElem?_map,Option.map_eq_some_iff] at hi
  obtain⟨⟨s',x⟩,hi,rfl⟩:=hi
  obtain⟨_,b,hb⟩:=dataSlots_get hi
  obtain⟨d',hd',hx'⟩:=evalAll_get (i:=i) (x:=x) hcds (by simp[hi])
  rw[hd] at hd'
  cases hd'
  have h0:=hr.tmps s'
  simp only[Nat.sub_zero] at hb
  rw[SState.tmp_def,List.getD_eq_getElem?_getD,hb] at h0
  obtain⟨d'',h1,h2,_⟩:=SRd.e_inv (x:=x) (s:=b) h0
  rw[h1] at hx'
  cases hx'
  rw[hrec]
  exact hto h2
 have hfs:=hspec (rec,qCode q) fun bs1 ds b bs2 g1 g2 g3 g4=>by
  rw[hrec]
  exact yspecx_of_body hr hl hasg hbody hcds g1 g2 g3 g4
 have hflt1:∀b,(ρ.foot b∨b=l)→b<W1.heap.size:=fun b hb=>hb.elim (fun h=>Nat.lt_of_lt_of_le (hflt b h) hsz) fun e=>e ▸ hlt1
 refine⟨l,mark,W1,{ target:=.fn (.func f) cv,args:=uv++#[.func (.yield l) #[] #[]] },W1,f,uv++#[.func (.yield l) #[] #[]]++cv,W1,hent,?_,fun _ _=>trivial,?_,fun e=>(by cases e),callsFW.2 ?_⟩
 ·simp only[resolve,hvg,Deferred.ofValue]
  simp[Act.eval]
 ·simp only[invoke,callFunc,run_program,Sem.run_bind,Sem.run_pure,Result.andThen_ok,hf0,hnm,hbn,Bool.false_eq_true,if_false]
 refine(hfs W1 S1 _ _ _ rfl hst1 hhold1 hflt1 (fun b o hs=>Nat.lt_of_lt_of_le (hr.cells b o ((hS1n b o).1 hs)) hsz) (by simp[hul,hcl'];omega) (fun i v x hv hx'=>get3 (us:=uv.toList) (vs:=[Value.func (.yield l) #[] #[]]) (ws:=cv.toList) (R:=fun v x=>RdD W1 S1 v x) (by simpa using hul) rfl (fun i u x hu hx=>hto (hur i u x (by simpa using hu) hx)) (fun i u x hu hx=>by
  cases i with
  | zero=>simp at hu hx;subst hu hx;exact hyl
  | succ i=>simp at hu) (fun i u x hu hx=>hto (hcr i u x (by simpa using hu) hx)) i v x (by rw[←Array.getElem?_toList] at hv;simpa using hv) hx')).mono ?_
 rintro e W2 ⟨v,S',foot',bs2,⟨rfl,_⟩,hbs2,hst',hk,hS,hos,htp,hout,hsz2,hbl,hf',hS2,hS3⟩
 cases hbs2
 have hlp:(bs'.set bs.length (.lpb stop))[bs.length]? = some (.lpb stop):=by
  rw[List.getElem?_set,if_pos rfl,if_pos (List.getElem?_eq_some_iff.1 hdead).1]
 have hloc':S'.loc bs.length=l:=(hS.loc _ hlt2).trans hloc1
 obtain⟨_,hl2,hnl⟩:=hst'.its _ _ hlp rfl
 simp only[ItOk,(hS.lrec _ hlt2).trans hlr1,hloc'] at hl2
 rw[hloc'] at hnl
 obtain⟨r2,hr2⟩:∃r2:Loop,r2=(bif stop then { rec with state:=.done,pending:=some (qCode q) } else rec):=⟨_,rfl⟩
 rw[←hr2] at hl2
 have hend:=run_endLoop (P:=P) hl2 (by rw[hr2,hrec];cases stop <;> simp)
 have hpend:r2.pending=if stop then some (qCode q) else none:=by rw[hr2,hrec];cases stop <;> rfl
 obtain⟨W3,hW3⟩:∃W3,W3=W2.putObj l (.loop { r2 with state:=.exhausted }):=⟨_,rfl⟩
 rw[←hW3] at hend
 rw[hpend] at hend
 refine⟨_,W3,hend,?_⟩
 have hk3:∀(T:Sets),Keeps T W2 W3:=fun T=>hW3 ▸ Keeps.putObj hl2 _
 have ho3:∀b,b≠l→W3.heap[b]? = W2.heap[b]?:=fun b hb=>hW3 ▸ World.putObj_heap_other hb
 have hs3:W3.heap.size=W2.heap.size:=hW3 ▸ World.putObj_size
 have hq3:W3.os=W2.os∧TL W3 W2∧W3.output=W2.output:=by rw[hW3];exact⟨rfl,⟨rfl,Nat.le_refl _⟩,rfl⟩
 have hst4:=hst'.drop hlp rfl
 rw[List.set_set,hloc',show bs'.set bs.length (.tup [])=bs' from by
  apply List.ext_getElem?
  intro j
  rw[List.getElem?_set]
  split
  ·rename_i e;subst e;rw[if_pos (List.getElem?_eq_some_iff.1 hdead).1,hdead]
  ·rfl] at hst4
 have hst3:StOk W3 S' (fun b=>foot' b∧b≠l) bs':=hst4.to ⟨fun _ _ h=>h,rfl,fun _=>rfl,fun _=>rfl,fun _=>rfl⟩ (fun _ _ h=>h) (fun b hb=>ho3 b hb.2) fun v d i x hi hp h=>h.keep (hk3 _) (Sets.le_refl _)
 have hrep:=(hr.env (prefix_append env [.st bs'])).setStore (w':=W3) (x':=.sym env.length) (S':=S') hob hro (by simp[E.eval]) hst3 (fun b o hs=>by
   rw[hk3 ρ.S b o hs,hk b o ((hS1n b o).2 hs)]
   exact hk1 ρ.S hr.cells b o hs) (Sets.le_trans hle1 hS)
  (hq3.1.trans (hos.trans ho1)) (hq3.2.1.trans (htp.trans ht1)) (hq3.2.2.trans (hout.trans hu1)) (by rw[hs3];exact Nat.le_trans hsz hsz2) (fun b hb hnb=>by
   have hbl':b≠l:=by omega
   rw[ho3 b hbl',hbl b (Nat.lt_of_lt_of_le hb hsz) (fun h=>h.elim hnb hbl'),hold1 b hb]) (fun b hb=>by
   obtain⟨g1,g2⟩:=hf' b hb.1
   refine⟨?_,by rw[hs3];exact g2⟩
   rcases g1 with(g1 | g1) | g1
   ·exact .inl g1
   ·exact absurd g1 hb.2
   ·exact .inr (Nat.le_trans hsz g1)) (fun b o hs=>by
   rcases hS2 b o hs with g | (g | g) | g
   ·exact .inl ((hS1n b o).1 g)
   ·exact .inr (.inl g)
   ·exact absurd (g ▸ hs) (hnl o)
   ·exact .inr (.inr (Nat.le_trans hsz g))) (fun b o hs=>by rw[hs3];exact hS3 b o hs)
 obtain⟨w1',X1',hB1,hrep1⟩:=rfor_mark hr hro hhs hB hcl hrep (hmark.imp id fun⟨hrdn,dd,e,hD1,hD2,hD3⟩=>by
  have hDlt:dd<W1.heap.size:=(Array.getElem?_eq_some_iff.1 hD1).1
  have hnfD:¬ρ.foot dd:=fun hf=>by have:=hflt dd hf;omega
  exact⟨hrdn,dd,e,by rw[ho3 dd hD3,hbl dd hDlt (fun h=>h.elim hnfD hD3)];exact hD1,hD2,fun hf=>by
   rcases(hf' dd hf.1).1 with(g | g) | g
   ·exact hnfD g
   ·exact hD3 g
   ·omega⟩)
 have:=hQ w1' X1' _ W3 _ hB1 hrep1
 cases stop
 ·exact this
 ·exact this

def ClosedB (rd:Option Nat)(c:Code)(B:World→Ent→Prop):Prop:=noRange c=true∨rd≠none∨∀w1 X1 w2 X2,B w1 X1→Ext w1 X1 w2 X2→B w2 X2

theorem ClosedB.sub {rd:Option Nat}{c c':Code}{B:World→Ent→Prop}(h:ClosedB rd c B)(hc:noRange c=true→noRange c'=true):ClosedB rd c' B:=h.imp_left hc

theorem orStuck_some {σ:SState}{x:Option T}{t:T}(h:orStuck σ x=some t):x=some t∨t=stuckT:=by
 unfold orStuck at h
 split at h
 ·cases h;exact .inl rfl
 ·split at h
  ·cases h;exact .inr rfl
  ·cases h

theorem stuck_den (P:Program){env:List D}{Q:Sig→Prop}:¬den P stuckT env Q:=by
 rintro⟨d,h,_⟩
 simp[E.eval,D.deref] at h

theorem compile_sound {N:Nat} :
  ∀(c:Code) {B:World→Ent→Prop} {RetOk:World→Act→D→Prop} {rv:SState→Option E} {rd:Option Nat} {nd:Nat},(∀w1 X1,B w1 X1→∀σ x,rv σ=some x→∀env ρ a w d,Rep w1 X1 w a σ env ρ→x.eval env=some d→RetOk w a d) →
   (∀l,rd=some l→∀w1 X1,B w1 X1→∃r0,w1.heap[l]? = some (.loop r0)∧¬X1.may l∧¬X1.foot l)→ClosedB rd c B→∀(dp:Nat) (σ:SState) (ex:List (Nat×Ex)) (k:Kont) (t:T) (env:List D),compile P rv c dp env.length σ ex k=some t→∀(Q:Sig→Prop) (a:Act) (w w0:World) (X:Ent) (ρ:Rho),B w0 X→den P t env Q→Rep w0 X w a σ env ρ→Lens N σ →
   (∀id e,exOf ex id=some e→e.lab<dp∧e.base≤env.length)→c.wpIn (FW rd) nd P (Post P B N RetOk env dp ex k Q) a w:=by
 intro c
 induction c with
 | skip=>
  intro B RetOk rv rd nd hrv hrd hcl dp σ ex k t env hc Q a w w0 X ρ hB hd hr hl hex
  exact wpIn_skip ⟨w0,X,env,σ,ρ,t,hB,List.prefix_refl _,hc,hd,hr,hl⟩
 | label l=>
  intro B RetOk rv rd nd hrv hrd hcl dp σ ex k t env hc Q a w w0 X ρ hB hd hr hl hex
  exact wpIn_label ⟨w0,X,env,σ,ρ,t,hB,List.prefix_refl _,hc,hd,hr,hl⟩
 | region id ops draw=>
  intro B RetOk rv rd nd hrv hrd hcl dp σ ex k t env hc Q a w w0 X ρ hB hd hr hl hex
  simp only[compile,deepS_eq] at hc
  replace hc:=orStuck_some hc
  rcases hc with hc | rfl
  case inr=>exact absurd hd (stuck_den P)
  obtain⟨ρ,hr⟩:=hr.frzAt id
  have hfl:=frzAt_len id σ
  exact regionT_sound hc hd hr (hfl.1.trans hl.1) (hfl.2.trans hl.2) (fun w a σ env' ρ v d bs hr' hrd hst hcf hq=>⟨w0,X,σ,env',ρ,v,d,bs,hB,rfl,hr',hrd,hst,hcf,hq⟩) fun σ' env' t' a' w' ρ' hpre hk hd' hr' e1 e2=>⟨w0,X,env',σ',ρ',t',hB,hpre,by first | exact hk | rwa [deepS_eq] at hk,hd',hr',e1,e2⟩
 | seq x y ihx ihy=>
  intro B RetOk rv rd nd hrv hrd hcl dp σ ex k t env hc Q a w w0 X ρ hB hd hr hl hex
  simp only[compile,deepS_eq] at hc
  refine wpIn_seq (wpIn_mono (ihx hrv hrd (hcl.sub fun h=>by simp only[noRange,Bool.and_eq_true] at h;exact h.1) dp σ ex _ t env hc Q a w w0 X ρ hB hd hr hl hex) fun e a1 w1 h=>?_)
  cases e with
  | normal=>
   obtain⟨w1',X1,env',σ',ρ',t',hB1,hpre,hk,hd',hr',hl'⟩:=h
   refine wpIn_mono (ihy hrv hrd (hcl.sub fun h=>by simp only[noRange,Bool.and_eq_true] at h;exact h.2) dp σ' ex k t' env' hk Q a1 w1 w1' X1 ρ' hB1 hd' hr' hl' fun id e he=>⟨(hex id e he).1,Nat.le_trans (hex id e he).2 (List.IsPrefix.length_le hpre)⟩) fun e a2 w2 h2=>?_
   cases e with
   | normal=>
    obtain⟨w2',X2,env2,σ2,ρ2,t2,hB2,hpre2,h3⟩:=h2
    exact⟨w2',X2,env2,σ2,ρ2,t2,hB2,hpre.trans hpre2,h3⟩
   | exit id=>
    obtain⟨w2',X2,e,ds,ρ2,hB2,he,hQ,hrep,hlen⟩:=h2
    exact⟨w2',X2,e,ds,ρ2,hB2,he,hQ,by rw[←take_prefix hpre (hex id e he).2];exact hrep,hlen⟩
   | _=>exact h2
  | _=>exact h
 | cond c x y ihx ihy=>
  intro B RetOk rv rd nd hrv hrd hcl dp σ ex k t env hc Q a w w0 X ρ hB hd hr hl hex
  simp only[compile,deepS_eq,Option.bind_eq_some_iff] at hc
  obtain⟨cx,hcx,hc⟩:=hc
  obtain⟨dc,hdc,hrc⟩:=SV.toE_rd hcx (opd_rd hr c)
  split at hc
  ·simp only[Option.bind_eq_some_iff] at hc
   obtain⟨ra,_,rb,_,hc⟩:=hc
   obtain⟨tb0,tr,htb0,htr,rfl⟩:=joinAt_some hc
   obtain⟨ta,tb,hta,htb,rfl⟩:=iteOf_some htb0
   obtain⟨v,hv,h1,h2⟩:=hd
   rw[hdc] at hv
   cases hv
   have hcv:=hrc.v_eq
   refine wpIn_cond_split hcv (fun e=>?_) fun e=>?_
   ·exact wpIn_mono (ihx hrv hrd (hcl.sub fun h=>by simp only[noRange,Bool.and_eq_true] at h;exact h.1) (dp+1) σ ex _ ta env hta _ a w w0 X ρ hB (h1 e) hr hl fun id e he=>⟨Nat.lt_succ_of_lt (hex id e he).1,(hex id e he).2⟩) fun e a' w' h=>Post.join htr (fun id e he=>(hex id e he).1) h
   ·exact wpIn_mono (ihy hrv hrd (hcl.sub fun h=>by simp only[noRange,Bool.and_eq_true] at h;exact h.2) (dp+1) σ ex _ tb env htb _ a w w0 X ρ hB (h2 e) hr hl fun id e he=>⟨Nat.lt_succ_of_lt (hex id e he).1,(hex id e he).2⟩) fun e a' w' h=>Post.join htr (fun id e he=>(hex id e he).1) h
  ·obtain⟨ta,tb,hta,htb,rfl⟩:=iteOf_some hc
   obtain⟨v,hv,h1,h2⟩:=hd
   rw[hdc] at hv
   cases hv
   have hcv:=hrc.v_eq
   exact wpIn_cond_split hcv (fun e=>ihx hrv hrd (hcl.sub fun h=>by simp only[noRange,Bool.and_eq_true] at h;exact h.1) dp σ ex k ta env hta Q a w w0 X ρ hB (h1 e) hr hl hex) fun e=>ihy hrv hrd (hcl.sub fun h=>by simp only[noRange,Bool.and_eq_true] at h;exact h.2) dp σ ex k tb env htb Q a w w0 X ρ hB (h2 e) hr hl hex
 | block id body ih=>
  intro B RetOk rv rd nd hrv hrd hcl dp σ ex k t env hc Q a w w0 X ρ hB hd hr hl hex
  simp only[compile,deepS_eq,Option.bind_eq_some_iff] at hc
  obtain⟨r,_,hc⟩:=hc
  split at hc
  ·refine wpIn_block (wpIn_mono (ih hrv hrd (hcl.sub fun h=>h) dp σ _ _ t env hc Q a w w0 X ρ hB hd hr hl fun id' e he=>hex id' e (exOf_filter he).2) fun e a' w' h=>?_)
   cases e with
   | normal=>obtain⟨_,_,_,_,_,_,_,_,h1,_⟩:=h;cases h1
   | exit id'=>
    obtain⟨w1',X1,e,ds,ρ',hB1,he,h2⟩:=h
    obtain⟨h3,h4⟩:=exOf_filter he
    simp only[Exit.inBlock]
    rw[if_neg h3]
    exact⟨w1',X1,e,ds,ρ',hB1,h4,h2⟩
   | ret=>exact h
   | goto l=>exact h
   | panic c=>exact h
   | outgrown=>exact h
  ·obtain⟨tb,tr,htb,htr,rfl⟩:=joinAt_some hc
   refine wpIn_block (wpIn_mono (ih hrv hrd (hcl.sub fun h=>h) (dp+1) σ _ _ tb env htb _ a w w0 X ρ hB hd hr hl fun id' e he=>?_) fun e a' w' h=>?_)
   ·simp only[exOf] at he
    split at he
    ·cases he;exact⟨Nat.lt_succ_self _,Nat.le_refl _⟩
    ·exact⟨Nat.lt_succ_of_lt (hex id' e he).1,(hex id' e he).2⟩
   ·cases e with
    | normal=>
     exact Post.join (RetOk:=RetOk) (dp':=dp+1) (e:=.normal) htr (fun id e he=>(hex id e he).1) h
    | exit id'=>
     obtain⟨w1',X1,e,ds,ρ',hB1,he,hQ,hrep,hlen⟩:=h
     simp only[exOf] at he
     simp only[Exit.inBlock]
     split at he
     ·rename_i e1
      cases he
      subst e1
      rw[if_pos rfl]
      simp only[catchL,if_true] at hQ
      rw[take_self] at hrep
      exact⟨w1',X1,env++ds,_,ρ',tr,hB1,prefix_append _ _,by rw[List.length_append,hQ.1];exact htr,hQ.2,hrep,hlen⟩
     ·rename_i e1
      rw[if_neg (Ne.symm e1)]
      refine⟨w1',X1,e,ds,ρ',hB1,he,?_,hrep,hlen⟩
      simp only[catchL] at hQ
      rwa [if_neg (Nat.ne_of_lt (hex id' e he).1)] at hQ
    | ret=>exact h
    | goto l=>exact h
    | panic c=>exact h
    | outgrown=>exact h
 | loop body ih=>
  intro B RetOk rv rd nd hrv hrd hcl dp σ ex k t env hc Q a w w0 X ρ hB hd hr hl hex
  simp only[compile,deepS_eq,Option.bind_eq_some_iff] at hc
  obtain⟨⟨tm,n⟩,_,hc⟩:=hc
  obtain⟨inits,tb,hin,htb,hn,rfl⟩:=loopAt_some hc
  simp only at hin htb hn
  obtain⟨ds,hev,m,hm⟩:=hd
  obtain⟨ρ1,hrep,h1,h2⟩:=matchR_rep hr (Nat.le_refl _) hin hev
  rw[cutEnv,take_self] at hrep
  have htl:Lens N tm:=⟨by rw[←h1];exact hl.1,by rw[←h2];exact hl.2⟩
  have key:∀(m:Nat) (ds:List D) (a:Act) (w w0:World) (X:Ent) (ρ:Rho),B w0 X→rounds dp (fun ds Q=>ds.length=inits.length∧den P tb (env++ds) Q) Q m ds→Rep w0 X w a tm (env++ds) ρ→Code.roundsIn (FW rd) nd P body (Post P B N RetOk env dp ex k Q) m a w:=by
   intro m
   induction m with
   | zero=>intro ds a w w0 X ρ _ hm _;exact hm.elim
   | succ m ihm=>
    intro ds a w w0 X ρ hB hm hrep
    obtain⟨hdl,hden⟩:=hm
    rw[roundsIn_succ]
    have hlen:(env++ds).length=env.length+n:=by rw[List.length_append,hdl,hn]
    refine wpIn_mono (ih hrv hrd (hcl.sub fun h=>h) (dp+1) tm ex _ tb (env++ds) (by rw[hlen];exact htb) _ a w w0 X ρ hB hden hrep htl fun id e he=>⟨Nat.lt_succ_of_lt (hex id e he).1,Nat.le_trans (hex id e he).2 (by simp)⟩) fun e a' w' h=>?_
    cases e with
    | normal=>
     obtain⟨w1',X1,env',σ',ρ',t',hB1,hpre,ht',hden',hrep',hl'⟩:=h
     obtain⟨args,hmt,rfl⟩:=Option.map_eq_some_iff.1 ht'
     obtain⟨ds',hev',hQ⟩:=hden'
     simp only[catchL,if_true] at hQ
     have hpre0:env <+: env':=(prefix_append env ds).trans hpre
     obtain⟨ρ2,hrep2,_,_⟩:=matchR_rep hrep' (List.IsPrefix.length_le hpre0) hmt hev'
     rw[cutEnv,take_prefix hpre0 (Nat.le_refl _),take_self] at hrep2
     exact ihm ds' a' w' w1' X1 ρ2 hB1 hQ hrep2
    | exit id=>
     obtain⟨w1',X1,e,ds',ρ',hB1,he,hQ,hrep',hlen'⟩:=h
     have hb:=(hex id e he)
     refine⟨w1',X1,e,ds',ρ',hB1,he,?_,by rw[←take_prefix (prefix_append env ds) hb.2];exact hrep',hlen'⟩
     simp only[catchL] at hQ
     rwa [if_neg (Nat.ne_of_lt hb.1)] at hQ
    | ret=>exact h
    | goto l=>exact h
    | panic c=>exact h
    | outgrown=>exact h
  exact wpIn_loop_rounds m (key m ds a w w0 X ρ1 hB hm hrep)
 | exit id=>
  intro B RetOk rv rd nd hrv hrd hcl dp σ ex k t env hc Q a w w0 X ρ hB hd hr hl hex
  simp only[compile,deepS_eq,Option.bind_eq_some_iff] at hc
  obtain⟨e,he,hc⟩:=hc
  obtain⟨args,hm,rfl⟩:=Option.map_eq_some_iff.1 hc
  obtain⟨ds,hev,hQ⟩:=hd
  obtain⟨ρ2,hrep,h1,h2⟩:=matchR_rep hr (hex id e he).2 hm hev
  exact wpIn_exit ⟨w0,X,e,ds,ρ2,hB,he,hQ,hrep,by rw[←h1];exact hl.1,by rw[←h2];exact hl.2⟩
 | ret=>
  intro B RetOk rv rd nd hrv hrd hcl dp σ ex k t env hc Q a w w0 X ρ hB hd hr hl hex
  simp only[compile,deepS_eq] at hc
  obtain⟨x,hx,rfl⟩:=Option.map_eq_some_iff.1 hc
  obtain⟨d,hev,hQ⟩:=hd
  exact wpIn_ret ⟨d,hQ,hrv w0 X hB σ x hx env ρ a w d hr hev⟩
 | rangeFunc g ps asg body iha ih=>
  intro B RetOk rv rd nd hrv hrd hcl dp σ ex k t env hc Q a w w0 X ρ hB hd hr hl hex
  simp only[compile,deepS_eq] at hc
  split at hc
  ·rename_i xg cf hE hg hhs
   split at hc
   ·cases hc
   ·rename_i hro
    have hro:cf.ro=false:=by simpa using hro
    split at hc
    ·rename_i q hq
     split at hc
     ·rename_i tb tr tq htb htr htq
      cases hc
      obtain⟨f,us,cs,bs,cds,d,bs',stop,h1,h2,h3,h4,h5,h6,h7,h8⟩:=hd
      have hlens:Lens N (setH σ (.sym env.length)):=by
       unfold setH
       rw[hhs]
       exact⟨by rw[SState.tmps_setObj];exact hl.1,by rw[SState.mlen_setObj];exact hl.2⟩
      refine rforx_sound (q:=q) hr hl hro hhs hB hg (fun l e=>hrd l e w0 X hB) ((hcl.resolve_left (by simp[noRange]))) (fun l w1 X1 σ1 env1 Q1 a1 w2 ρ1 g1 g2 g3 g4 g5 g6=>?_) (fun l w1 X1 σ1 env1 t1 b st2 a1 w2 ρ1 g1 g2 g3 g4 g5 g6=>?_) h1 h2 h3 h4 h5 h6 fun w1 X1 a' w' ρ' hB1 hrep=>?_
      ·refine iha (B:=fun w X=>w=w1∧X=X1) (rv:=fun _=>none) (RetOk:=fun _ _ _=>False) (rd:=some l) (nd:=0) (fun _ _ _ _ _ h=>by cases h) (fun l' e w3 X3 hB3=>by cases e;rw[hB3.1,hB3.2];exact g1) (.inr (.inl (by simp))) (dp+2) σ1 [] _ tb env1 ?_ Q1 a1 w2 w1 X1 ρ1 ⟨rfl,rfl⟩ g4 g5 g6 fun id e he=>by simp[exOf] at he
       rw[g2,g3]
       exact htb
      ·refine wpIn_mono (ih (B:=fun w X=>w=w1∧X=X1) (rv:=roundRet q) (RetOk:=fun w' a d=>∃σ env ρ x,Rep w1 X1 w' a σ env ρ∧roundRet q σ=some x∧x.eval env=some d) (rd:=some l) (nd:=0) (fun w3 X3 hB3 σ x hx env ρ a w d hr hd=>⟨σ,env,ρ,x,by rw[←hB3.1,←hB3.2];exact hr,hx,hd⟩) (fun l' e w3 X3 hB3=>by cases e;rw[hB3.1,hB3.2];exact g1) (.inr (.inl (by simp))) (dp+2) σ1 _ _ t1 env1 g2 _ a1 w2 w1 X1 ρ1 ⟨rfl,rfl⟩ g4 g5 g6 fun id e he=>?_) fun e a' w' h=>rendQ_of_post g3 h
       cases q with
       | none=>simp[roundEx,exOf] at he
       | some id'=>
        simp only[roundEx,exOf] at he
        split at he
        ·cases he;exact⟨by simp,g3⟩
        ·cases he
      ·cases stop with
       | false=>exact⟨w1,X1,env++[.st bs'],_,ρ',tr,hB1,prefix_append _ _,by rw[List.length_append];exact htr,h7 rfl,hrep,hlens⟩
       | true=>
        cases q with
        | none=>
         obtain⟨x,hx,rfl⟩:=Option.map_eq_some_iff.1 htq
         obtain⟨d',hev,hQ'⟩:=h8 rfl
         exact wpIn_ret ⟨d',hQ',hrv w1 X1 hB1 _ x hx _ ρ' a' w' d' hrep hev⟩
        | some id=>
         simp only[Option.bind_eq_some_iff] at htq
         obtain⟨e,he,htq⟩:=htq
         obtain⟨args,hm,rfl⟩:=Option.map_eq_some_iff.1 htq
         obtain⟨ds,hev,hQ'⟩:=h8 rfl
         obtain⟨ρ2,hrep2,k1,k2⟩:=matchR_rep hrep (Nat.le_trans (hex id e he).2 (by simp)) hm hev
         exact wpIn_exit ⟨w1,X1,e,ds,ρ2,hB1,he,hQ',by rw[←take_prefix (prefix_append env [.st bs']) (hex id e he).2];exact hrep2,by rw[←k1];exact hlens.1,by rw[←k2];exact hlens.2⟩
     ·cases hc
    ·split at hc
     ·rename_i tb tr htb htr
      cases hc
      obtain⟨f,us,cs,st,cds,d,st',h1,h2,h3,h4,h5,h6,h7,h8⟩:=hd
      refine rfor_sound hr hl hro hhs hB hg (fun l e=>hrd l e w0 X hB) ((hcl.resolve_left (by simp[noRange]))) (fun l w1 X1 σ1 env1 Q1 a1 w2 ρ1 g1 g2 g3 g4 g5 g6=>?_) (fun l w1 X1 σ1 env1 t1 Q1 a1 w2 ρ1 g1 g2 g4 g5 g6=>?_) h1 h2 h3 h4 h5 h6 h7 fun w1 X1 a' w' ρ' hB1 hrep=>?_
      ·refine iha (B:=fun w X=>w=w1∧X=X1) (rv:=fun _=>none) (RetOk:=fun _ _ _=>False) (rd:=some l) (nd:=0) (fun _ _ _ _ _ h=>by cases h) (fun l' e w3 X3 hB3=>by cases e;rw[hB3.1,hB3.2];exact g1) (.inr (.inl (by simp))) (dp+1) σ1 [] _ tb env1 ?_ Q1 a1 w2 w1 X1 ρ1 ⟨rfl,rfl⟩ g4 g5 g6 fun id e he=>by simp[exOf] at he
       rw[g2,g3]
       exact htb
      ·exact ih (B:=fun w X=>w=w1∧X=X1) (rv:=fun _=>none) (RetOk:=fun _ _ _=>False) (rd:=some l) (nd:=0) (fun _ _ _ _ _ h=>by cases h) (fun l' e w3 X3 hB3=>by cases e;rw[hB3.1,hB3.2];exact g1) (.inr (.inl (by simp))) (dp+1) σ1 [] _ t1 env1 g2 Q1 a1 w2 w1 X1 ρ1 ⟨rfl,rfl⟩ g4 g5 g6 fun id e he=>by simp[exOf] at he
      ·exact⟨w1,X1,env++[st'],_,ρ',tr,hB1,prefix_append _ _,by rw[List.length_append];exact htr,h8,hrep,by
        unfold setH
        rw[hhs]
        exact⟨by rw[SState.tmps_setObj];exact hl.1,by rw[SState.mlen_setObj];exact hl.2⟩⟩
     ·cases hc
  ·cases hc
 | refuse why=>
  intro B RetOk rv rd nd hrv hrd hcl dp σ ex k t env hc Q a w w0 X ρ hB hd
  simp only[compile] at hc
  rcases orStuck_some hc with hc | rfl
  ·cases hc
  ·exact absurd hd (stuck_den P)
 | _=>
  intro B RetOk rv rd nd hrv hrd hcl dp σ ex k t env hc
  simp[compile] at hc

end
end
end Go.Am
