/-
  Several texts, one behind the other.
-/
import Derived.Test.YtjnipnanfjglpaaGreatDoorAmFntoAmTabK
set_option linter.unusedSimpArgs false
set_option linter.unusedVariables false
namespace Go.Am
section
def Er (x:D):D:=if x.dG=true then x else .aM []
def kill (bs:List D):List D:=bs.map Er

theorem My (bs:List D):(kill bs).length=bs.length:=by simp[kill]

theorem m_ {bs:List D}{i:Nat}{x:D}(h:(kill bs)[i]? = some x)(hx:x.live=true):bs[i]? = some x:=by
 unfold kill at h
 rw[A0v] at h
 cases hb:bs[i]? with
 | none=>rw[hb] at h;cases h
 | some y=>
  rw[hb] at h
  simp only[A0y,A0u,Er] at h
  split at h
  ·rw[h]
  ·subst h;simp[D.live] at hx

theorem ck.kill {w:World}{S:Sets}{an:Nat→Prop}{bs:List D}(h:ck w S an bs):ck w S an (kill bs) where
 n:=by rw[My];exact h.n
 cells:=fun i e sz cs hi=>h.cells i e sz cs (m_ hi rfl)
 rH:=h.rH
 maps:=fun i bH hi=>h.maps i bH (m_ hi rfl)
 inj:=fun i j x y hi hj hx hy=>h.inj i j x y (m_ hi hx) (m_ hj hy) hx hy
 pV:=fun i z hi hz=>h.pV i z (m_ hi (D.ff hz)) hz

theorem bC.kill {P:Program}{f:FuncId}{h:D}{ds:List D}{o:Out}{bs:List D}(hs:bC P f h ds o (.st bs)):bC P f h ds o (.st (kill bs)):=by
 intro w S an nF vs e h1 h2 h3 h4 h5 h6
 refine(hs w S an nF vs e h1 h2 h3 h4 h5 h6).mono ?_
 rintro e W' ⟨v,S',bf,bs',k1,k2,k3,k4⟩
 cases k2
 exact⟨v,S',bf,Go.Am.kill bs,k1,rfl,k3.kill,k4⟩

section
variable {P:Program} {u v:U} {env aW:List D} {Q:eV→Prop} {g h x:E} {st h' d:D} {ds:List D} {args:List E} {rs:List Bool} {p q:Bool}

theorem BP (hg:g.eval env=some (.v (.bool p)))(hp:p=false)(k:so P u (env++[.v (.bool false)]) Q):aJ P (.chain false g v u) env Q:=by
 subst hp
 exact⟨false,false,hg,fun e=>by simp at e,k⟩

theorem R1 {body rest:U}{f:FuncId}{us cs cU:List D}{bF:List E}{sl:List Nat}{n l:Nat}(d:D)(cG:D)(hx:x.eval env=some (.fn f us cs))(hc:bu P f=true)(hh:h.eval env=some st)(hcd:aq env bF=some cU)(hn:aT cU=true)(hn':cG.dG=true)(hb:∀(m:Nat) (rec:Loop),(∀me ds gA,me.dG=true→aT ds=true→ds.length=n→aJ P body (env++[me]++ds) (fun s=>s=.jump l [gA])→nI P (.yl m rec sl cU) me ds gA)→bt P f st (us++[.yl m rec sl cU]++cs) d cG)(he:env++[cG]=aW)(k:aJ P rest aW Q):aJ P (.lZ x h sl bF n l body rest) env Q:=by
 subst he
 exact⟨f,us,cs,st,cU,d,cG,hx,hc,hh,hcd,hn,hn',hb,k⟩

end

section
variable {bs r:List D} {e e':TypeId} {n sz:Nat} {d0 d:D}

theorem mc {cs0:List D}(hl:cs0.length=n)(hd:d.cells.length=n)(ho:d.cells.all (·.one)=true):D.eY n (.st (bs++[.bh e sz cs0])) (.loc bs.length 0) d=some (.st (bs++[.bh e sz d.cells])):=by
 have h1:(bs++[D.bh e sz cs0])[bs.length]? = some (.bh e sz cs0):=by simp
 simp only[D.eY,D.dJ,h1,A0d,hd,ho,B0k,hl,A0m,and_self,if_true,List.take_zero,A0r]
 rw[List.drop_eq_nil_of_le (by omega),List.append_nil]
 simp

end
end

section
section
variable {P:Program} {u:U} {env aW:List D} {Q:eV→Prop} {g h x:E} {st h' d:D} {ds:List D} {args:List E} {rs:List Bool}

theorem FU {xd:D}(hh:h.eval env=some st)(hx:x.eval env=some xd)(ha:aq env args=some ds)(hc:t_ P xd st ds d h')(hr:d.fits rs=true)(he:env++[.aM [d,h']]=aW)(k:aJ P u aW Q):aJ P (.gen (.dA [] x h args rs) u) env Q:=by
 subst he
 exact⟨.aM [d,h'],⟨fun p hp=>by simp at hp,st,d,h',hh,fun _=>⟨xd,ds,hx,ha,hc,hr⟩,fun hn=>absurd (fun p hp=>by simp at hp) hn,⟨_,by simp[E.eval],rfl⟩⟩,k⟩

theorem Lt {b:Bool}{xd:D}(hg:g.eval env=some (.v (.bool b)))(hb:b=true)(hh:h.eval env=some st)(hx:x.eval env=some xd)(ha:aq env args=some ds)(hc:t_ P xd st ds d h')(hr:d.fits rs=true)(he:env++[.aM [d,h']]=aW)(k:aJ P u aW Q):aJ P (.gen (.dA [(g,true)] x h args rs) u) env Q:=by
 subst he
 subst hb
 refine⟨.aM [d,h'],⟨?_,st,d,h',hh,fun _=>⟨xd,ds,hx,ha,hc,hr⟩,fun hn=>absurd ?_ hn,?_⟩,k⟩
 ·intro p hp;simp at hp;subst hp;exact⟨_,hg⟩
 ·intro p hp;simp at hp;subst hp;exact hg
 ·exact⟨_,by simp[E.eval],rfl⟩

theorem Io {b:Bool}(d:D)(hg:g.eval env=some (.v (.bool b)))(hb:b=false)(hh:h.eval env=some st)(he:env++[.aM [d,st]]=aW)(k:aJ P u aW Q):aJ P (.gen (.dA [(g,true)] x h args rs) u) env Q:=by
 subst he
 subst hb
 refine⟨.aM [d,st],⟨?_,st,d,st,hh,fun ha=>?_,fun _=>rfl,?_⟩,k⟩
 ·intro p hp;simp at hp;subst hp;exact⟨_,hg⟩
 ·have:=ha (g,true) (by simp)
  rw[hg] at this
  simp[D.bool] at this
 ·exact⟨_,by simp[E.eval],rfl⟩

theorem Va {v:U}{p:Bool}(hg:g.eval env=some (.v (.bool p)))(hp:p=true)(k:so P u (env++[.v (.bool true)]) Q):aJ P (.chain true g v u) env Q:=by
 subst hp
 exact⟨true,true,hg,fun e=>by simp at e,k⟩

theorem CS:∃cU,aq env []=some cU∧aT cU=true:=⟨[],rfl,rfl⟩
theorem zB {r:List E}(hx:x.eval env=some d)(hd:d.dG=true)(hr:∃cU,aq env r=some cU∧aT cU=true):∃cU,aq env (x :: r)=some cU∧aT cU=true:=by
 obtain⟨cU,h1,h2⟩:=hr
 exact⟨d :: cU,by simp[aq,hx,h1],by simp[aT,hd,h2]⟩

theorem BN {body rest:U}{f:FuncId}{us cs:List D}{bF:List E}{sl:List Nat}{n l:Nat}(d:D)(cG:D)(hx:x.eval env=some (.fn f us cs))(hc:bu P f=true)(hh:h.eval env=some st)(hcd:∃cU,aq env bF=some cU∧aT cU=true)(hn':cG.dG=true)(hb:∀(cU:List D) (m:Nat) (rec:Loop),(∀me ds gA,me.dG=true→aT ds=true→ds.length=n→aJ P body (env++[me]++ds) (fun s=>s=.jump l [gA])→nI P (.yl m rec sl cU) me ds gA)→bt P f st (us++[.yl m rec sl cU]++cs) d cG)(he:env++[cG]=aW)(k:aJ P rest aW Q):aJ P (.lZ x h sl bF n l body rest) env Q:=by
 obtain⟨cU,h1,h2⟩:=hcd
 exact R1 d cG hx hc hh h1 h2 hn' (hb cU) he k

end
end

section
def Wk (bs bs':List D):Prop:=bs'.length=bs.length∧∀(i:Nat) (x:D),bs'[i]? = some x→x.live=true→bs[i]? = some x

theorem ck.Lm {w:World}{S:Sets}{an:Nat→Prop}{bs bs':List D}(h:ck w S an bs)(hw:Wk bs bs'):ck w S an bs' where
 n:=h.n.trans hw.1.symm
 cells i e sz cs hi:=h.cells i e sz cs (hw.2 i _ hi rfl)
 rH:=h.rH
 maps i bH hi:=h.maps i bH (hw.2 i _ hi rfl)
 inj i j x y hi hj hx hy:=h.inj i j x y (hw.2 i x hi hx) (hw.2 j y hj hy) hx hy
 pV i z hi hz:=h.pV i z (hw.2 i _ hi (D.ff hz)) hz

theorem Wk.refl (bs:List D):Wk bs bs:=⟨rfl,fun _ _ h _=>h⟩

theorem dW.Wk {P:Program}{f:FuncId}{cf:bV}{aL:List Bool}{u:U}{ds bs bs':List D}{d:D}(h:dW P f .plain cf aL u)(hfit:cW aL ds=true)(eb:aJ P u (ds++[.st bs]) (fun s=>∃ew,s=.ret (.aM [d,.st ew])∧Go.Am.Wk ew bs')):bt P f (.st bs) ds d (.st bs'):=by
 obtain⟨fn,hf,rfl,hc⟩:=h
 obtain⟨t,h1,h2⟩:=A0c.1 hc
 obtain⟨hl,_⟩:=eR hfit
 have hd:=lH (by simpa[←hl] using h2) eb
 intro w S an nF vs hb hst dF hfl hS hvl hrd
 cases hb
 refine(lf (Qd:=fun d' st=>d'=d∧∃ew,st=.st ew∧Go.Am.Wk ew bs') (Qp:=fun _ _=>False) (may:=an) hf h1 hfit (cB (fun s hs=>?_) hd) hst dF hfl hS hvl hrd (fun _ h=>.inr h) fun _ h=>h).mono ?_
 ·obtain⟨ew,rfl,hw⟩:=hs
  exact⟨rfl,ew,rfl,hw⟩
 ·rintro e w' ⟨o',v,S',bf,gi,hq,c_,hl⟩
  cases o' with
  | dI x=>exact hq.elim
  | ret x=>
   obtain⟨rfl,ew,e1,hw⟩:=hq
   cases e1
   exact⟨v,S',bf,bs',c_,rfl,hl.st.Lm hw,fun b o hs=>World.cell?_of_block (a:=⟨b,o,none⟩) (hl.old b (hS b o hs) fun hf=>hst.rH b o hf hs),hl.le,hl.os,hl.tape,hl.output,hl.size,hl.old,hl.ft,hl.new,hl.lt⟩
end

section
theorem e_:∀{a b:List D},aT (a++b)=(aT a&&aT b)
 | [],b=>by simp[aT]
 | x :: a,b=>by simp[aT,e_ (a:=a),Bool.and_assoc]

theorem uH:∀{ds:List D},(∀d,d∈ds→d.dG=true)→aT ds=true
 | [],_=>rfl
 | x :: r,h=>by simp[aT,h x (by simp),uH (ds:=r) fun d hd=>h d (by simp[hd])]

theorem lC {α:Type}{f:α→D}{xs:List α}(h:∀x,x∈xs→(f x).dG=true):aT (xs.map f)=true:=uH fun d hd=>by
 obtain⟨x,hx,rfl⟩:=B0r.1 hd
 exact h x hx

def lQ (bs:List D)(N:Nat)(ks:List (Nat×D)):List D:=
 (List.range N).map fun i=>if i<bs.length then bs.getD i (.aM []) else((ks.find? fun p=>p.1==i).map (·.2)).getD (.aM [])

variable {bs:List D} {N:Nat} {ks:List (Nat×D)}

theorem MA:(lQ bs N ks).length=N:=by simp[lQ]

theorem PD {ew:List D}(h1:ew.length=N)(h2:∀i,i<bs.length→ew[i]? = bs[i]?)(h3:∀p,p∈ks→ew[p.1]? = some p.2):Wk ew (lQ bs N ks):=by
 refine⟨by rw[MA,h1],fun i x hi hx=>?_⟩
 simp only[lQ,A0v] at hi
 cases hr:(List.range N)[i]? with
 | none=>rw[hr] at hi;cases hi
 | some k=>
  obtain⟨hk,rfl⟩:i<N∧k=i:=by
   obtain⟨h4,h5⟩:=A0a.1 hr
   simp at h4 h5
   exact⟨h4,h5.symm⟩
  rw[hr] at hi
  simp only[A0y,A0u] at hi
  split at hi
  ·rename_i hb
   rw[h2 _ hb,A0f hb]
   rw[A0i,A0f hb] at hi
   simpa using hi
  ·cases hf:ks.find? (fun p=>p.1==k) with
   | none=>rw[hf] at hi;simp at hi;subst hi;cases hx
   | some p=>
    rw[hf] at hi
    simp only[A0y,B0m] at hi
    have hp:=List.find?_some hf
    simp at hp
    have:=h3 p (List.mem_of_find?_eq_some hf)
    rw[hp,hi] at this
    exact this

theorem dW.keep {P:Program} {f:FuncId} {cf:bV} {aL:List Bool} {u:U} {ds bs:List D} {d:D} (h:dW P f .plain cf aL u) (hfit:cW aL ds=true) (N:Nat) (ks:List (Nat×D))
  (eb:aJ P u (ds++[.st bs]) (fun s=>∃ew,s=.ret (.aM [d,.st ew])∧ew.length=N∧(∀i,i<bs.length→ew[i]? = bs[i]?)∧∀p,p∈ks→ew[p.1]? = some p.2)):bt P f (.st bs) ds d (.st (lQ bs N ks)):=
 h.Wk hfit (cz (fun s ⟨ew,e,h1,h2,h3⟩=>⟨ew,e,PD h1 h2 h3⟩) eb)
end

section
variable {P:Program} {f:FuncId} {h:D} {ds:List D} {bs:List D} {b n sz:Nat} {e:TypeId} {cs es:List D}

theorem bt.Kt (hs:bt P f h ds (.sl b 0 n) (.st bs)) (hb:bs[b]? = some (.bh e sz cs)) (hcs:cs.length=n*sz) (iJ:es.length=n)
  (he:∀(i:Nat) (x:D),es[i]? = some x→x.cells.length=sz∧∀(j:Nat) (d:D),x.cells[j]? = some d→cs[i*sz+j]? = some d):bt P f h ds (.a_ es) (.st (bs.set b (.aM []))):=by
 intro w S an nF vs heq hst dF hfl hS hvl hrd
 refine(hs w S an nF vs heq hst dF hfl hS hvl hrd).mono ?_
 rintro e' w' ⟨v,S',bf,bs',c_,heq',cL,hk,hle,hos,S_,hout,hsz,hold,tv,hmem,hlt⟩
 cases heq'
 obtain⟨rfl,hv⟩:=c_
 obtain⟨OP,vals,hca,hvs,dP,hone,MZ,jk⟩:=cL.cells b e sz cs hb
 obtain⟨e2,oX,_⟩:=id hca
 have yY:∀{i:Nat} {x:D},bs[i]? = some x→x.live=true→i≠b→S'.loc i≠S'.loc b:=fun hi hx G9 hl=>G9 (cL.inj _ _ _ _ hi hb hx rfl hl)
 let S2:Sets:={ S' with mem:=fun x o=>S' x o∨(x=S'.loc b∧o<cs.length) }
 have o8:S'≤S2:=⟨fun _ _ h=>.inl h,A0m _,fun _ _=>rfl,fun _ _=>rfl,rfl,fun _ _=>rfl⟩
 have Aq:bp S' w' w':=fun _ _ _=>rfl
 have iY:∀{i:Nat} {x:D},(bs.set b (.aM []))[i]? = some x→x.live=true→i≠b∧bs[i]? = some x:=by
  intro i x hi hx
  rw[A0x] at hi
  split at hi
  ·split at hi
   ·cases hi;cases hx
   ·cases hi
  ·rename_i hne
   exact⟨fun e=>hne e.symm,hi⟩
 refine⟨v,S2,fun x=>bf x∧x≠S'.loc b,bs.set b (.aM []),⟨rfl,?_⟩,rfl,?_,hk,Sets.le_trans hle o8,hos,S_,hout,hsz,hold,fun x hx=>tv x hx.1,fun x o hx=>?_,fun x o hx=>?_⟩
 ·cases hv with
  | sl hn hl hc h0=>
  refine .a_ (size:=sz) (val:=fun i j=>vals.getD (i*sz+j) .nilFunc) iJ.symm hl hc (fun i x hx=>(he i x hx).1) (fun i x j d hx hd=>hone _ _ ((he i x hx).2 j d hd)) (fun i x j d hx hd=>.inr ⟨rfl,?_⟩) (fun i x j d hx hd=>?_) fun i x j d hx hd=>?_
  ·rw[B0k]
   exact(A0a.1 ((he i x hx).2 j d hd)).1
  ·have h1:=(A0a.1 ((he i x hx).2 j d hd)).1
   have h2:i*sz+j<vals.size:=A0s h1 dP
   rw[eE oX,B0k,A0o h2,A0p,A0o h2]
   rfl
  ·have h1:=(A0a.1 ((he i x hx).2 j d hd)).1
   have h2:i*sz+j<vals.size:=A0s h1 dP
   exact(MZ (i*sz+j) _ d (by rw[A0p,A0o h2];rfl) ((he i x hx).2 j d hd)).keep Aq o8
 ·refine⟨by simpa using cL.n,fun i e1 sz1 cs1 hi=>?_,fun x off hx=>?_,fun i bH hi=>?_,fun i j x y hi hj hx hy hl=>?_,fun i z hi hz=>?_⟩
  ·obtain⟨G9,hi⟩:=iY hi rfl
   obtain⟨a1,v1,a2,a3,a4,a5,a6,a7⟩:=cL.cells i e1 sz1 cs1 hi
   have hne:=yY hi rfl G9
   exact⟨⟨a1,hne⟩,v1,a2,a3,a4,a5,fun j v d hv hd=>(a6 j v d hv hd).keep Aq o8,fun off ho=>ho.elim (a7 off) fun g=>hne g.1⟩
  ·exact fun ho=>ho.elim (cL.rH x off hx.1) fun g=>hx.2 g.1
  ·obtain⟨G9,hi⟩:=iY hi rfl
   obtain⟨a1,es1,clock,a2,a3,a4,a5⟩:=cL.maps i bH hi
   have hne:=yY hi rfl G9
   exact⟨⟨a1,hne⟩,es1,clock,a2,a3,fun off ho=>ho.elim (a4 off) fun g=>hne g.1,fun j e1 kv h1 h2=>by
    obtain⟨dk,dv,q1,q2,q3⟩:=a5 j e1 kv h1 h2
    exact⟨dk,dv,q1,q2.keep Aq o8,q3.keep Aq o8⟩⟩
  ·exact cL.inj i j x y (iY hi hx).2 (iY hj hy).2 hx hy hl
  ·obtain⟨G9,hi⟩:=iY hi (D.ff hz)
   obtain⟨a1,a2,a4⟩:=cL.pV i z hi hz
   have hne:=yY hi (D.ff hz) G9
   exact⟨⟨a1,hne⟩,a2,fun off ho=>ho.elim (a4 off) fun g=>hne g.1⟩
 ·rcases hx with hx | ⟨rfl,_⟩
  ·exact hmem x o hx
  ·rcases(tv _ OP).1 with g | g
   ·exact .inr (.inl g)
   ·exact .inr (.inr g)
 ·rcases hx with hx | ⟨rfl,_⟩
  ·exact hlt x o hx
  ·exact(tv _ OP).2

theorem bt.TV (hs:bt P f h ds .cO (.st bs)):bt P f h ds (.a_ []) (.st bs):=by
 intro w S an nF vs heq hst dF hfl hS hvl hrd
 refine(hs w S an nF vs heq hst dF hfl hS hvl hrd).mono ?_
 rintro e' w' ⟨v,S',bf,bs',⟨rfl,hv⟩,hr⟩
 cases hv with
 | cO=>exact⟨_,S',bf,bs',⟨rfl,.nil⟩,hr⟩
end

section
variable {P:Program} {f:FuncId} {h:D} {ds:List D} {bs:List D} {b n sz:Nat} {e:TypeId} {cs es:List D} {x2:Value}
end

section
theorem fE:∀(l:List D) (k:Nat) (x:D),aT l=true→x.dG=true→aT (l.set k x)=true
 | [],_,_,_,_=>rfl
 | a :: r,0,x,h,hx=>by
  simp only[aT,A0g] at h
  simp[aT,h.2,hx]
 | a :: r,k+1,x,h,hx=>by
  simp only[aT,A0g] at h
  simp[aT,h.1,fE r k x h.2 hx]

structure o_ {α:Type}(b1:List D)(o:Nat)(ty e:TypeId)(sz:Nat)(enc:α→List D)(st:List D)(xs:List α):Prop where
 len:b1.length≤st.length
 old:∀i,i<b1.length→i≠o→st[i]? = b1[i]?
 ov:∃s,st[o]? = some (.bh ty 1 [s])∧lu st e sz enc s xs∧∀b,s.KZ=some b→b1.length≤b
 ny:aT st=true

section
variable {α:Type} {b1:List D} {o:Nat} {ty e:TypeId} {sz:Nat} {enc:α→List D} {st:List D} {xs:List α}

theorem o_.push (h:o_ b1 o ty e sz enc st xs)(ho:o<b1.length){x:D}(hx:x.dG=true):o_ b1 o ty e sz enc (st++[x]) xs where
 len:=by have:=h.len;simp;omega
 old i hi hne:=by rw[A0j (A0s hi h.len)];exact h.old i hi hne
 ov:=by
  obtain⟨s,h1,h2,h3⟩:=h.ov
  exact⟨s,by rw[A0j (A0s ho h.len)];exact h1,h2.keep fun i hi=>A0j (h2.lt hi),h3⟩
 ny:=by rw[e_,h.ny];simp[aT,hx]

theorem x9:∀(l:List D) (k:Nat),aT l=true→aT (l.take k)=true
 | [],k,_=>by simp[aT]
 | x :: l,0,_=>rfl
 | x :: l,k+1,h=>by
  simp only[aT,A0g] at h
  simp only[List.take_succ_cons,aT,A0g]
  exact⟨h.1,x9 l k h.2⟩

theorem o_.app (h:o_ b1 o ty e sz enc st xs)(ho:o<b1.length){bytes:Nat}{x:α}{y:D}(hsz:∀x,(enc x).length=sz)(hy:y.cells=enc x)(hone:(enc x).all (·.one)=true)(hn:aT (enc x)=true)(hb:(xs.length+1)*bytes≤140737488355328)(hm:xs.length+1≤maxLen) :
  ∃s ew gA,st[o]? = some (.bh ty 1 [s])∧D.fC e sz bytes (.st st) s (.a_ [y])=some (.st ew)∧D.apps (.st st) s (.a_ [y])=some (.sl st.length 0 (xs.length+1))∧D.eY 1 (.st ew) (.loc o 0) (.sl st.length 0 (xs.length+1))=some (.st gA) ∧
   o_ b1 o ty e sz enc gA (xs++[x])∧st.length≤gA.length∧∀(k:Nat) (e':TypeId) (sz':Nat) (cs':List D),st[k]? = some (.bh e' sz' cs')→e'≠e→k≠o→gA[k]? = some (.bh e' sz' cs'):=by
 obtain⟨s,h1,h2,h3⟩:=h.ov
 obtain⟨ew,a1,a2,a3,a4,a5⟩:=h2.append (bytes:=bytes) hsz hy hone hb hm
 have K5:o<st.length:=A0s ho h.len
 have hno:aT ew=true:=by
  have UK:aT (bI [y])=true:=by simpa[bI,hy] using hn
  rcases h2 with⟨rfl,rfl⟩ | ⟨i,rfl,hi⟩
  ·simp only[D.fC,D.Dj,List.cons_ne_nil,if_false] at a1
   split at a1
   ·cases a1
    rw[e_,h.ny]
    simp[aT,D.dG,UK]
   ·cases a1
  ·simp only[D.fC,D.Dj,List.cons_ne_nil,if_false] at a1
   simp only[D.dJ,hi,A0d] at a1
   split at a1
   ·cases a1
    have hin:=ef h.ny hi
    rw[e_,fE st i (.aM []) h.ny rfl]
    simp only[D.dG] at hin
    simp[aT,D.dG,e_,hin,UK]
   ·split at a1
    ·cases a1
     have hin:=ef h.ny hi
     rw[e_,fE st i (.aM []) h.ny rfl]
     simp only[D.dG] at hin
     simp[aT,D.dG,e_,x9 _ _ hin,UK]
    ·cases a1
 have UM:s.KZ≠some o:=fun hs=>by have:=h3 o hs;omega
 have FG:ew[o]? = some (.bh ty 1 [s]):=by rw[a5 o K5 UM,h1]
 refine⟨s,ew,_,h1,a1,a2,jq FG (by simp) rfl,⟨?_,fun i hi hne=>?_,⟨.sl st.length 0 (xs.length+1),?_,.inr ⟨st.length,by simp,?_⟩,fun b hb'=>?_⟩,?_⟩,?_,fun k e' sz' cs' hk he hne=>?_⟩
 ·rw[List.length_set,a4];have:=h.len;omega
 ·rw[B0l (Ne.symm hne),a5 i (A0s hi h.len) (fun hs=>by have:=h3 i hs;omega)]
  exact h.old i hi hne
 ·rw[List.getElem?_set_self (by rw[a4];omega)]
  rfl
 ·rw[B0l (by omega)]
  exact a3
 ·cases hb'
  exact h.len
 ·exact fE _ _ _ hno (by simp[D.dG,aT])
 ·rw[List.length_set,a4];omega
 ·rw[B0l (Ne.symm hne),a5 k (A0a.1 hk).1 (fun hs=>?_)]
  ·exact hk
  ·have:=h2.bh hs
   rw[hk] at this
   cases this
   exact he rfl

end

theorem Iv {R:Nat→List D→List D→Prop}{J:Nat→List D→Prop}{N:Nat}{s0:List D}(h0:J 0 s0)(hs:∀k st,k<N→J k st→∃cG,R k st cG∧J (k+1) cG) :
  ∃f:Nat→List D,f 0=s0∧(∀k,k≤N→J k (f k))∧∀k,k<N→R k (f k) (f (k+1)):=by
 induction N with
 | zero=>exact⟨fun _=>s0,rfl,fun k hk=>by rw[Nat.le_zero.1 hk];exact h0,fun k hk=>absurd hk (Nat.not_lt_zero _)⟩
 | succ N ih=>
  obtain⟨f,f0,f1,f2⟩:=ih fun k st hk hJ=>hs k st (by omega) hJ
  obtain⟨cG,r1,r2⟩:=hs N (f N) (by omega) (f1 N (A0m _))
  refine⟨fun k=>if k≤N then f k else cG,by simp[f0],fun k hk=>?_,fun k hk=>?_⟩
  ·simp only
   split
   ·exact f1 k (by assumption)
   ·rw[show k=N+1 by omega];exact r2
  ·simp only
   rw[if_pos (by omega)]
   split
   ·exact f2 k (by omega)
   ·rw[show k=N by omega];exact r1
end
end Go.Am
