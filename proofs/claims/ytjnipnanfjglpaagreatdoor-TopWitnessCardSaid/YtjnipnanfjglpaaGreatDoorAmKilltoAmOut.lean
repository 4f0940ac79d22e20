/- Texts. -/
import Derived.Test.YtjnipnanfjglpaaGreatDoorAmUtoAmTabK
import Derived.Test.YtjnipnanfjglpaaGreatDoorAmSoundtoAmUT
set_option linter.unusedSimpArgs false
set_option linter.unusedVariables false
namespace Go.Am
section
section
variable {P:Program} {u v:U} {env bB:List D} {Q:gu→Prop} {g h x:E} {st h' d:D} {ds:List D} {args:List E} {rs:List Bool} {p q:Bool}
theorem R_ {body rest:U}{f:FuncId}{us cs eH:List D}{cr:List E}{sl:List Nat}{n l:Nat}(d:D)(eT:D)(hx:x.eval env=some (.fn f us cs))(hc:bL P f=true)(hh:h.eval env=some st)(hcd:aA env cr=some eH)(hn:aN eH=true)(Yc:eT.bZ=true)(hb:∀(m:Nat) (rec:Loop),(∀st1 ds st2,st1.bZ=true→aN ds=true→ds.length=n→bp P body (env++[st1]++ds) (fun s=>s=.jump l [st2])→r7 P (.yl m rec sl eH) st1 ds st2)→aZ P f st (us++[.yl m rec sl eH]++cs) d eT)(he:env++[eT]=bB)(k:bp P rest bB Q):bp P (.nW x h sl cr n l body rest) env Q:=by subst he;exact⟨f,us,cs,st,eH,d,eT,hx,hc,hh,hcd,hn,Yc,hb,k⟩
end
section
variable {bs r:List D} {e e':TypeId} {n sz:Nat} {d0 d:D}
theorem Gf {cs0:List D}(hl:cs0.length=n)(hd:d.cells.length=n)(ho:d.cells.all (·.one)=true):D.eL n (.st (bs++[.blk e sz cs0])) (.loc bs.length 0) d=some (.st (bs++[.blk e sz d.cells])):=by
 have h1:(bs++[D.blk e sz cs0])[bs.length]? = some (.blk e sz cs0):=by simp
 simp only[D.eL,D.eG,h1,A0d,hd,ho,A0Q,hl,A0m,and_self,B0d,D0E,A0j];rw[D0z (by omega),B0F];simp
end
end
section
section
variable {P:Program} {u:U} {env bB:List D} {Q:gu→Prop} {g h x:E} {st h' d:D} {ds:List D} {args:List E} {rs:List Bool}
theorem BG {xd:D}(hh:h.eval env=some st)(hx:x.eval env=some xd)(ha:aA env args=some ds)(hc:yg P xd st ds d h')(hr:d.fits rs=true)(he:env++[.a_ [d,h']]=bB)(k:bp P u bB Q):bp P (.gen (.dG [] x h args rs) u) env Q:=by subst he;exact⟨.a_ [d,h'],⟨fun p hp=>by simp at hp,st,d,h',hh,fun _=>⟨xd,ds,hx,ha,hc,hr⟩,fun hn=>absurd (fun p hp=>by simp at hp) hn,⟨_,by simp[E.eval],rfl⟩⟩,k⟩
theorem aaO {b:Bool}{xd:D}(hg:g.eval env=some (.v (.bool b)))(hb:b=true)(hh:h.eval env=some st)(hx:x.eval env=some xd)(ha:aA env args=some ds)(hc:yg P xd st ds d h')(hr:d.fits rs=true)(he:env++[.a_ [d,h']]=bB)(k:bp P u bB Q):bp P (.gen (.dG [(g,true)] x h args rs) u) env Q:=by
 subst he;subst hb;refine⟨.a_ [d,h'],⟨?_,st,d,h',hh,fun _=>⟨xd,ds,hx,ha,hc,hr⟩,fun hn=>absurd ?_ hn,?_⟩,k⟩
 ·intro p hp;simp at hp;subst hp;exact⟨_,hg⟩
 ·intro p hp;simp at hp;subst hp;exact hg
 ·exact⟨_,by simp[E.eval],rfl⟩
theorem WT {b:Bool}(d:D)(hg:g.eval env=some (.v (.bool b)))(hb:b=false)(hh:h.eval env=some st)(he:env++[.a_ [d,st]]=bB)(k:bp P u bB Q):bp P (.gen (.dG [(g,true)] x h args rs) u) env Q:=by
 subst he;subst hb;refine⟨.a_ [d,st],⟨?_,st,d,st,hh,fun ha=>?_,fun _=>rfl,?_⟩,k⟩
 ·intro p hp;simp at hp;subst hp;exact⟨_,hg⟩
 ·have:=ha (g,true) (by simp);rw[hg] at this;simp[D.bool] at this
 ·exact⟨_,by simp[E.eval],rfl⟩
theorem aey {v:U}{p:Bool}(hg:g.eval env=some (.v (.bool p)))(hp:p=true)(k:vZ P u (env++[.v (.bool true)]) Q):bp P (.chain true g v u) env Q:=by subst hp;exact⟨true,true,hg,fun e=>by simp at e,k⟩
theorem HC:∃eH,aA env []=some eH∧aN eH=true:=⟨[],rfl,rfl⟩
theorem Dx {r:List E}(hx:x.eval env=some d)(hd:d.bZ=true)(hr:∃eH,aA env r=some eH∧aN eH=true):∃eH,aA env (x :: r)=some eH∧aN eH=true:=by obtain⟨eH,h1,h2⟩:=hr;exact⟨d :: eH,by simp[aA,hx,h1],by simp[aN,hd,h2]⟩
theorem Gc {body rest:U}{f:FuncId}{us cs:List D}{cr:List E}{sl:List Nat}{n l:Nat}(d:D)(eT:D)(hx:x.eval env=some (.fn f us cs))(hc:bL P f=true)(hh:h.eval env=some st)(hcd:∃eH,aA env cr=some eH∧aN eH=true)(Yc:eT.bZ=true)(hb:∀(eH:List D) (m:Nat) (rec:Loop),(∀st1 ds st2,st1.bZ=true→aN ds=true→ds.length=n→bp P body (env++[st1]++ds) (fun s=>s=.jump l [st2])→r7 P (.yl m rec sl eH) st1 ds st2)→aZ P f st (us++[.yl m rec sl eH]++cs) d eT)(he:env++[eT]=bB)(k:bp P rest bB Q):bp P (.nW x h sl cr n l body rest) env Q:=by obtain⟨eH,h1,h2⟩:=hcd;exact R_ d eT hx hc hh h1 h2 Yc (hb eH) he k
end
end
section
def Wk (bs bs':List D):Prop:=bs'.length=bs.length∧∀(i:Nat) (x:D),bs'[i]? = some x→x.live=true→bs[i]? = some x
theorem cI.RZ {w:World}{S:Sets}{az:Nat→Prop}{bs bs':List D}(h:cI w S az bs)(hw:Wk bs bs'):cI w S az bs' where
 n:=h.n.trans hw.1.symm
 cells i e sz cs hi:=h.cells i e sz cs (hw.2 i _ hi rfl)
 v_:=h.v_
 maps i bU hi:=h.maps i bU (hw.2 i _ hi rfl)
 inj i j x y hi hj hx hy:=h.inj i j x y (hw.2 i x hi hx) (hw.2 j y hj hy) hx hy
 s7 i z hi hz:=h.s7 i z (hw.2 i _ hi (D.gb hz)) hz
theorem Wk.refl (bs:List D):Wk bs bs:=⟨rfl,fun _ _ h _=>h⟩
theorem bP.Wk {P:Program}{f:FuncId}{cf:cF}{bn:List Bool}{u:U}{ds bs bs':List D}{d:D}(h:bP P f .plain cf bn u)(dQ:dA bn ds=true)(fD:bp P u (ds++[.st bs]) (fun s=>∃fN,s=.ret (.a_ [d,.st fN])∧Go.Am.Wk fN bs')):aZ P f (.st bs) ds d (.st bs'):=by
 obtain⟨fn,hf,rfl,hc⟩:=h;obtain⟨t,h1,h2⟩:=A0b.1 hc;obtain⟨hl,_⟩:=fU dQ;have hd:=nT (by simpa[←hl] using h2) fD;intro w S az oD vs hb hst dN fG hS iL bO;cases hb;refine(nE (Qd:=fun d' st=>d'=d∧∃fN,st=.st fN∧Go.Am.Wk fN bs') (Qp:=fun _ _=>False) (may:=az) hf h1 dQ (dJ (fun s hs=>?_) hd) hst dN fG hS iL bO (fun _ h=>.inr h) fun _ h=>h).mono ?_
 ·obtain⟨fN,rfl,hw⟩:=hs;exact⟨rfl,fN,rfl,hw⟩
 ·rintro e w' ⟨o',v,S',bJ,nS,hq,eb,hl⟩
  cases o' with
  | ee x=>exact hq.elim
  | ret x=>
   obtain⟨rfl,fN,e1,hw⟩:=hq;cases e1;exact⟨v,S',bJ,bs',eb,rfl,hl.st.RZ hw,fun b o hs=>A0V (a:=⟨b,o,none⟩) (hl.old b (hS b o hs) fun hf=>hst.v_ b o hf hs),hl.le,hl.os,hl.tape,hl.output,hl.size,hl.old,hl.ft,hl.new,hl.lt⟩
end
section
theorem bT:∀{a b:List D},aN (a++b)=(aN a&&aN b)
 | [],b=>by simp[aN]
 | x :: a,b=>by simp[aN,bT (a:=a),Bool.and_assoc]
theorem nK:∀{ds:List D},(∀d,d∈ds→d.bZ=true)→aN ds=true
 | [],_=>rfl
 | x :: r,h=>by simp[aN,h x (by simp),nK (ds:=r) fun d hd=>h d (by simp[hd])]
theorem yV {α:Type}{f:α→D}{xs:List α}(h:∀x,x∈xs→(f x).bZ=true):aN (xs.map f)=true:=nK fun d hd=>by obtain⟨x,hx,rfl⟩:=A0F.1 hd;exact h x hx
theorem lQ {α:Type}{f:α→List D}{xs:List α}(h:∀x,x∈xs→aN (f x)=true):aN (xs.flatMap f)=true:=by
 induction xs with
 | nil=>simp[aN]
 | cons x r ih=>rw[B0r,bT,h x (by simp),ih fun y hy=>h y (by simp[hy])];rfl
def lW (bs:List D)(N:Nat)(ks:List (Nat×D)):List D:=
 (List.range N).map fun i=>if i<bs.length then bs.getD i (.a_ []) else((ks.find? fun p=>p.1==i).map (·.2)).getD (.a_ [])
variable {bs:List D} {N:Nat} {ks:List (Nat×D)}
theorem CU:(lW bs N ks).length=N:=by simp[lW]
theorem JD {i:Nat}(h:i<bs.length)(hN:bs.length≤N):(lW bs N ks)[i]? = bs[i]?:=by simp[lW,h,show i<N by omega]
theorem CT {i:Nat}{x:D}(h:bs.length≤i)(hN:i<N)(hk:ks.find? (fun p=>p.1==i)=some (i,x)):(lW bs N ks)[i]? = some x:=by simp[lW,show¬i<bs.length by omega,hN,hk]
theorem XV {fN:List D}(h1:fN.length=N)(h2:∀i,i<bs.length→fN[i]? = bs[i]?)(h3:∀p,p∈ks→fN[p.1]? = some p.2):Wk fN (lW bs N ks):=by
 refine⟨by rw[CU,h1],fun i x hi hx=>?_⟩;simp only[lW,A0w] at hi;cases hr:(List.range N)[i]? with
 | none=>rw[hr] at hi;cases hi
 | some k=>
  obtain⟨hk,rfl⟩:i<N∧k=i:=by obtain⟨h4,h5⟩:=A0c.1 hr;simp at h4 h5;exact⟨h4,h5.symm⟩
  rw[hr] at hi;simp only[A0y,A0x] at hi;split at hi
  ·rename_i hb;rw[h2 _ hb,A0e hb];rw[A0k,A0e hb] at hi;simpa using hi
  ·cases hf:ks.find? (fun p=>p.1==k) with
   | none=>rw[hf] at hi;simp at hi;subst hi;cases hx
   | some p=>
    rw[hf] at hi;simp only[A0y,B0l] at hi;have hp:=D0h hf;simp at hp;have:=h3 p (B0G hf);rw[hp,hi] at this;exact this
theorem Fu (h:aN bs=true)(hk:∀p,p∈ks→p.2.bZ=true):aN (lW bs N ks)=true:=by
 refine nK fun d hd=>?_;simp only[lW,A0F] at hd;obtain⟨i,_,rfl⟩:=hd;split
 ·rename_i hi;rw[A0k,A0e hi];exact dH h (A0e hi)
 ·cases hf:ks.find? (fun p=>p.1==i) with
  | none=>rfl
  | some p=>exact hk p (B0G hf)
theorem bP.keep {P:Program} {f:FuncId} {cf:cF} {bn:List Bool} {u:U} {ds bs:List D} {d:D} (h:bP P f .plain cf bn u) (dQ:dA bn ds=true) (N:Nat) (ks:List (Nat×D))
  (fD:bp P u (ds++[.st bs]) (fun s=>∃fN,s=.ret (.a_ [d,.st fN])∧fN.length=N∧(∀i,i<bs.length→fN[i]? = bs[i]?)∧∀p,p∈ks→fN[p.1]? = some p.2)):aZ P f (.st bs) ds d (.st (lW bs N ks)):=
 h.Wk dQ (dK (fun s ⟨fN,e,h1,h2,h3⟩=>⟨fN,e,XV h1 h2 h3⟩) fD)
end
section
variable {P:Program} {f:FuncId} {h:D} {ds:List D} {bs:List D} {b n sz:Nat} {e:TypeId} {cs es:List D}
theorem aZ.O6 (hs:aZ P f h ds (.sl b 0 n) (.st bs)) (hb:bs[b]? = some (.blk e sz cs)) (AS:cs.length=n*sz) (kS:es.length=n)
  (he:∀(i:Nat) (x:D),es[i]? = some x→x.cells.length=sz∧∀(j:Nat) (d:D),x.cells[j]? = some d→cs[i*sz+j]? = some d):aZ P f h ds (.bk es) (.st (bs.set b (.a_ []))):=by
 intro w S az oD vs heq hst dN fG hS iL bO;refine(hs w S az oD vs heq hst dN fG hS iL bO).mono ?_
 rintro e' w' ⟨v,S',bJ,bs',eb,acy,dP,hk,hle,nZ,htl,fZ,bV,hold,xH,iK,hlt⟩
 cases acy;obtain⟨rfl,hv⟩:=eb;obtain⟨WG,vals,hca,C2,dU,cV,Um,jP⟩:=dP.cells b e sz cs hb;obtain⟨e2,oc,_⟩:=id hca;have C_:∀{i:Nat} {x:D},bs[i]? = some x→x.live=true→i≠b→S'.loc i≠S'.loc b:=fun hi hx MT hl=>MT (dP.inj _ _ _ _ hi hb hx rfl hl)
 let S2:Sets:={ S' with mem:=fun x o=>S' x o∨(x=S'.loc b∧o<cs.length) }
 have sj:S'≤S2:=⟨fun _ _ h=>.inl h,A0m _,fun _ _=>rfl,fun _ _=>rfl,rfl,fun _ _=>rfl⟩;have Eg:bM S' w' w':=fun _ _ _=>rfl;have jh:∀{i:Nat} {x:D},(bs.set b (.a_ []))[i]? = some x→x.live=true→i≠b∧bs[i]? = some x:=by
  intro i x hi hx;rw[A0N] at hi;split at hi
  ·split at hi
   ·cases hi;cases hx
   ·cases hi
  ·rename_i bQ;exact⟨fun e=>bQ e.symm,hi⟩
 refine⟨v,S2,fun x=>bJ x∧x≠S'.loc b,bs.set b (.a_ []),⟨rfl,?_⟩,rfl,?_,hk,Sets.le_trans hle sj,nZ,htl,fZ,bV,hold,fun x hx=>xH x hx.1,fun x o hx=>?_,fun x o hx=>?_⟩
 ·cases hv with
  | sl hn hl hc h0=>
  refine .bk (size:=sz) (val:=fun i j=>vals.getD (i*sz+j) .nilFunc) kS.symm hl hc (fun i x hx=>(he i x hx).1) (fun i x j d hx hd=>cV _ _ ((he i x hx).2 j d hd)) (fun i x j d hx hd=>.inr ⟨rfl,?_⟩) (fun i x j d hx hd=>?_) fun i x j d hx hd=>?_
  ·rw[A0Q];exact(A0c.1 ((he i x hx).2 j d hd)).1
  ·have h1:=(A0c.1 ((he i x hx).2 j d hd)).1;have h2:i*sz+j<vals.size:=A0v h1 dU;rw[eM oc,A0Q,A0p h2,A0s,A0p h2];rfl
  ·have h1:=(A0c.1 ((he i x hx).2 j d hd)).1;have h2:i*sz+j<vals.size:=A0v h1 dU;exact(Um (i*sz+j) _ d (by rw[A0s,A0p h2];rfl) ((he i x hx).2 j d hd)).keep Eg sj
 ·refine⟨by simpa using dP.n,fun i e1 sz1 cs1 hi=>?_,fun x off hx=>?_,fun i bU hi=>?_,fun i j x y hi hj hx hy hl=>?_,fun i z hi hz=>?_⟩
  ·obtain⟨MT,hi⟩:=jh hi rfl;obtain⟨a1,v1,a2,a3,a4,a5,a6,a7⟩:=dP.cells i e1 sz1 cs1 hi;have bQ:=C_ hi rfl MT;exact⟨⟨a1,bQ⟩,v1,a2,a3,a4,a5,fun j v d hv hd=>(a6 j v d hv hd).keep Eg sj,fun off ho=>ho.elim (a7 off) fun g=>bQ g.1⟩
  ·exact fun ho=>ho.elim (dP.v_ x off hx.1) fun g=>hx.2 g.1
  ·obtain⟨MT,hi⟩:=jh hi rfl;obtain⟨a1,es1,clock,a2,a3,a4,a5⟩:=dP.maps i bU hi;have bQ:=C_ hi rfl MT;exact⟨⟨a1,bQ⟩,es1,clock,a2,a3,fun off ho=>ho.elim (a4 off) fun g=>bQ g.1,fun j e1 kv h1 h2=>by
    obtain⟨dk,dv,q1,q2,q3⟩:=a5 j e1 kv h1 h2;exact⟨dk,dv,q1,q2.keep Eg sj,q3.keep Eg sj⟩⟩
  ·exact dP.inj i j x y (jh hi hx).2 (jh hj hy).2 hx hy hl
  ·obtain⟨MT,hi⟩:=jh hi (D.gb hz);obtain⟨a1,a2,a4⟩:=dP.s7 i z hi hz;have bQ:=C_ hi (D.gb hz) MT;exact⟨⟨a1,bQ⟩,a2,fun off ho=>ho.elim (a4 off) fun g=>bQ g.1⟩
 ·rcases hx with hx | ⟨rfl,_⟩
  ·exact iK x o hx
  ·rcases(xH _ WG).1 with g | g
   ·exact .inr (.inl g)
   ·exact .inr (.inr g)
 ·rcases hx with hx | ⟨rfl,_⟩
  ·exact hlt x o hx
  ·exact(xH _ WG).2
theorem aZ.ac1 (hs:aZ P f h ds .bS (.st bs)):aZ P f h ds (.bk []) (.st bs):=by
 intro w S az oD vs heq hst dN fG hS iL bO;refine(hs w S az oD vs heq hst dN fG hS iL bO).mono ?_
 rintro e' w' ⟨v,S',bJ,bs',⟨rfl,hv⟩,hr⟩
 cases hv with
 | bS=>exact⟨_,S',bJ,bs',⟨rfl,.nil⟩,hr⟩
end
section
theorem e_:∀(l:List D) (k:Nat) (x:D),aN l=true→x.bZ=true→aN (l.set k x)=true
 | [],_,_,_,_=>rfl
 | a :: r,0,x,h,hx=>by simp only[aN,A0f] at h;simp[aN,h.2,hx]
 | a :: r,k+1,x,h,hx=>by simp only[aN,A0f] at h;simp[aN,h.1,e_ r k x h.2 hx]
structure Ro {α:Type}(b1:List D)(o:Nat)(ty e:TypeId)(sz:Nat)(enc:α→List D)(st:List D)(xs:List α):Prop where
 len:b1.length≤st.length
 old:∀i,i<b1.length→i≠o→st[i]? = b1[i]?
 ov:∃s,st[o]? = some (.blk ty 1 [s])∧jI st e sz enc s xs∧∀b,s.Em=some b→b1.length≤b
 ny:aN st=true
section
variable {α:Type} {b1:List D} {o:Nat} {ty e:TypeId} {sz:Nat} {enc:α→List D} {st:List D} {xs:List α}
theorem Ro.push (h:Ro b1 o ty e sz enc st xs)(ho:o<b1.length){x:D}(hx:x.bZ=true):Ro b1 o ty e sz enc (st++[x]) xs where
 len:=by have:=h.len;simp;omega
 old i hi bQ:=by rw[A0g (A0v hi h.len)];exact h.old i hi bQ
 ov:=by obtain⟨s,h1,h2,h3⟩:=h.ov;exact⟨s,by rw[A0g (A0v ho h.len)];exact h1,h2.keep fun i hi=>A0g (h2.lt hi),h3⟩
 ny:=by rw[bT,h.ny];simp[aN,hx]
theorem q7:∀(l:List D) (k:Nat),aN l=true→aN (l.take k)=true
 | [],k,_=>by simp[aN]
 | x :: l,0,_=>rfl
 | x :: l,k+1,h=>by simp only[aN,A0f] at h;simp only[List.take_succ_cons,aN,A0f];exact⟨h.1,q7 l k h.2⟩
theorem Ro.app (h:Ro b1 o ty e sz enc st xs)(ho:o<b1.length){bytes:Nat}{x:α}{y:D}(bV:∀x,(enc x).length=sz)(hy:y.cells=enc x)(cV:(enc x).all (·.one)=true)(hn:aN (enc x)=true)(hb:(xs.length+1)*bytes≤140737488355328)(hm:xs.length+1≤maxLen) :
  ∃s fN st2,st[o]? = some (.blk ty 1 [s])∧D.gM e sz bytes (.st st) s (.bk [y])=some (.st fN)∧D.apps (.st st) s (.bk [y])=some (.sl st.length 0 (xs.length+1))∧D.eL 1 (.st fN) (.loc o 0) (.sl st.length 0 (xs.length+1))=some (.st st2) ∧
   Ro b1 o ty e sz enc st2 (xs++[x])∧st.length≤st2.length∧∀(k:Nat) (e':TypeId) (yG:Nat) (vR:List D),st[k]? = some (.blk e' yG vR)→e'≠e→k≠o→st2[k]? = some (.blk e' yG vR):=by
 obtain⟨s,h1,h2,h3⟩:=h.ov;obtain⟨fN,a1,a2,a3,a4,a5⟩:=h2.append (bytes:=bytes) bV hy cV hb hm;have hol:o<st.length:=A0v ho h.len;have uS:aN fN=true:=by
  have hyn:aN (cH [y])=true:=by simpa[cH,hy] using hn
  rcases h2 with⟨rfl,rfl⟩ | ⟨i,rfl,hi⟩
  ·simp only[D.gM,D.Ic,C0w,B0n] at a1;split at a1
   ·cases a1;rw[bT,h.ny];simp[aN,D.bZ,hyn]
   ·cases a1
  ·simp only[D.gM,D.Ic,C0w,B0n] at a1;simp only[D.eG,hi,A0d] at a1;split at a1
   ·cases a1;have nh:=dH h.ny hi;rw[bT,e_ st i (.a_ []) h.ny rfl];simp only[D.bZ] at nh;simp[aN,D.bZ,bT,nh,hyn]
   ·split at a1
    ·cases a1;have nh:=dH h.ny hi;rw[bT,e_ st i (.a_ []) h.ny rfl];simp only[D.bZ] at nh;simp[aN,D.bZ,bT,q7 _ _ nh,hyn]
    ·cases a1
 have hso:s.Em≠some o:=fun hs=>by have:=h3 o hs;omega
 have Lj:fN[o]? = some (.blk ty 1 [s]):=by rw[a5 o hol hso,h1]
 refine⟨s,fN,_,h1,a1,a2,gW Lj (by simp) rfl,⟨?_,fun i hi bQ=>?_,⟨.sl st.length 0 (xs.length+1),?_,.inr ⟨st.length,by simp,?_⟩,fun b fI=>?_⟩,?_⟩,?_,fun k e' yG vR hk he bQ=>?_⟩
 ·rw[B0L,a4];have:=h.len;omega
 ·rw[A0q (B0O bQ),a5 i (A0v hi h.len) (fun hs=>by have:=h3 i hs;omega)];exact h.old i hi bQ
 ·rw[A0M (by rw[a4];omega)];rfl
 ·rw[A0q (by omega)];exact a3
 ·cases fI;exact h.len
 ·exact e_ _ _ _ uS (by simp[D.bZ,aN])
 ·rw[B0L,a4];omega
 ·rw[A0q (B0O bQ),a5 k (A0c.1 hk).1 (fun hs=>?_)]
  ·exact hk
  ·have:=h2.blk hs;rw[hk] at this;cases this;exact he rfl
end
theorem Zv {R:Nat→List D→List D→Prop}{J:Nat→List D→Prop}{N:Nat}{s0:List D}(h0:J 0 s0)(hs:∀k st,k<N→J k st→∃eT,R k st eT∧J (k+1) eT) :
  ∃f:Nat→List D,f 0=s0∧(∀k,k≤N→J k (f k))∧∀k,k<N→R k (f k) (f (k+1)):=by
 induction N with
 | zero=>exact⟨fun _=>s0,rfl,fun k hk=>by rw[Nat.le_zero.1 hk];exact h0,fun k hk=>absurd hk (B0U _)⟩
 | succ N ih=>
  obtain⟨f,f0,f1,f2⟩:=ih fun k st hk hJ=>hs k st (by omega) hJ;obtain⟨eT,r1,r2⟩:=hs N (f N) (by omega) (f1 N (A0m _));refine⟨fun k=>if k≤N then f k else eT,by simp[f0],fun k hk=>?_,fun k hk=>?_⟩
  ·simp only;split
   ·exact f1 k (by assumption)
   ·rw[show k=N+1 by omega];exact r2
  ·simp only;rw[A0z (by omega)];split
   ·exact f2 k (by omega)
   ·rw[show k=N by omega];exact r1
end
end Go.Am
