/- Texts. -/
import Derived.Test.YtjnipnanfjglpaaGreatDoorToRptoToOs
import Derived.Test.YtjnipnanfjglpaaGreatDoorToOsc2
import Derived.Test.YtjnipnanfjglpaaGreatDoorToOsc3
import Derived.Test.YtjnipnanfjglpaaGreatDoorToOsc4
import Derived.Test.YtjnipnanfjglpaaGreatDoorToOsc5
import Derived.Test.YtjnipnanfjglpaaGreatDoorToC1toTwShelf
import Derived.Test.YtjnipnanfjglpaaGreatDoorToBasetoScAct
set_option linter.unusedSimpArgs false
set_option linter.unusedVariables false
namespace Go.Am.To
section
open Go.Proofs Go.Am.Sc
set_option maxRecDepth 100000
set_option maxHeartbeats 4000000
attribute [local irreducible] fK Tw.fK
theorem VT {k:vY→Nat→Nat→Bool} {l:List Spec} {c p:Nat} (hc:2≤c∧c≤5) (hp:2≤p∧p≤4) (hl:pK Tryz.prog l) (h2:lG Tryz.prog (fun tt=>[2,3,4].all (k tt 2)) l []=true) (h3:lG Tryz.prog (fun tt=>[2,3,4].all (k tt 3)) l []=true)
  (h4:lG Tryz.prog (fun tt=>[2,3,4].all (k tt 4)) l []=true) (h5:lG Tryz.prog (fun tt=>[2,3,4].all (k tt 5)) l []=true):∃tt:vY,(∀e,e∈tt→ay Tryz.prog e)∧k tt c p=true:=by
 have h:∃tt:vY,(∀e,e∈tt→ay Tryz.prog e)∧[2,3,4].all (k tt c)=true:=by
  have:c=2∨c=3∨c=4∨c=5:=by omega
  rcases this with rfl | rfl | rfl | rfl <;> exact sS hl tU (by assumption)
 obtain⟨tt,ht,h⟩:=h;exact⟨tt,ht,A0C.1 h p (by simp;omega)⟩
def agf:D→Bool
 | .blk 117 _ _=>false
 | _=>true
variable {c p t:Nat} {g:List D}
theorem Wi (hc:2≤c∧c≤5)(l:D):(Sc c p t l).length=9+3*c:=by
 have:c=2∨c=3∨c=4∨c=5:=by omega
 rcases this with rfl | rfl | rfl | rfl <;> rfl
theorem ajP (hc:2≤c∧c≤5)(l:D):(Sc c p t l).all agf=true:=by
 have:c=2∨c=3∨c=4∨c=5:=by omega
 rcases this with rfl | rfl | rfl | rfl <;> rfl
theorem adL (hc:2≤c∧c≤5)(l l':D):(Sc c p t l).set 1 (.blk 90 35 ((plS c p++[.loc 5 0,.loc 7 0,.loc 8 0,.sl (8+3*c) 0 c,l]).set 34 l'))=Sc c p t l':=by
 have:c=2∨c=3∨c=4∨c=5:=by omega
 rcases this with rfl | rfl | rfl | rfl <;> rfl
theorem aaJ (hc:2≤c∧c≤5)(hp:2≤p∧p≤4)(k:Nat):aN (Sc c p t (r9 c k))=true:=by
 have:c=2∨c=3∨c=4∨c=5:=by omega
 have h2:p=2∨p=3∨p=4:=by omega
 unfold r9;split <;> rcases this with rfl | rfl | rfl | rfl <;> rcases h2 with rfl | rfl | rfl <;> rfl
structure Beg (c p t:Nat)(g:List D):Prop where
 len:g.length=t
 log:∃es,jI (Sc c p t (r9 c t)++g) 117 2 ec (r9 c t) es∧es.length=t
 ny:aN g=true
theorem Beg.step (hc:2≤c∧c≤5)(hp:2≤p∧p≤4)(ht:t<p+2)(h:Beg c p t g) :
  ∃g',aZ Tryz.prog 9 (.st (Sc c p t (r9 c t)++g)) [.loc 1 0,sB (Mk t)] (I 0) (.st (Sc c p (t+1) (r9 c (t+1))++g'))∧Beg c p (t+1) g':=by
 obtain⟨hl,⟨es,hs,oe⟩,hn⟩:=h;obtain⟨tt,zf,hk⟩:=VT (k:=fun tt c p=>(List.range (p+2)).all (ckS tt c p)) hc hp ade apO apN apM apL;have QL:=adv zf (A0C.1 hk t (A0X.2 ht)) hl;have hL:=fun k l=>Wi (p:=p) (t:=k) hc l;have Bo:jI (Sc c p (t+1) (r9 c t)++g) 117 2 ec (r9 c t) es:=hs.keep fun i hi=>by
  have hi9:9+3*c≤i:=by
   unfold r9 at hi;split at hi
   ·cases hi
   ·injection hi with hi;omega
  rw[A0o (by rw[hL];exact hi9),A0o (by rw[hL];exact hi9),hL,hL]
 have hln:(Mk t).length≤300:=by rcases t with _ | _ | t <;> simp[Mk]
 have RN:∃r,Sc c p (t+1) (r9 c t)++g=b0++r:=⟨_,by rw[Sc,A0A,A0A,A0A]⟩;have hn3:aN (Sc c p (t+1) (r9 c t)++g)=true:=by rw[bT,aaJ hc hp,hn];rfl
 obtain⟨n,fN,a4,bQ,a3,Ag,hW⟩:=VC (bs:=Sc c p t (r9 c t)++g) (oK:=Sc c p (t+1) (r9 c t)++g) (cl:=plS c p++[D.loc 5 0,.loc 7 0,.loc 8 0,.sl (8+3*c) 0 c,r9 c t]) (WM:=plS c p++[D.loc 5 0,.loc 7 0,.loc 8 0,.sl (8+3*c) 0 c,r9 c t]) rfl rfl rfl hs rfl rfl rfl Bo RN hn3 (by omega) hln QL;have hl3:(Sc c p (t+1) (r9 c t)++g).length=9+3*c+t:=by rw[A0u,hL,hl]
 rw[hl3] at a3 a4 Ag hW;have hlg:D.sl (9+3*c+t) 0 (es.length+1)=r9 c (t+1):=by unfold r9;rw[A0B (Nat.succ_ne_zero t),oe,show 9+3*c+t=8+3*c+(t+1) by omega]
 rw[hlg] at Ag hW;have htk:fN.take (9+3*c)=Sc c p (t+1) (r9 c t):=by
  refine E0h fun i=>?_;rw[A0H];split
  ·rename_i hi;have hz:i<(Sc c p (t+1) (r9 c t)).length:=by rw[hL];exact hi
   have hq:=A0C.1 (ajP (p:=p) (t:=t+1) hc (r9 c t)) _ (A0T hz);rw[A0e hz];refine bQ (by rw[A0g hz,A0e hz]) fun cs e=>?_;rw[e] at hq;cases hq
  ·rw[C0Y (by rw[hL];omega)]
 have hst:fN.set 1 (.blk 90 35 ((plS c p++[D.loc 5 0,.loc 7 0,.loc 8 0,.sl (8+3*c) 0 c,r9 c t]).set 34 (r9 c (t+1))))=Sc c p (t+1) (r9 c (t+1))++fN.drop (9+3*c):=by
  conv=>lhs;rw[←C0F (9+3*c) fN]
  rw[htk,D0L _ _ (by rw[hL];omega),adL hc]
 rw[hst] at Ag hW;have fR:(fN.drop (9+3*c)).length=t+1:=by rw[B0E,a4];omega
 refine⟨fN.drop (9+3*c),hW,fR,⟨es++[((⟨⟨Mk t⟩⟩,n):ByteArray×Nat)],.inr ⟨9+3*c+t,?_,?_⟩,by simp[oe]⟩,?_⟩
 ·rw[←hlg];simp
 ·rw[A0o (by rw[hL];omega),hL,A0Z,show 9+3*c+(9+3*c+t-(9+3*c))=9+3*c+t by omega];exact a3
 ·rw[bT,A0f] at Ag;exact Ag.2
theorem Beg.sta (hc:2≤c∧c≤5)(hp:2≤p∧p≤4){T:Int}(hT:1≤T∧T≤1000)(h:Beg c p (p+2) g):Lr (Sc c p (p+2) (r9 c (p+2))++g) p T (List.replicate c ⟨false,-1⟩) [] (p+2):=by
 obtain⟨hl,⟨es,hs,oe⟩,hn⟩:=h;have hL:=Wi (p:=p) (t:=p+2) hc (r9 c (p+2));have Ag:aN (Sc c p (p+2) (r9 c (p+2))++g)=true:=by rw[bT,aaJ hc hp,hn];rfl
 refine⟨⟨List.replicate p 0,r9 c (p+2),es,⟨⟨plS c p++[D.loc 5 0,.loc 7 0,.loc 8 0,.sl (8+3*c) 0 c,r9 c (p+2)],rfl,by rw[C0H];rfl,rfl,rfl,rfl,rfl,rfl⟩,?_,?_⟩,hs,oe⟩,⟨_,by rw[Sc,A0A,A0A,A0A]⟩⟩
 ·refine⟨?_,?_,?_,?_,by simp;omega,hT,fun s hs=>by rw[C0v hs];omega,fun x hx=>by rw[C0v hx];exact⟨by decide,by show(-1:Int)<_;omega⟩⟩
  all_goals
   have h1:c=2∨c=3∨c=4∨c=5:=by omega
   have h2:p=2∨p=3∨p=4:=by omega
   rcases h1 with rfl | rfl | rfl | rfl <;> rcases h2 with rfl | rfl | rfl <;> rfl
 ·rw[C0H];refine⟨⟨6,?_,rfl⟩,B0e _,⟨by omega,by omega,by simp[tv],fun x hx=>?_,by simp[vi]⟩,rfl,⟨by show(1:Int)≤c;omega,by show(c:Int)≤200;omega⟩,by decide,fun r hr=>by simp at hr,Ag⟩
  ·have h1:c=2∨c=3∨c=4∨c=5:=by omega
   have h2:p=2∨p=3∨p=4:=by omega
   rcases h1 with rfl | rfl | rfl | rfl <;> rcases h2 with rfl | rfl | rfl <;> rfl
  simp only[tv] at hx;rw[C0v hx];omega
theorem vV (hc:2≤c∧c≤5)(hp:2≤p∧p≤4):∃S:Nat→List D,S 0=Sc c p 0 .bS∧(∀t,t<p+2→aZ Tryz.prog 9 (.st (S t)) [.loc 1 0,sB (Mk t)] (I 0) (.st (S (t+1))))∧∃g,S (p+2)=Sc c p (p+2) (r9 c (p+2))++g∧Beg c p (p+2) g:=by
 have h:∀m,m≤p+2→∃S:Nat→List D,S 0=Sc c p 0 .bS∧(∀t,t<m→aZ Tryz.prog 9 (.st (S t)) [.loc 1 0,sB (Mk t)] (I 0) (.st (S (t+1))))∧∃g,S m=Sc c p m (r9 c m)++g∧Beg c p m g:=by
  intro m
  induction m with
  | zero=>exact fun _=>⟨fun _=>Sc c p 0 .bS,rfl,fun t h=>absurd h (B0U _),[],by rw[B0F];rfl,rfl,⟨[],.inl ⟨rfl,rfl⟩,rfl⟩,rfl⟩
  | succ m ih=>
   intro hm;obtain⟨S,h0,hS,g,hg,hb⟩:=ih (by omega);obtain⟨g',hW,fI⟩:=hb.step hc hp (by omega);refine⟨fun t=>if t≤m then S t else Sc c p (m+1) (r9 c (m+1))++g',(A0z (B0e _)).trans h0,fun t ht=>?_,g',A0B (by omega),fI⟩;rcases A0U t m with h1 | h1
   ·show aZ _ _ (.st (if _ then _ else _)) _ _ (.st (if _ then _ else _));rw[A0z (by omega),A0z (by omega)];exact hS t h1
   ·have e:t=m:=by omega
    subst e;show aZ _ _ (.st (if _ then _ else _)) _ _ (.st (if _ then _ else _));rw[A0z (A0m _),A0B (by omega),hg];exact hW
 exact h (p+2) (A0m _)
end
section
open Go.Proofs Go.Am.Sc
set_option maxRecDepth 100000
set_option maxHeartbeats 4000000
attribute [local irreducible] fK Tw.fK
structure Wp (rs:List Rp):Prop where
 num:∀i (h:i<rs.length),rs[i].number=(i:Int)+1
 src:∀r∈rs,r.source=0∧r.kind=1∧0≤r.place∧r.aX≤100000000
theorem Wp.inj {rs:List Rp}(h:Wp rs){a b:Rp}(ha:a∈rs)(hb:b∈rs)(e:a.number=b.number):a=b:=by
 obtain⟨i,hi,rfl⟩:=B0y.1 ha;obtain⟨j,hj,rfl⟩:=B0y.1 hb;rw[h.num i hi,h.num j hj] at e;have:i=j:=by omega
 subst this;rfl
theorem Wp.log {rs:List Rp}(h:Wp rs)(x:Rp):x∈Tw.ef rs↔x∈rs:=by rw[Tw.GM];refine⟨fun h=>h.1,fun hx=>⟨hx,fun r hr hk=>?_⟩⟩;have:r=x:=h.inj hr hx (by have:=B0q (fun l:List Int=>l.getD 1 0) hk;exact this);subst this;exact B0P _
theorem R7 (W:List Rp)(t:Int):∀l:List Rp,(∀r∈l,r.kind=1)→Tw.vs W t l=[]
 | [],_=>rfl
 | r :: l,h=>by unfold Tw.vs;rw[A0B (by rw[h r B0m];rintro⟨h,_⟩;cases h)];exact R7 W t l fun r hr=>h r (B0f _ hr)
theorem L2 {α:Type}{l:List α}{x:α}(hn:l.Nodup)(hx:x∈l)(h:∀y∈l,y=x):l.length=1:=by
 match l,hn,hx,h with
 | [_],_,_,_=>rfl
 | a :: b :: l,hn,_,h=>
  have h1:=h a B0m;have h2:=h b (B0f _ B0m);rw[h1,h2] at hn;simp at hn
theorem Wp.pB {rs:List Rp}(h:Wp rs){t:Int}(ht:100000000≤t){x:Rp}(hx:x∈rs):Tw.pB (Tw.ef rs) t x=true:=by
 have Hi:=h.src x hx;have hth:∀y∈rs,Tw.there t y=true:=fun y hy=>C0T (by have:=(h.src y hy).2.2.2;omega);have oJ:(Tw.ef rs).Nodup:=(Tw.N8 rs).imp fun {a b} h e=>by subst e;rw[Tw.l8] at h;cases h
 unfold Tw.pB Tw.uF Tw.named;rw[R7 _ _ _ fun r hr=>(h.src r ((h.log r).1 hr)).2.1,hth x hx,L2 (x:=x) (oJ.filter _)]
 ·rfl
 ·rw[B0T];exact⟨(h.log x).2 hx,by rw[hth x hx];simp⟩
 ·intro y hy;rw[B0T] at hy;obtain⟨h1,h2⟩:=hy;simp only[A0f,B0K] at h2;exact h.inj ((h.log y).1 h1) hx h2.2.2
def done (p:Nat)(rs:List Rp)(k:Nat):Bool:=rs.any fun r=>decide (r.dV=(k:Int)+1)&&decide ((p:Int)-1≤r.place)
theorem Wp.dV {rs:List Rp}(h:Wp rs){t dV:Int}(ht:100000000≤t)(x:Rp):x∈Tw.eY (Tw.ef rs) t dV↔x∈rs∧x.dV=dV:=by rw[Tw.Om,h.log];refine⟨fun⟨h1,_,_,h4⟩=>⟨h1,h4⟩,fun⟨h1,h2⟩=>⟨h1,h.pB ht h1,?_,h2⟩⟩;rw[(h.src x h1).2.1];decide
theorem Wp.on {rs:List Rp}(h:Wp rs){c p k:Nat}(hp:2≤p):Tw.Xr (tv c p) vi p (Tw.ef rs) 100000000 0 ((p:Int)-1) ((k:Int)+1)=!done p rs k:=by
 have e1:((p:Int)-1).toNat=p-1:=by omega
 have e2:(0:Int).toNat=0:=rfl;unfold Tw.Xr;rw[e1,e2];have hps:∀q,(Tw.xw vi (tv c p).least p (Tw.eY (Tw.ef rs) 100000000 ((k:Int)+1)) q).Gx=Tw.oZ (Tw.eY (Tw.ef rs) 100000000 ((k:Int)+1)) q:=fun q=>rfl;rw[hps,hps];have h1:Tw.oZ (Tw.eY (Tw.ef rs) 100000000 ((k:Int)+1)) (p-1)=done p rs k:=by
  unfold Tw.oZ done;rw[C0Z,B0h,B0h];constructor
  ·rintro⟨x,hx,h2⟩
   obtain⟨h3,h4⟩:=(h.dV (B0P _) x).1 hx;simp only[A0f,A0t] at h2 ⊢;exact⟨x,h3,h4,by omega⟩
  ·rintro⟨x,hx,h2⟩
   simp only[A0f,A0t] at h2;refine⟨x,(h.dV (B0P _) x).2 ⟨hx,h2.1⟩,?_⟩;rw[(h.src x hx).2.1];simp;omega
 rw[h1];cases done p rs k
 ·have h2:(Tw.oZ (Tw.eY (Tw.ef rs) 100000000 ((k:Int)+1)) 0||(!((Tw.JA vi (tv c p).least p (Tw.eY (Tw.ef rs) 100000000 ((k:Int)+1))).take 0).any (fun k=>k.out)&&decide ((Tw.xw vi (tv c p).least p (Tw.eY (Tw.ef rs) 100000000 ((k:Int)+1)) 0).low≤100000000)))=true:=by
   rcases e:Tw.eY (Tw.ef rs) 100000000 ((k:Int)+1) with _ | ⟨x,l⟩
   ·have:(Tw.xw vi (tv c p).least p [] 0).low=-10000000000000:=rfl;rw[this];rfl
   ·have hx:x∈Tw.eY (Tw.ef rs) 100000000 ((k:Int)+1):=by rw[e];exact B0m
    obtain⟨h3,h4⟩:=(h.dV (B0P _) x).1 hx;have h5:=h.src x h3;unfold Tw.oZ;rw[E0Q,h5.2.1];simp[h5.2.2.1]
  rw[h2];rfl
 ·rfl
structure Wt where
 cs:List Cr
 rs:List Rp
structure WOk (c p:Nat)(w:Wt):Prop where
 len:w.cs.length=c
 cnt:Wp w.rs
 fit:∀k,k<c→(decide ((w.cs.getD k default).post<(p:Int)-1)=!done p w.rs k)
theorem WOk.busy {c p:Nat}{w:Wt}(h:WOk c p w)(hp:2≤p):((Tw.P6 (tv c p) vi p (Tw.ef w.rs) 100000000 0 ((p:Int)-1) c).any fun x=>(w.cs.getD (x-1).toNat default).st)=NB p w.cs:=by
 unfold Tw.P6 NB;rw[List.any_filter,List.any_map,C0Z,B0h,B0h];have hl:=h.len;constructor
 ·rintro⟨k,hk,h1⟩
  have hk:=A0X.1 hk;simp only[Function.comp_apply,A0f] at h1;rw[h.cnt.on hp,←h.fit k hk,show((k:Int)+1-1).toNat=k by omega] at h1;refine⟨w.cs.getD k default,?_,by rw[h1.1,h1.2];rfl⟩;rw[A0k,A0e (by omega)];exact A0T _
 ·rintro⟨x,hx,h1⟩
  obtain⟨k,hk,rfl⟩:=B0y.1 hx;have hg:w.cs.getD k default=w.cs[k]:=by rw[A0k,A0e hk];rfl
  refine⟨k,A0X.2 (by omega),?_⟩;simp only[Function.comp_apply,A0f] at h1 ⊢;rw[h.cnt.on hp,←h.fit k (by omega),show((k:Int)+1-1).toNat=k by omega,hg];exact⟨h1.2,h1.1⟩
theorem Y4 (p:Nat)(cs:List Cr)(k:Nat):((mw p cs k 8).any fun x=>x==5)=NB p cs:=by unfold mw;rw[List.any_map,List.any_filter,show List.range 8=[0,1,2,3,4,5,6,7] from rfl];simp[rB]
def oN (c p:Nat)(T v:Nat)(w:Wt):Wt:=
 if v / c % (p+1)=p then(if mw p w.cs (v % c) 8=[] then⟨H9 w.cs (v % c),w.rs⟩ else w)
 else if(w.cs.getD (v % c) default).st=true then⟨zY w.cs (v % c) ((v / c % (p+1):Nat):Int),w.rs++[Rv (w.rs.length+1) (v % c) (v / c % (p+1)) (1000*T+1000*(v / c % (p+1))) (1000*T+5000)]⟩
 else w
theorem R5 {c p T v:Nat}{w:Wt}(hc:0<c)(hT:T≤1000)(h:WOk c p w):WOk c p (oN c p T v w):=by
 have hk:v % c<c:=C0D _ hc;have hl:=h.len;unfold oN;split
 ·split
  ·refine⟨by simp[H9,hl],h.cnt,fun k hkc=>?_⟩;rw[←h.fit k hkc]
   by_cases e:v % c=k
   ·subst e;rw[H9,A0k,A0M (by omega)];rfl
   ·rw[H9,A0k,A0q e,←A0k]
  ·exact h
 ·split
  ·rename_i h1 h2;have hq:v / c % (p+1)<p+1:=C0D _ (by omega);generalize v / c % (p+1)=q at h1 hq;generalize v % c=j at hk h2;refine⟨by simp[zY,hl],⟨fun i hi=>?_,fun r hr=>?_⟩,fun k hkc=>?_⟩
   ·rw[List.getElem_append];split
    ·rename_i h3;exact h.cnt.num i h3
    ·rename_i h3;simp only[A0u,C0X] at hi;have:i=w.rs.length:=by omega
     subst this;simp[Rv]
   ·rcases A0K.1 hr with hr | hr
    ·exact h.cnt.src r hr
    ·rw[A0Y] at hr;subst hr;refine⟨rfl,rfl,?_,?_⟩
     ·show(0:Int)≤(q:Int);omega
     ·show((1000*T+5000:Nat):Int)≤100000000;omega
   ·have hd:done p (w.rs++[Rv (w.rs.length+1) j q (1000*T+1000*q) (1000*T+5000)]) k=(done p w.rs k||(decide ((j:Int)+1=(k:Int)+1)&&decide ((p:Int)-1≤(q:Int)))):=by unfold done;rw[List.any_append];congr 1;rw[E0Q,List.any_nil,C0J];rfl
    rw[hd,Bool.not_or,←h.fit k hkc]
    by_cases e:j=k
    ·subst e;show decide (((zY w.cs j q).getD j default).post<(p:Int)-1)=_;rw[zY,A0k,A0M (by omega)];rw[C0Z];simp;omega
    ·show decide (((zY w.cs j q).getD k default).post<(p:Int)-1)=_;rw[zY,A0k,A0q e,←A0k];have:decide ((j:Int)+1=(k:Int)+1)=false:=B0V (by omega);rw[this];simp
  ·exact h
theorem R2 {c p T v:Nat}{w:Wt}:(oN c p T v w).rs.length≤w.rs.length+1:=by
 unfold oN;split
 ·split <;> simp
 ·split <;> simp
theorem aeu (c p:Nat)(hp:2≤p):WOk c p ⟨List.replicate c ⟨false,-1⟩,[]⟩:=by
 refine⟨by simp,⟨fun i hi=>absurd hi (B0U _),fun r hr=>by simp at hr⟩,fun k hk=>?_⟩;have:(List.replicate c (⟨false,-1⟩:Cr)).getD k default=⟨false,-1⟩:=by rw[A0k,B0o,A0z hk];rfl
 show decide (((List.replicate c (⟨false,-1⟩:Cr)).getD k default).post<(p:Int)-1)=_;rw[this];simp[done];show(-1:Int)<_;omega
end
section
open Go.Proofs Go.Am.Sc
set_option maxRecDepth 100000
set_option maxHeartbeats 4000000
attribute [local irreducible] fK Tw.fK
def v8 (c p:Nat)(T:Nat)(vs:List Nat)(i:Nat):Wt:=(vs.take i).foldl (fun w v=>oN c p T v w) ⟨List.replicate c ⟨false,-1⟩,[]⟩
theorem BC {c p T:Nat}{vs:List Nat}{i:Nat}(h:i<vs.length):v8 c p T vs (i+1)=oN c p T vs[i] (v8 c p T vs i):=by unfold v8;rw[List.take_add_one,A0e h,Option.toList_some,B0z];rfl
def RT (c p T v:Nat)(w:Wt)(bs bs':List D):Prop:=
 (v / c % (p+1)=p→∃e,aZ Tryz.prog 9 (.st bs) [.loc 1 0,sB (Ed pO [v % c+1,T])] (I e) (.st bs')∧((mw p w.cs (v % c) 8=[]∧e=0)∨(mw p w.cs (v % c) 8≠[]∧e=7))) ∧
 (v / c % (p+1)≠p→(w.cs.getD (v % c) default).st=true→aZ Tryz.prog 9 (.st bs) [.loc 1 0,sB (Ed o6 [0,w.rs.length+1,v % c+1,v / c % (p+1),1000*T+1000*(v / c % (p+1)),1000*T+5000])] (I 0) (.st bs')) ∧
 (v / c % (p+1)≠p→(w.cs.getD (v % c) default).st=false→bs'=bs)
theorem afo {c p T v m:Nat}{w:Wt}{bs:List D}(hc:2≤c∧c≤5)(hp:2≤p∧p≤4)(hT:T≤1000)(hm:m<100)(hr:w.rs.length≤50)(hw:WOk c p w)(h:Lr bs p T w.cs w.rs m):∃bs' m',m'≤m+1∧RT c p T v w bs bs'∧Lr bs' p T (oN c p T v w).cs (oN c p T v w).rs m':=by
 have hk:v % c<w.cs.length:=by rw[hw.len];exact C0D _ (by omega)
 by_cases hq:v / c % (p+1)=p
 ·obtain⟨bs',e,h1,h2⟩:=Xq h rfl hk (by omega);rcases h2 with⟨a,b,d⟩ | ⟨a,b,d⟩
  ·exact⟨bs',m+1,A0m _,⟨fun _=>⟨e,h1,.inl ⟨a,b⟩⟩,fun h=>absurd hq h,fun h=>absurd hq h⟩,by unfold oN;rw[A0z hq,A0z a];exact d⟩
  ·exact⟨bs',m,by omega,⟨fun _=>⟨e,h1,.inr ⟨a,b⟩⟩,fun h=>absurd hq h,fun h=>absurd hq h⟩,by unfold oN;rw[A0z hq,A0B a];exact d⟩
 ·have hq2:v / c % (p+1)<p+1:=C0D _ (by omega);cases hs:(w.cs.getD (v % c) default).st
  ·exact⟨bs,m,by omega,⟨fun h=>absurd h hq,fun _ h=>by(rw[hs] at h;cases h),fun _ _=>rfl⟩,by unfold oN;rw[A0B hq,A0B (by rw[hs];decide)];exact h⟩
  ·obtain⟨bs',h1,h2⟩:=abh h (num:=w.rs.length+1) (q:=v / c % (p+1)) (tm:=1000*T+1000*(v / c % (p+1))) (ar:=1000*T+5000) hk (by omega) hs (by omega) (by omega) (by omega) (by omega) (by omega);exact⟨bs',m+1,A0m _,⟨fun h=>absurd h hq,fun _ _=>h1,fun _ h=>by(rw[hs] at h;cases h)⟩,by unfold oN;rw[A0B hq,A0z hs];exact h2⟩
theorem run {c p T:Nat}{vs:List Nat}{bs:List D}(hc:2≤c∧c≤5)(hp:2≤p∧p≤4)(hT:T≤1000)(hn:vs.length≤40)(h:Lr bs p T (List.replicate c ⟨false,-1⟩) [] (p+2)) :
  ∃S:Nat→List D,S 0=bs∧(∀i (hi:i<vs.length),RT c p T vs[i] (v8 c p T vs i) (S i) (S (i+1)))∧(∀i,i≤vs.length→WOk c p (v8 c p T vs i)∧(v8 c p T vs i).rs.length≤i)∧∃m,Lr (S vs.length) p T (v8 c p T vs vs.length).cs (v8 c p T vs vs.length).rs m:=by
 have key:∀n,n≤vs.length→∃S:Nat→List D,S 0=bs∧(∀i (hi:i<vs.length),i<n→RT c p T vs[i] (v8 c p T vs i) (S i) (S (i+1)))∧(∀i,i≤n→WOk c p (v8 c p T vs i)∧(v8 c p T vs i).rs.length≤i)∧∃m,m≤p+2+n∧Lr (S n) p T (v8 c p T vs n).cs (v8 c p T vs n).rs m:=by
  intro n
  induction n with
  | zero=>
   refine fun _=>⟨fun _=>bs,rfl,fun i _ h=>absurd h (B0U _),fun i hi=>?_,p+2,A0m _,h⟩;rw[Nat.le_zero.1 hi];exact⟨aeu c p hp.1,A0m _⟩
  | succ n ih=>
   intro Qy;obtain⟨S,h0,hS,hw,m,hm,hs⟩:=ih (by omega);obtain⟨w1,w2⟩:=hw n (A0m _);obtain⟨bs',m',xF,h1,h2⟩:=afo (v:=vs[n]) hc hp hT (by omega) (by omega) w1 hs;have hlt:n<vs.length:=Qy;refine⟨fun t=>if t≤n then S t else bs',(A0z (B0e _)).trans h0,fun i hi nh=>?_,fun i hi=>?_,m',by omega,?_⟩
   ·show RT _ _ _ _ _ (if _ then _ else _) (if _ then _ else _);rcases A0U i n with h3 | h3
    ·rw[A0z (by omega),A0z (by omega)];exact hS i hi h3
    ·have e:i=n:=by omega
     subst e;rw[A0z (A0m _),A0B (by omega)];exact h1
   ·rcases A0U i (n+1) with h3 | h3
    ·exact hw i (by omega)
    ·have e:i=n+1:=by omega
     subst e;rw[BC hlt];exact⟨R5 (by omega) hT w1,A0J R2 (by omega)⟩
   ·show Lr (if _ then _ else _) _ _ _ _ _;rw[A0B (by omega),BC hlt];exact h2
 obtain⟨S,h0,hS,hw,m,_,hs⟩:=key vs.length (A0m _);exact⟨S,h0,fun i hi=>hS i hi hi,hw,m,hs⟩
theorem Xm {i:Nat}(h:i<4):Ed [112,111,115,116] [i,0]=Mk (i+2):=by
 have:i=0∨i=1∨i=2∨i=3:=by omega
 have e:Ed [112,111,115,116] [i,0]=[112,111,115,116]++(32 :: dd i)++(32 :: dd 0):=rfl;rw[e,Au (by omega),Au (by omega)];rcases this with rfl | rfl | rfl | rfl <;> rfl
end
section
open Go.Proofs
noncomputable def u3:U:=aD [.ev (X' .lss y0 (ki 2)),.chain true y5 (aD [.ev (X' .gtr y0 (ki 5))] (.ret y6)),.chain true y6 (aD [.ev (X' .lss y1 (ki 2))] (.ret y7)),.chain true y7 (aD [.ev (X' .gtr y1 (ki 4))] (.ret y8)),.chain true y8 (aD [.ev (.bI y2),.ev (X' .gtr y9 (ki 40))] (.ret y10)),.chain true y9 (aD [.ev (X' .lss y3 (ki 1))] (.ret y10)),.chain true y10 (aD [.ev (X' .gtr y3 (ki 1000))] (.ret y11))] (.ite y11 (aD [.call 5 y4 [] [true]] (.ret (C' y12 y4))) (aD [.call 7 y4 [y0,y1] [false],.bw 6 y4 [y12] [true,true],.ev (X' .neq (t' y13) (ki 0)),.chain true y15 (aD [.aR (s' y13),.ev (.bin .eql .ptr (s' y13) (.const (.v (.pointer none))))] (.ret y16))] (.ite y16 (.ret (C' (kb false) y14)) (aD [.ev (.bz (z' (Z' #[111,112,101,110,32,48])) (.bz (z' (Z' #[99,111,118,101,114,101,100,32,48])) (.const (.bk [])))),.join 0 1 (.loop 1 [y17,ki 0,y17] (aD [.ev (X' .lss y19 y1)] (.ite y21 (aD [.join 2 1 (aD [.ev (.bz (z' y19) (.bz (z' (ki 0)) (.const (.bk [])))),.call 8 y14 [Z' #[112,111,115,116],y22] [true],.ev (.bz (z' y23) (.const (.bk []))),.ev (.app 1 16 y18 y24)] (.jump 2 [y25] [])),.ev (P' y19 (ki 1))] (.jump 1 [y22,y23,y20] [])) (.jump 0 [y18] [])))),.join 0 1 (.loop 1 [ki 0,y14] (aD [.ev (.bI y18),.ev (X' .lss y19 y21)] (.ite y22 (aD [.join 2 1 (aD [.ev (.ax 1 y18 y19),.ev (l' y20 y23),.bw 9 y20 [s' y13,y24] [true],.ev (X' .neq y25 (ki 0))] (.ite y27 (.ret (C' (kb false) y26)) (.jump 2 [y26] [y25]))),.ev (P' y19 (ki 1))] (.jump 1 [y24,y23] [])) (.jump 0 [y20] [])))),.ev (P' y0 (ki 1)),.ev (.rep 1 y20 (.v (.bool false))),.join 0 2 (.loop 1 [ki 0,ki 0,y21,y19] (aD [.ev (.bI y2),.ev (X' .lss y23 y26)] (.ite y27 (aD [.join 2 3 (aD [.ev (.ax 1 y2 y23),.ev (l' y25 y28),.ev (.mm true (ki 0) y29),.ev (X' .rem y30 y0),.ev (P' (ki 1) y31),.ev (X' .quo y30 y0),.ev (P' y1 (ki 1)),.ev (X' .rem y33 y34),.ev (Q' y35 y1)] (.ite y36 (aD [.ev (.bz (z' y32) (.bz (z' y3) (.const (.bk [])))),.call 8 y25 [Z' #[115,116,97,114,116],y37] [true],.bw 9 y25 [s' y13,y38] [true],.ev (Q' y39 (ki 0)),.chain true y41 (aD [.ev (.idx y24 y32),.ev (q' 0 (.idx y24 y32))] (.ret y43)),.ev (.idx y24 y32),.ev (.set y24 y32 0 (z' y42))] (.jump 2 [y22,y44,y40] [])) (aD [.ev (.idx y24 y32),.ev (q' 0 (.idx y24 y32)),.ev (N' y38)] (.ite y39 (.jump 2 [y22,y24,y25] []) (aD [.ev (P' y22 (ki 1)),.ev (X' .mul (ki 1000) y3),.ev (X' .mul (ki 1000) y35),.ev (P' y41 y42),.ev (X' .mul (ki 1000) y3),.ev (P' y44 (ki 5000)),.ev (.bz (z' (ki 0)) (.bz (z' y40) (.bz (z' y32) (.bz (z' y35) (.bz (z' y43) (.bz (z' y45) (.const (.bk [])))))))),.call 8 y25 [Z' #[112,97,115,115],y46] [true],.bw 9 y25 [s' y13,y47] [true],.ev (X' .neq y48 (ki 0))] (.ite y50 (.ret (C' (kb false) y49)) (.jump 2 [y40,y24,y49] []))))))),.ev (P' y23 (ki 1))] (.jump 1 [y28,y31,y29,y30] [])) (.jump 0 [y24,y25] [])))),.ev (M' y1 (ki 1)),.bw 10 y23 [s' y13,ki 0,y24,ki 100000000] [true,true],.ev (X' .neq (t' y25) (ki 0))] (.ite y27 (.ret (C' (kb false) y26)) (aD [.join 0 0 (.loop 1 [ki 1] (aD [.ev (X' .leq y28 y0)] (.ite y29 (aD [.join 2 0 (aD [.call 11 y26 [s' y13,y28,y3] [true,true],.ev (X' .neq (t' y30) (ki 0))] (.ite y31 (.ret (C' (kb false) y26)) (aD [.join 3 5 (.loop 4 [kb false,ki 0] (aD [.ev (.bI (s' y30)),.ev (X' .lss y33 y34)] (.ite y35 (aD [.join 5 1 (aD [.chain true y32 (aD [.aR (s' y30),.ev (.ax 1 (s' y30) y33),.ev (l' y26 y36),.ev (Q' y37 (ki 5))] (.ret y38))] (.jump 5 [y36] [])),.ev (P' y33 (ki 1))] (.jump 4 [y36,y37] [])) (.jump 3 [y32,y33,y33,y34,y35] [])))),.join 3 5 (.loop 4 [kb false,ki 0] (aD [.ev (.bI (s' y25)),.ev (X' .lss y38 y39)] (.ite y40 (aD [.join 5 1 (aD [.ev (.ax 1 (s' y25) y38),.ev (l' y26 y41),.ev (X' .lss y42 (ki 1)),.chain true y43 (aD [.aR (s' y25),.ev (.ax 1 (s' y25) y38),.ev (l' y26 y44),.ev (X' .gtr y45 y0)] (.ret y46))] (.ite y44 (.ret (C' (kb false) y26)) (aD [.chain true y37 (aD [.aR (s' y25),.ev (.ax 1 (s' y25) y38),.ev (l' y26 y45),.ev (.idx y22 y46),.ev (q' 0 (.idx y22 y46))] (.ret y48))] (.jump 5 [y45] [])))),.ev (P' y38 (ki 1))] (.jump 4 [y41,y42] [])) (.jump 3 [y37,y38,y38,y39,y40] [])))),.ev (.bin .neq .bool y32 y37)] (.ite y42 (.ret (C' (kb false) y26)) (.jump 2 [] [s' y30,t' y30,C' (s' y30) (t' y30),C' (s' y30) (t' y30),s' y30,t' y30,t' y30,s' y30]))))),.ev (P' y28 (ki 1))] (.jump 1 [y30] [])) (.jump 0 [] [])))),.call 5 y26 [] [true]] (.ret (C' y28 y26))))))))
theorem ku3:bP Tryz.prog 3 .plain (E' Tryz.f3 false [10] [] []) [true,true,true,true] u3:=U' Tryz.func3
end
end Go.Am.To
