/- Texts. -/
import Derived.Test.YtjnipnanfjglpaaGreatDoorAmSoundtoAmUT
set_option linter.unusedSimpArgs false
set_option linter.unusedVariables false
namespace Go.Am
section
theorem sb2 {p:Prop}[Decidable p]:(decide p=true)=p:=A0t
theorem sb3 {p:Prop}[Decidable p]:(decide p=false)↔¬p:=B0A
theorem sb4 (a b:Bool):((a&&b)=true)=(a=true∧b=true):=A0f a b
theorem sb5 (a b:Bool):((a||b)=true)=(a=true∨b=true):=B0v a b
theorem sb6 {a b:Bool}:(a||b)=false↔a=false∧b=false:=C0c
theorem sb7 {a:Bool}:(!a)=true↔a=false:=by cases a <;> simp
theorem sb8 {a:Bool}:(!a)=false↔a=true:=by cases a <;> simp
theorem sb9 {a b:Int}:¬a<b↔b≤a:=Int.not_lt
theorem alU {a b:Int}:¬a≤b↔b<a:=Int.not_le
theorem afF {α:Type}[BEq α][LawfulBEq α]{a b:α}:(a==b)=true↔a=b:=B0K
theorem afE {α:Type}[BEq α][LawfulBEq α]{a b:α}:(a != b)=true↔a≠b:=E0j
theorem afD {α:Type}[BEq α][LawfulBEq α]{a b:α}:(a==b)=false↔a≠b:=beq_eq_false_iff_ne
theorem afC {α:Type}[BEq α][LawfulBEq α]{a b:α}:(a != b)=false↔a=b:=bne_eq_false_iff_eq
theorem alT {a b:Bool}:(a&&b)=false↔a=false∨b=false:=D0G
theorem alS {p:Prop}[Decidable p]:¬¬p↔p:=D0k
theorem alR (c f:Bool):(bif c then true else f)=(c||f):=Bool.cond_true_left c f
theorem alQ (c t:Bool):(bif c then t else false)=(c&&t):=Bool.cond_false_right c t
theorem gq:(((!true)=false)∧((!false)=true)∧(∀(p:Prop) [Decidable p],(decide p=true)=p)∧(∀(p:Prop) [Decidable p],(decide p=false)↔¬p)∧(∀a b:Bool,((a&&b)=true)=(a=true∧b=true))∧(∀a b:Bool,((a||b)=true)=(a=true∨b=true))∧(∀a b:Bool,(a||b)=false↔a=false∧b=false)∧(∀a:Bool,(!a)=true↔a=false)∧(∀a:Bool,(!a)=false↔a=true)∧(∀a b:Int,¬a<b↔b≤a)∧(∀a b:Int,¬a≤b↔b<a))∧((∀a b:Int,(a==b)=true↔a=b)∧(∀a b:Int,(a != b)=true↔a≠b)∧(∀a b:Int,(a==b)=false↔a≠b)∧(∀a b:Int,(a != b)=false↔a=b)∧(∀a b:Bool,(a==b)=true↔a=b)∧(∀a b:Bool,(a != b)=true↔a≠b)∧(∀a b:Bool,(a==b)=false↔a≠b)∧(∀a b:Bool,(a != b)=false↔a=b)∧(∀a b:Bool,(a&&b)=false↔a=false∨b=false)∧(∀(p:Prop) [Decidable p],¬¬p↔p)∧(∀c f:Bool,(bif c then true else f)=(c||f))∧(∀c t:Bool,(bif c then t else false)=(c&&t))∧(∀a b:Int,(a≠b)=¬(a=b))∧(∀a b:Bool,(a≠b)=¬(a=b))∧((false=true)=False)∧((true=false)=False)∧(∀p:Prop,(False∨p)=p)∧(∀p:Prop,(p∨False)=p)∧(∀p:Prop,(True∧p)=p)∧(∀p:Prop,(p∧True)=p)):=
 ⟨⟨rfl,rfl,fun _ _=>sb2,fun _ _=>sb3,sb4,sb5,fun _ _=>sb6,fun _=>sb7,fun _=>sb8,fun _ _=>sb9,fun _ _=>alU⟩,fun _ _=>afF,fun _ _=>afE,fun _ _=>afD,fun _ _=>afC,fun _ _=>afF,fun _ _=>afE,fun _ _=>afD,fun _ _=>afC,fun _ _=>alT,fun _ _=>alS,alR,alQ,fun _ _=>rfl,fun _ _=>rfl,by simp,by simp,false_or,or_false,E0m,E0a⟩
theorem au:(∀{α:Type} (a:α) (as bs:List α),a :: as++bs=a :: (as++bs))∧(∀{α:Type} (as:List α),[]++as=as):=⟨fun _ _ _=>rfl,fun _=>rfl⟩
def vZ (P:Program)(u:U)(env:List D)(Q:gu→Prop):Prop:=bp P u env Q
def KJ (P:Program)(n:Nat)(rest:U)(env:List D)(Q:gu→Prop)(ds:List D):Prop:=ds.length=n∧bp P rest (env++ds) Q
def vk (p:Bool)(a b:D):D:=
 match a,b with
 | .v (.bool x),.v (.bool y)=>.v (.bool (bif p then x else y))
 | .v (.int .i64 x),.v (.int .i64 y)=>.v (.int .i64 (if p=true then x else y))
 | a,b=>bif p then a else b
theorem E4 (a b:D):vk true a b=a:=by unfold vk;split <;> rfl
theorem BR (a b:D):vk false a b=b:=by unfold vk;split <;> simp
theorem Ls {p:Bool}:∀{as bs:List D},as.length=bs.length→(p=true→List.zipWith (vk p) as bs=as)∧(p=false→List.zipWith (vk p) as bs=bs)
 | [],[],_=>⟨fun _=>rfl,fun _=>rfl⟩
 | a :: as,b :: bs,h=>by obtain⟨h1,h2⟩:=Ls (p:=p) (as:=as) (bs:=bs) (by simpa using h);exact⟨fun e=>by rw[C0A,h1 e,e,E4],fun e=>by rw[C0A,h2 e,e,BR]⟩
 | [],_ :: _,h | _ :: _,[],h=>by simp at h
section
variable {P:Program} {u v a b rest body:U} {env bB:List D} {Q:gu→Prop} {x y z g h:E} {d st h':D} {ds:List D} {args:List E} {rs:List Bool} {f:FuncId} {p q:Bool} {l n:Nat}
theorem dX (he:env=bB)(k:bp P u bB Q):vZ P u env Q:=by subst he;exact k
theorem kj (hl:ds.length=n)(k:vZ P rest (env++ds) Q):KJ P n rest env Q ds:=⟨hl,k⟩
theorem aU (hx:x.eval env=some d)(he:env++[d]=bB)(k:bp P u bB Q):bp P (.ev x u) env Q:=by subst he;exact⟨d,hx,k⟩
theorem NO {dy dz:D}(hg:g.eval env=some (.v (.bool p)))(hy:y.eval env=some dy)(hz:z.eval env=some dz)(he:env++[vk p dy dz]=bB)(k:bp P u bB Q):bp P (.ev (.ite g y z) u) env Q:=by subst he;exact⟨_,by cases p <;> simp only[E.eval,hg,hy,hz,E4,BR],k⟩
theorem bG (hx:x.eval env=some d)(k:bp P u env Q):bp P (.aR x u) env Q:=⟨⟨d,hx⟩,k⟩
theorem bC (hs:h.eval env=some st)(ha:aA env args=some ds)(hf:aQ P f st ds d)(hr:d.fits rs=true)(he:env++[d]=bB)(k:bp P u bB Q):bp P (.call f h args rs u) env Q:=by subst he;exact⟨st,ds,d,hs,ha,hf,hr,k⟩
theorem dZ (hs:h.eval env=some st)(ha:aA env args=some ds)(hf:aZ P f st ds d h')(hr:d.fits rs=true)(he:env++[d,h']=bB)(k:bp P u bB Q):bp P (.bw f h args rs u) env Q:=by subst he;exact⟨st,ds,d,h',hs,ha,hf,hr,k⟩
theorem kU {us cs:List D}(hx:x.eval env=some (.fn f us cs))(hc:bL P f=true)(hs:h.eval env=some st)(ha:aA env args=some ds)(hf:aQ P f st (us++ds++cs) d)(hr:d.fits rs=true)(he:env++[d]=bB)(k:bp P u bB Q):bp P (.ei x h args rs u) env Q:=by subst he;exact⟨f,us,cs,st,ds,d,hx,hc,hs,ha,hf,hr,k⟩
theorem iP (hg:g.eval env=some (.v (.bool p)))(h1:p=false→bp P v env (fun s=>s=.ret (.v (.bool q))))(k:vZ P u (env++[.v (.bool (p||q))]) Q):bp P (.chain true g v u) env Q:=⟨p,q,hg,h1,k⟩
theorem fp (hg:g.eval env=some (.v (.bool p)))(h1:p=true→bp P v env (fun s=>s=.ret (.v (.bool q))))(k:vZ P u (env++[.v (.bool (p&&q))]) Q):bp P (.chain false g v u) env Q:=⟨p,q,hg,h1,k⟩
theorem eN {c:Bool}(hg:g.eval env=some (.v (.bool c)))(k1:c=true→bp P a env Q)(k2:c=false→bp P b env Q):bp P (.ite g a b) env Q:=⟨c,hg,k1,k2⟩
theorem bF {c:Bool}(hg:g.eval env=some (.v (.bool c)))(hc:c=true)(k:bp P a env Q):bp P (.ite g a b) env Q:=⟨c,hg,fun _=>k,fun e=>(by rw[hc] at e;cases e)⟩
theorem bf {c:Bool}(hg:g.eval env=some (.v (.bool c)))(hc:c=false)(k:bp P b env Q):bp P (.ite g a b) env Q:=⟨c,hg,fun e=>(by rw[hc] at e;cases e),fun _=>k⟩
theorem aO (k:bp P body env (cU l (KJ P n rest env Q) Q)):bp P (.join l n body rest) env Q:=k
theorem aew {as bs:List E}{WL ds2:List D}(hg:g.eval env=some (.v (.bool p)))(h1:p=true→aA env as=some WL)(h2:p=false→aA env bs=some ds2)(hl:WL.length=ds2.length)(he:env++List.zipWith (vk p) WL ds2=bB)(k:bp P rest bB Q):bp P (.Xn g as bs rest) env Q:=by subst he;exact⟨p,_,hg,fun e=>by rw[(Ls hl).1 e];exact h1 e,fun e=>by rw[(Ls hl).2 e];exact h2 e,k⟩
theorem aL {vals Nw:List E}{cs:List D}(hc:aA env Nw=some cs)(hv:aA env vals=some ds)(k:Q (.jump l ds)):bp P (.jump l vals Nw) env Q:=⟨⟨cs,hc⟩,ds,hv,k⟩
theorem aH (hx:x.eval env=some d)(k:Q (.ret d)):bp P (.ret x) env Q:=⟨d,hx,k⟩
theorem aex {sl:List Nat}{ks:List E}(hx:x.eval env=some d)(hh:h.eval env=some st)(hk:aA env ks=some ds)(k:Q (.ee d st sl ds)):bp P (.ee x h sl ks) env Q:=⟨d,st,ds,hx,hh,hk,k⟩
theorem Im {sl:List Nat}{ks:List E}(hs:h.eval env=some st)(ha:aA env args=some ds)(hf:eS P f st ds (.ret d))(hr:d.fits rs=true)(he:env++[d]=bB)(k:bp P u bB Q):bp P (.gX f h args rs sl ks u) env Q:=by subst he;exact⟨st,ds,.ret d,hs,ha,hf,hr,k⟩
theorem Sb {sl:List Nat}{ks:List E}{kd:List D}(hs:h.eval env=some st)(ha:aA env args=some ds)(hf:eS P f st ds (.ee d))(hk:aA env ks=some kd)(k:Q (.ee d st sl kd)):bp P (.gX f h args rs sl ks u) env Q:=⟨st,ds,.ee d,hs,ha,hf,kd,hk,k⟩
theorem yA {sl:List Nat}{ks:List E}(hs:h.eval env=some st)(ha:aA env args=some ds)(hf:bu P f st ds (.ret d) h')(hr:d.fits rs=true)(he:env++[d,h']=bB)(k:bp P u bB Q):bp P (.gH f h args rs sl ks u) env Q:=by subst he;exact⟨st,ds,.ret d,h',hs,ha,hf,hr,k⟩
theorem LA {sl:List Nat}{ks:List E}{us cs:List D}(hx:x.eval env=some (.fn f us cs))(hc:bL P f=true)(hs:h.eval env=some st)(ha:aA env args=some ds)(hf:bu P f st (us++ds++cs) (.ret d) h')(hr:d.fits rs=true)(he:env++[d,h']=bB)(k:bp P u bB Q):bp P (.fS x h args rs sl ks u) env Q:=by subst he;exact⟨f,us,cs,st,ds,.ret d,h',hx,hc,hs,ha,hf,hr,k⟩
theorem LB {sl:List Nat}{ks:List E}{us cs kd:List D}(hx:x.eval env=some (.fn f us cs))(hc:bL P f=true)(hs:h.eval env=some st)(ha:aA env args=some ds)(hf:bu P f st (us++ds++cs) (.ee d) h')(hk:aA env ks=some kd)(k:Q (.ee d h' sl kd)):bp P (.fS x h args rs sl ks u) env Q:=⟨f,us,cs,st,ds,.ee d,h',hx,hc,hs,ha,hf,kd,hk,k⟩
theorem Zp {keep:List Nat}{cr:List E}{res:E}{eH:List D}(hc:aA env cr=some eH)(hl:eH.all D.JE=true)(k:bp P u env (HU P f keep eH res Q)):bp P (.Ia f keep cr res u) env Q:=⟨eH,hc,hl,k⟩
theorem Sa {ys:List D}(hx:x.eval env=some (.bk ys))(k:∀d st,.a_ [d,st]∈ys→vZ P u (env++[d,st]) Q):bp P (.pick x u) env Q:=⟨ys,hx,k⟩
theorem vf {inits:List E}(I:Nat→List D→Prop)(hi:aA env inits=some ds)(k:Nat)(h0:I k ds)(hb:∀k ds,I k ds→ds.length=inits.length∧∀R:List D→Prop,(∀k' kL,k'<k→I k' kL→R kL)→vZ P body (env++ds) (cU l R Q)):bp P (.loop l inits body) env Q:=
 ⟨ds,hi,k+1,B0 (fun _ _ _ hR h=>⟨h.1,dK hR h.2⟩) I (fun k ds h R hR=>⟨(hb k ds h).1,(hb k ds h).2 R hR⟩) k ds h0⟩
theorem ew {inits:List E} (f:Nat→List D) (J:Nat→Prop) (n:Nat) (h0:aA env inits=some (f 0)) (hl:∀i,(f i).length=inits.length) (j0:J 0)
  (hb:∀i,i<n→J i→∀R:List D→Prop,(J (i+1)→R (f (i+1)))→vZ P body (env++f i) (cU l R Q))
  (he:J n→∀R:List D→Prop,vZ P body (env++f n) (cU l R Q)):bp P (.loop l inits body) env Q:=by
 refine vf (fun k ds=>∃i,i≤n∧k=n-i∧ds=f i∧J i) h0 n ⟨0,B0e _,rfl,rfl,j0⟩ ?_
 rintro k _ ⟨i,hi,rfl,rfl,hJ⟩
 refine⟨hl i,fun R hR=>?_⟩;rcases A0U i n with h | h
 ·exact hb i h hJ R fun hJ'=>hR (n-(i+1)) _ (by omega) ⟨i+1,h,rfl,rfl,hJ'⟩
 ·have e:i=n:=by omega
  subst e;exact he hJ R
theorem Vp {env:List D}{y z:E}{m k:Int}(hy:y.eval env=some (.v (.int .i64 m)))(hz:z.eval env=some (.v (.int .i64 k)))(hb:-9223372036854775808≤m+k∧m+k<9223372036854775808):(E.bin .add .int y z).eval env=some (.v (.int .i64 (m+k))):=by
 simp only[E.eval,hy,hz,A0d,D.bin,rP,Lq,wrap64 hb,B0d,A0y]
 first | done | rfl
theorem M9 {env:List D}{y z:E}{m k:Int}(hy:y.eval env=some (.v (.int .i64 m)))(hz:z.eval env=some (.v (.int .i64 k)))(hb:-9223372036854775808≤m-k∧m-k<9223372036854775808):(E.bin .sub .int y z).eval env=some (.v (.int .i64 (m-k))):=by
 simp only[E.eval,hy,hz,A0d,D.bin,rP,Lq,wrap64 hb,B0d,A0y]
 first | done | rfl
theorem adg {env:List D}{y:E}{i:Nat}(hy:y.eval env=some (.v (.int .i64 i)))(hb:i<4611686018427387904):(E.bin .add .int y (.const (.v (.int .i64 1)))).eval env=some (.v (.int .i64 (i+1:Nat))):=
 Vp (k:=1) hy (by rfl) (by omega)
theorem adh {env:List D}{y:E}{i:Nat}(hy:y.eval env=some (.v (.int .i64 (i+1:Nat))))(hb:i<4611686018427387904):(E.bin .sub .int y (.const (.v (.int .i64 1)))).eval env=some (.v (.int .i64 i)):=by have:=M9 (z:=.const (.v (.int .i64 1))) (k:=1) hy (by rfl) (by omega);rw[this];congr 3;omega
theorem YH {env:List D}{y:E}{i:Nat}(hy:y.eval env=some (.v (.int .i64 i)))(hb:1≤i∧i<4611686018427387904):(E.bin .sub .int y (.const (.v (.int .i64 1)))).eval env=some (.v (.int .i64 (i-1:Nat))):=by obtain⟨k,rfl⟩:∃k,i=k+1:=⟨i-1,by omega⟩;exact adh hy (by omega)
theorem eW {d d' st:D}(h:d=d'):gu.ret (.a_ [d,st])=gu.ret (.a_ [d',st]):=by rw[h]
theorem eX {x y:Bool}{st:D}(h:x=y):gu.ret (.a_ [.v (.bool x),st])=gu.ret (.a_ [.v (.bool y),st]):=by rw[h]
theorem eV {k:IntKind}{x y:Int}{st:D}(h:x=y):gu.ret (.a_ [.v (.int k x),st])=gu.ret (.a_ [.v (.int k y),st]):=by rw[h]
end
section
variable {α:Type} {enc:α→D} {xs:List α} {i:Nat} {a:α}
theorem bR:D.bI (.bk (xs.map enc))=some (.v (.int .i64 xs.length)):=by simp[D.bI]
end
end
section
def jI {α:Type}(bs:List D)(e:TypeId)(sz:Nat)(enc:α→List D)(s:D)(xs:List α):Prop:=
 (xs=[]∧s=.bS)∨∃i,s=.sl i 0 xs.length∧bs[i]? = some (.blk e sz (xs.flatMap enc))
def D.Em:D→Option Nat
 | .sl i _ _=>some i
 | _=>none
section
variable {α:Type} {bs bs':List D} {e:TypeId} {sz:Nat} {enc:α→List D} {s:D} {xs:List α}
theorem jI.len (h:jI bs e sz enc s xs):D.bI s=some (.v (.int .i64 xs.length)):=by rcases h with⟨rfl,rfl⟩ | ⟨i,rfl,_⟩ <;> rfl
theorem jI.get (h:jI bs e sz enc s xs){i:Nat}(hi:i<xs.length):∃b,s=.sl b 0 xs.length∧bs[b]? = some (.blk e sz (xs.flatMap enc)):=by
 rcases h with⟨rfl,_⟩ | h
 ·simp at hi
 ·exact h
theorem jI.keep (h:jI bs e sz enc s xs)(hk:∀i,s.Em=some i→bs'[i]? = bs[i]?):jI bs' e sz enc s xs:=by
 rcases h with h | ⟨i,rfl,h⟩
 ·exact .inl h
 ·exact .inr ⟨i,rfl,by rw[hk i rfl];exact h⟩
theorem jI.lt (h:jI bs e sz enc s xs){i:Nat}(hi:s.Em=some i):i<bs.length:=by
 rcases h with⟨_,rfl⟩ | ⟨j,rfl,h⟩
 ·cases hi
 ·cases hi;exact(A0c.1 h).1
theorem jI.blk (h:jI bs e sz enc s xs){i:Nat}(hi:s.Em=some i):bs[i]? = some (.blk e sz (xs.flatMap enc)):=by
 rcases h with⟨_,rfl⟩ | ⟨j,rfl,h⟩
 ·cases hi
 ·cases hi;exact h
theorem jI.ne (h:jI bs e sz enc s xs){i k:Nat}(hi:s.Em=some i){e':TypeId}{yG:Nat}{cs:List D}(hk:bs[k]? = some (.blk e' yG cs))(he:e≠e'):i≠k:=by
 rintro rfl
 rw[h.blk hi] at hk;cases hk;exact he rfl
theorem jI.nil:jI bs e sz enc .bS ([]:List α):=.inl ⟨rfl,rfl⟩
theorem nM (bV:∀x,(enc x).length=sz):∀{xs:List α} {i:Nat} {x:α},xs[i]? = some x→∃r,(xs.flatMap enc).drop (i*sz)=enc x++r
 | [],i,x,h=>by simp at h
 | y :: ys,0,x,h=>by simp at h;subst h;exact⟨ys.flatMap enc,by simp⟩
 | y :: ys,i+1,x,h=>by obtain⟨r,hr⟩:=nM bV (xs:=ys) (i:=i) (x:=x) (by simpa using h);refine⟨r,?_⟩;rw[B0r,List.drop_append,bV y,show(i+1)*sz=sz+i*sz from by rw[B0w];omega];rw[D0z (by rw[bV y];omega),E0o,hr];rfl
theorem iO (bV:∀x,(enc x).length=sz):∀{xs:List α},(xs.flatMap enc).length=xs.length*sz
 | []=>by simp
 | y :: ys=>by rw[B0r,A0u,iO bV,bV y,B0a,B0w];omega
theorem fA {b n i:Nat}(hi:i<n):D.ax sz (.sl b 0 n) (.v (.int .i64 i))=some (.loc b (i*sz)):=by simp[D.ax,hi]
theorem ZO {b i:Nat}{x:α}(hb:bs[b]? = some (.blk e sz (xs.flatMap enc)))(bV:∀x,(enc x).length=sz)(hx:xs[i]? = some x):D.ld true sz (.st bs) (.loc b (i*sz))=some (.agg (enc x)):=by
 obtain⟨r,hr⟩:=nM bV hx;have hl:=iO bV (xs:=xs);have hi:=(A0c.1 hx).1;have h1:i*sz+sz≤(xs.flatMap enc).length:=by rw[hl,←E0B];exact B0k _ hi
 simp only[D.ld,D.vT,D.eG,hb,A0d,B0d,h1,hr,List.take_append,bV x,B0R,D0E,B0F];rw[C0B (by rw[bV x];omega)]
theorem mG {b i k:Nat}{x:α}{d:D}(hb:bs[b]? = some (.blk e sz (xs.flatMap enc)))(bV:∀x,(enc x).length=sz)(hx:xs[i]? = some x)(hk:(enc x)[k]? = some d):D.ld false 1 (.st bs) (.loc b (i*sz+k))=some d:=by obtain⟨r,hr⟩:=nM bV hx;simp only[D.ld,D.vT,D.eG,hb,A0d,A0S,B0n];rw[←A0Z,hr,A0g (A0c.1 hk).1];exact hk
theorem Mu {b i:Nat}{x:α}{d:D}(hb:bs[b]? = some (.blk e sz (xs.flatMap enc)))(bV:∀x,(enc x).length=sz)(hx:xs[i]? = some x)(hk:(enc x)[0]? = some d):D.ld false 1 (.st bs) (.loc b (i*sz))=some d:=mG (k:=0) hb bV hx hk
theorem aW {j k:Nat}{cs:List D}{d:D}(hj:bs[j]? = some (.blk e sz cs))(hk:cs[k]? = some d):D.ld false 1 (.st bs) (.loc j k)=some d:=by simp only[D.ld,D.vT,D.eG,hj,A0d,A0S,B0n,hk]
theorem Ow {j k n:Nat}{cs:List D}(hj:bs[j]? = some (.blk e sz cs))(hk:k+n≤cs.length):D.ld true n (.st bs) (.loc j k)=some (.agg ((cs.drop k).take n)):=by simp only[D.ld,D.vT,D.eG,hj,A0d,B0d,hk]
end
section
variable {P:Program} {u:U} {Q:gu→Prop} {env bB:List D} {x y z:E} {d dx dy dz:D}
theorem dS {g:Bool}{n:Nat}(hx:x.eval env=some dx)(hy:y.eval env=some dy)(h:D.ld g n dx dy=some d)(he:env++[d]=bB)(kk:bp P u bB Q):bp P (.ev (.ld g n x y) u) env Q:=by subst he;exact⟨d,by simp only[E.eval,hx,hy,A0d,h],kk⟩
theorem bH {n:Nat}(hx:x.eval env=some dx)(hy:y.eval env=some dy)(h:D.ax n dx dy=some d)(he:env++[d]=bB)(kk:bp P u bB Q):bp P (.ev (.ax n x y) u) env Q:=by subst he;exact⟨d,by simp only[E.eval,hx,hy,A0d,h],kk⟩
theorem cM  (hx:x.eval env=some dx)(h:D.bI dx=some d)(he:env++[d]=bB)(kk:bp P u bB Q):bp P (.ev (.bI x) u) env Q:=by subst he;exact⟨d,by simp only[E.eval,hx,A0d,h],kk⟩
theorem Io  (hx:x.eval env=some dx)(hy:y.eval env=some dy)(h:D.idx dx dy=some d)(he:env++[d]=bB)(kk:bp P u bB Q):bp P (.ev (.idx x y) u) env Q:=by subst he;exact⟨d,by simp only[E.eval,hx,hy,A0d,h],kk⟩
theorem NQ {n m:Nat}(hx:x.eval env=some dx)(hy:y.eval env=some dy)(h:D.app n m dx dy=some d)(he:env++[d]=bB)(kk:bp P u bB Q):bp P (.ev (.app n m x y) u) env Q:=by subst he;exact⟨d,by simp only[E.eval,hx,hy,A0d,h],kk⟩
theorem BE {n:Nat}(hx:x.eval env=some dx)(hy:y.eval env=some dy)(hz:z.eval env=some dz)(h:D.sub n dx dy dz=some d)(he:env++[d]=bB)(kk:bp P u bB Q):bp P (.ev (.sub n x y z) u) env Q:=by subst he;exact⟨d,by simp only[E.eval,hx,hy,hz,A0d,h],kk⟩
theorem Zm {k:Nat}(hx:x.eval env=some dx)(hy:y.eval env=some dy)(hz:z.eval env=some dz)(h:D.set dx dy k dz=some d)(he:env++[d]=bB)(kk:bp P u bB Q):bp P (.ev (.set x y k z) u) env Q:=by subst he;exact⟨d,by simp only[E.eval,hx,hy,hz,A0d,h],kk⟩
theorem je {n:Nat}(hx:x.eval env=some dx)(hy:y.eval env=some dy)(hz:z.eval env=some dz)(h:D.eL n dx dy dz=some d)(he:env++[d]=bB)(kk:bp P u bB Q):bp P (.ev (.eL n x y z) u) env Q:=by subst he;exact⟨d,by simp only[E.eval,hx,hy,hz,A0d,h],kk⟩
theorem yC {e n m:Nat}(hx:x.eval env=some dx)(hy:y.eval env=some dy)(hz:z.eval env=some dz)(h:D.gM e n m dx dy dz=some d)(he:env++[d]=bB)(kk:bp P u bB Q):bp P (.ev (.gM e n m x y z) u) env Q:=by subst he;exact⟨d,by simp only[E.eval,hx,hy,hz,A0d,h],kk⟩
theorem Zo {n:Nat}{d0:D}(hx:x.eval env=some dx)(h:D.rep n dx d0=some d)(he:env++[d]=bB)(kk:bp P u bB Q):bp P (.ev (.rep n x d0) u) env Q:=by subst he;exact⟨d,by simp only[E.eval,hx,A0d,h],kk⟩
theorem jl {o:BinOp}{k:Kd}(hx:x.eval env=some dx)(hy:y.eval env=some dy)(h:D.bin o k dx dy=some d)(he:env++[d]=bB)(kk:bp P u bB Q):bp P (.ev (.bin o k x y) u) env Q:=by subst he;exact⟨d,by simp only[E.eval,hx,hy,A0d,h],kk⟩
theorem kT {o:MOp}{w:E}{dw:D}(hx:x.eval env=some dx)(hy:y.eval env=some dy)(hz:z.eval env=some dz)(hw:w.eval env=some dw)(h:D.m4 o dx dy dz dw=some d)(he:env++[d]=bB)(kk:bp P u bB Q):bp P (.ev (.m4 o x y z w) u) env Q:=by subst he;exact⟨d,by simp only[E.eval,hx,hy,hz,hw,A0d,h],kk⟩
theorem yB {g:Bool}(hx:x.eval env=some dx)(hy:y.eval env=some dy)(h:D.mm g dx dy=some d)(he:env++[d]=bB)(kk:bp P u bB Q):bp P (.ev (.mm g x y) u) env Q:=by subst he;exact⟨d,by simp only[E.eval,hx,hy,A0d,h],kk⟩
theorem BF {n:Nat}{x1 x2 x3:E}{d1 d2 d3:D}(hx:x.eval env=some dx)(hy:y.eval env=some dy)(h1:x1.eval env=some d1)(h2:x2.eval env=some d2)(h3:x3.eval env=some d3)(ha:D.apps d1 d2 d3=some dz)(h:D.eL n dx dy dz=some d)(he:env++[d]=bB)(kk:bp P u bB Q):bp P (.ev (.eL n x y (.apps x1 x2 x3)) u) env Q:=by subst he;exact⟨d,by simp only[E.eval,hx,hy,h1,h2,h3,ha,A0d,h],kk⟩
theorem Gb (hx:x.eval env=some d)(hy:y.eval env=some d)(hs:D.same d d=true)(he:env++[d]=bB)(kk:bp P u bB Q):bp P (.ev (.m4 .same x y .nil .nil) u) env Q:=by subst he;exact⟨d,by simp only[E.eval,hx,hy,A0d,D.m4,hs,B0d],kk⟩
theorem jf {m k:Int}(hx:x.eval env=some (.v (.int .i64 m)))(hy:y.eval env=some (.v (.int .i64 k)))(hb:-9223372036854775808≤m+k∧m+k<9223372036854775808)(he:env++[.v (.int .i64 (m+k))]=bB)(h:bp P u bB Q):bp P (.ev (.bin .add .int x y) u) env Q:=by subst he;exact⟨_,Vp hx hy hb,h⟩
theorem fP {m k:Int}(hx:x.eval env=some (.v (.int .i64 m)))(hy:y.eval env=some (.v (.int .i64 k)))(hb:-9223372036854775808≤m-k∧m-k<9223372036854775808)(he:env++[.v (.int .i64 (m-k))]=bB)(h:bp P u bB Q):bp P (.ev (.bin .sub .int x y) u) env Q:=by subst he;exact⟨_,M9 hx hy hb,h⟩
theorem eo {i:Nat}(hx:x.eval env=some (.v (.int .i64 i)))(hb:i<4611686018427387904)(he:env++[.v (.int .i64 (i+1:Nat))]=bB)(h:bp P u bB Q):bp P (.ev (.bin .add .int x (ki 1)) u) env Q:=by subst he;exact⟨_,adg hx hb,h⟩
theorem ku {i:Nat}(hx:x.eval env=some (.v (.int .i64 i)))(hb:1≤i∧i<4611686018427387904)(he:env++[.v (.int .i64 (i-1:Nat))]=bB)(h:bp P u bB Q):bp P (.ev (.bin .sub .int x (ki 1)) u) env Q:=by subst he;exact⟨_,YH hx hb,h⟩
end
section
variable {α:Type} {enc:α→D} {xs ys:List α} {i:Nat} {a:α}
theorem nO {sz:Nat}(h:xs[i]? = some a)(hc:(enc a).cells.length=sz):D.ax sz (.bk (xs.map enc)) (.v (.int .i64 i))=some (.ptr (enc a).cells):=by simp[D.ax,h,hc]
theorem c_ {sz:Nat}(h:i<xs.length)(hc:(enc xs[i]).cells.length=sz):D.ax sz (.bk (xs.map enc)) (.v (.int .i64 i))=some (.ptr (enc xs[i]).cells):=nO (A0e h) hc
theorem Pt {sz bytes:Nat}(h:(xs.length+ys.length)*bytes≤140737488355328)(h':xs.length+ys.length≤maxLen)(bV:∀a,(enc a).cells.length=sz):D.app sz bytes (.bk (xs.map enc)) (.bk (ys.map enc))=some (.bk ((xs++ys).map enc)):=by
 have h1:∀zs:List α,cC sz (zs.map enc)=true:=fun zs=>by simp[cC,bV]
 simp only[D.app,h1,B0u,E0a];rw[A0z ⟨h,h'⟩,C0z]
theorem D2 {sz bytes:Nat}(h:(xs.length+1)*bytes≤140737488355328)(h':xs.length+1≤maxLen)(bV:∀a,(enc a).cells.length=sz):D.app sz bytes (.bk (xs.map enc)) (.bk [enc a])=some (.bk ((xs++[a]).map enc)):=
 Pt (ys:=[a]) h h' bV
end
section
variable {P:Program} {body:U} {env:List D} {Q:gu→Prop} {l:Nat}
theorem Sd {α S:Type} {inits:List E} (xs:List α) (enc:S→Nat→List D) (G:List α→S→Prop) (s0:S) (h0:aA env inits=some (enc s0 0)) (hl:∀s i,(enc s i).length=inits.length) (g0:G xs s0)
  (hb:∀i x s,xs[i]? = some x→i<xs.length→G (x :: xs.drop (i+1)) s→∀R:List D→Prop,(∀s',G (xs.drop (i+1)) s'→R (enc s' (i+1)))→vZ P body (env++enc s i) (cU l R Q))
  (he:∀s,G [] s→∀R:List D→Prop,vZ P body (env++enc s xs.length) (cU l R Q)):bp P (.loop l inits body) env Q:=by
 refine vf (fun k ds=>∃i s,i≤xs.length∧k=xs.length-i∧ds=enc s i∧G (xs.drop i) s) h0 xs.length ⟨0,s0,B0e _,rfl,rfl,g0⟩ ?_
 rintro k _ ⟨i,s,hi,rfl,rfl,hG⟩
 refine⟨hl s i,fun R hR=>?_⟩;rcases A0U i xs.length with h | h
 ·refine hb i xs[i] s (A0e h) h (by rw[←B0S h];exact hG) R fun s' hs=>hR (xs.length-(i+1)) _ (by omega) ⟨i+1,s',h,rfl,rfl,hs⟩
 ·have e:i=xs.length:=by omega
  subst e;exact he s (by simpa using hG) R
end
end
section
theorem P5 {d:D}(h:d.one=true):d.cells=[d]:=by cases d <;> first | rfl | simp[D.one] at h
section
variable {α:Type} {bs:List D} {e:TypeId} {sz:Nat} {enc:α→List D} {s:D} {xs:List α}
theorem gW {i k:Nat}{cs:List D}{d:D}(hb:bs[i]? = some (.blk e sz cs))(hk:k<cs.length)(hd:d.one=true):D.eL 1 (.st bs) (.loc i k) d=some (.st (bs.set i (.blk e sz (cs.set k d)))):=by
 simp only[D.eL,D.eG,hb,A0d,P5 hd,B0a,B0C,E0N,hd,List.all_nil,E0M,E0m,E0a];rw[A0z (by omega)];have:cs.set k d=cs.take k++[d]++cs.drop (k+1):=by rw[List.set_eq_take_append_cons_drop,A0z hk];simp
 rw[this]
theorem Kf (bV:∀x,(enc x).length=sz){o:Nat}(ho:o<sz){d:D}{x':α}:∀{xs:List α} {i:Nat} {x:α},xs[i]? = some x→enc x'=(enc x).set o d→(xs.flatMap enc).set (i*sz+o) d=(xs.set i x').flatMap enc
 | [],i,x,h,_=>by simp at h
 | y :: ys,0,x,h,he=>by simp at h;subst h;simp only[B0r,List.set_cons_zero,D0X,A0Q];rw[D0L _ _ (by rw[bV];exact ho),he]
 | y :: ys,i+1,x,h,he=>by simp only[B0r,D0q];rw[C0q _ _ (by rw[bV,B0w];omega),bV,show(i+1)*sz+o-sz=i*sz+o from by rw[B0w];omega,Kf bV ho (xs:=ys) (by simpa using h) he]
theorem sD {b i o:Nat}{x x':α}{d:D}(hb:bs[b]? = some (.blk e sz (xs.flatMap enc)))(bV:∀x,(enc x).length=sz)(hx:xs[i]? = some x)(ho:o<sz)(hd:d.one=true)(he:enc x'=(enc x).set o d):D.eL 1 (.st bs) (.loc b (i*sz+o)) d=some (.st (bs.set b (.blk e sz ((xs.set i x').flatMap enc)))):=by rw[gW hb _ hd,Kf bV ho hx he];rw[iO bV];have hi:=(A0c.1 hx).1;have:(i+1)*sz≤xs.length*sz:=B0k _ hi;rw[B0w] at this;omega
theorem jI.append (h:jI bs e sz enc s xs){bytes:Nat}{x:α}{y:D}(bV:∀x,(enc x).length=sz)(hy:y.cells=enc x)(ho:(enc x).all (·.one)=true)(hb:(xs.length+1)*bytes≤140737488355328)(hm:xs.length+1≤maxLen) :
  ∃fN,D.gM e sz bytes (.st bs) s (.bk [y])=some (.st fN)∧D.apps (.st bs) s (.bk [y])=some (.sl bs.length 0 (xs.length+1))∧fN[bs.length]? = some (.blk e sz ((xs++[x]).flatMap enc))∧fN.length=bs.length+1∧∀k,k<bs.length→s.Em≠some k→fN[k]? = bs[k]?:=by
 have hac:cC sz [y]=true:=by simp[cC,hy,bV]
 have cV:((cH [y]).all (·.one))=true:=by simpa[cH,hy] using ho
 rcases h with⟨rfl,rfl⟩ | ⟨i,rfl,hi⟩
 ·refine⟨bs++[.blk e sz (cH [y])],?_,rfl,?_,by simp,fun k hk _=>by rw[A0g hk]⟩
  ·simp only[D.gM,D.Ic,hac,cV,C0w,B0n,B0a,B0C];rw[A0z (by refine⟨by simpa using hb,by simpa using hm,?_⟩;simp)]
  ·simp[cH,hy]
 ·have ug:=(A0c.1 hi).1;refine⟨(bs.set i (.a_ []))++[.blk e sz (xs.flatMap enc++cH [y])],?_,rfl,?_,by simp,fun k hk bQ=>?_⟩
  ·simp only[D.gM,D.Ic,D.eG,hi,A0d,hac,cV,C0w,B0n,B0a,B0C];rw[A0z (by refine⟨?_,?_,?_,iO bV,by simpa using hb,by simpa using hm,?_⟩ <;> simp)]
  ·rw[A0o (by simp)];simp[cH,hy]
  ·rw[A0g (by simpa using hk)];rw[A0q (fun e'=>bQ (by rw[e'];rfl))]
end
section
variable {pre:List D} {kd:Kd} {bU:List D} {k u:D}
end
structure RT (bs:List D)(F:Nat→Prop)(bs':List D)(F':Nat→Prop):Prop where
 len:bs.length≤bs'.length
 old:∀k,k<bs.length→¬F k→bs'[k]? = bs[k]?
 new:∀k,F' k→F k∨bs.length≤k
theorem RT.refl (bs:List D)(F:Nat→Prop):RT bs F bs F:=⟨A0m _,fun _ _ _=>rfl,fun _ h=>.inl h⟩
theorem RT.trans {bs fN nS:List D}{F F1 F2:Nat→Prop}(h:RT bs F fN F1)(h':RT fN F1 nS F2):RT bs F nS F2:=by
 refine⟨A0J h.len h'.len,fun k hk hf=>?_,fun k hk=>?_⟩
 ·rw[h'.old k (A0v hk h.len) (fun h1=>(h.new k h1).elim hf fun h2=>absurd hk (by omega)),h.old k hk hf]
 ·rcases h'.new k hk with h1 | h1
  ·exact h.new k h1
  ·exact .inr (A0J h.len h1)
end
section
noncomputable section
structure Spec where
 f:FuncId
 fn:Func
 cf:cF
 own:Bool
 kn:Kn:=.plain
 nd:Bool:=false
def KG (P:Program)(s:Spec):Option T:=
 match s.kn with
 | .plain=>jE P s.cf s.fn
 | .defers keep=>iU P s.cf s.fn keep
 | .gK=>oC P s.cf s.fn
def pK (P:Program):List Spec→Prop
 | []=>True
 | s :: r=>P.funcs[s.f]? = some s.fn∧pK P r
def lG (P:Program)(k:vY→Bool):List Spec→vY→Bool
 | [],tb=>k tb
 | s :: r,tb=>match KG P s with
  | none=>false
  | some t=>lG P k r ({ f:=s.f,kn:=s.kn,cf:=s.cf,own:=s.own,bn:=bK P s.fn,t:=t,nd:=s.nd } :: tb)
theorem sS {P:Program}{k:vY→Bool}:∀{l:List Spec} {tb:vY},pK P l→(∀e,e∈tb→ay P e)→lG P k l tb=true→∃tb',(∀e,e∈tb'→ay P e)∧k tb'=true
 | [],tb,_,h,hk=>⟨tb,h,hk⟩
 | s :: r,tb,hs,h,hk=>by
  unfold lG at hk;split at hk
  ·cases hk
  ·rename_i t ht;refine sS hs.2 (fun e he=>?_) hk;rcases A0E.1 he with rfl | he
   ·refine⟨s.fn,hs.1,rfl,?_⟩;unfold KG at ht;cases hk:s.kn <;> rw[hk] at ht <;> exact ht
   ·exact h e he
structure Fact where
 f:FuncId
 ds:List D
 d:D
def Fact.ok (P:Program)(b0:List D)(x:Fact):Prop:=∀bs:List D,aQ P x.f (.st (b0++bs)) x.ds x.d
def HT (P:Program)(b0:List D):List Fact→Prop
 | []=>True
 | x :: r=>x.ok P b0∧HT P b0 r
def zy (f:FuncId)(ds:List D):List Fact→Option D
 | []=>none
 | x :: r=>if x.f=f then(if D.fq x.ds ds=true then some x.d else zy f ds r) else zy f ds r
theorem zx {P:Program}{b0:List D}{f:FuncId}{ds:List D}{d:D}{bs:List D}:∀{l:List Fact},HT P b0 l→zy f ds l=some d→aQ P f (.st (b0++bs)) ds d
 | [],_,h=>by simp[zy] at h
 | x :: r,hl,h=>by
  unfold zy at h;split at h
  ·rename_i hf;split at h
   ·rename_i hd;cases h;have:=hl.1 bs;rw[hf,D.dB hd] at this;exact this
   ·exact zx hl.2 h
  ·exact zx hl.2 h
def rN (b0:List D)(l:List Fact):AI where
 R:=fun f st ds=>match st with
  | .st bs=>if vV b0 bs=true then(zy f ds l).map .ret else none
  | _=>none
 W:=fun _ _ _=>none
 F:=fun _ _ _ _=>none
 I:=fun _ _ _ _ _=>none
theorem iR {P:Program}{b0:List D}{l:List Fact}(h:HT P b0 l):lD P (rN b0 l):=by
 refine⟨fun f st ds r hr=>?_,fun _ _ _ _ _ h=>(by cases h),fun _ _ _ _ _ h=>(by cases h),fun _ _ _ _ _ _ _ h=>(by cases h)⟩;simp only[rN] at hr;split at hr
 ·split at hr
  ·rename_i hb;obtain⟨q,rfl⟩:=uu hb;obtain⟨d,hd,rfl⟩:=A0a.1 hr;exact zx h hd
  ·cases hr
 ·cases hr
def Out.TX (d:D):Option Out→Bool
 | some (.ret d')=>D.same d' d
 | _=>false
theorem Out.TW {d:D}{x:Option Out}(h:Out.TX d x=true):x=some (.ret d):=by
 unfold Out.TX at h;split at h
 ·rw[D.cL h]
 ·cases h
theorem tU {P:Program}:∀e:Entry,e∈[]→ay P e:=fun e he=>by simp at he
theorem HA {P:Program}{l:List Spec}{o:AI}{b0:List D}(hs:pK P l)(ho:lD P o)(x:Fact)(n m:Nat)(hd:eD x.ds=true)(h0:rD b0=true)(h1:x.d.gL=true){tb0:vY}(ht:∀e,e∈tb0→ay P e)(h:lG P (fun tb=>Out.TX x.d ((kV P tb n b0 o m).R x.f (.st b0) x.ds)) l tb0=true):x.ok P b0:=by obtain⟨tb,g1,g2⟩:=sS hs ht h;exact fun bs=>((nV (n:=n) g1 ho m).R x.f (.st b0) x.ds _ (Out.TW g2)).ofA h0 hd h1 bs
end
end
end Go.Am
