/- Texts. -/
import Derived.Test.YtjnipnanfjglpaaGreatDoorToGftoToU6
import Derived.Test.YtjnipnanfjglpaaGreatDoorToKn
set_option linter.unusedSimpArgs false
set_option linter.unusedVariables false
namespace Go.Am.To
open Go.Proofs Go.Am.Sc
set_option maxRecDepth 100000
set_option maxHeartbeats 4000000
theorem anj:Tw.fK 100000000 0 1000000000000=true:=by decide
attribute [local irreducible] fK Tw.fK
section
variable {c v p t k:Nat}
theorem ajG (hc:0<c):D.bin .rem .int (I v) (I c)=some (I ((v % c:Nat):Int)):=by
 have h1:(v:Int).tmod c=((v % c:Nat):Int):=by rw[D0U (by omega)];rfl
 simp only[D.bin,rP,Lq,B0d,A0B (show¬(c:Int)=0 by omega),h1,A0y]
theorem aqS (hc:0<c)(hv:v<9223372036854775808):D.bin .quo .int (I v) (I c)=some (I ((v / c:Nat):Int)):=by
 have h1:(v:Int).tdiv c=((v / c:Nat):Int):=by rw[D0l (by omega)];rfl
 have h2:v / c≤v:=Nat.div_le_self v c;generalize v / c=q at h1 h2 ⊢;simp only[D.bin,rP,Lq,B0d,A0B (show¬(c:Int)=0 by omega),h1,wrap64 (show -9223372036854775808≤(q:Int)∧(q:Int)<9223372036854775808 by omega),A0y]
theorem Rj {a b:Nat}(h:a+b<9223372036854775808):D.bin .add .int (I a) (I b)=some (I ((a+b:Nat):Int)):=by show some (I (IntKind.i64.wrap ((a:Int)+b)))=_;rw[wrap64 (by omega)];rfl
theorem ajH {a b:Nat}(h:a*b<9223372036854775808):D.bin .mul .int (I a) (I b)=some (I ((a*b:Nat):Int)):=by
 have e:((a*b:Nat):Int)=(a:Int)*b:=by simp
 show some (I (IntKind.i64.wrap ((a:Int)*b)))=_;rw[←e,wrap64 (by omega)]
theorem aqR {a:Nat}(h:a<9223372036854775808):D.bin .sub .int (I a) (I 1)=some (I ((a:Int)-1)):=by show some (I (IntKind.i64.wrap ((a:Int)-1)))=_;rw[wrap64 (by omega)]
theorem aqT (x:Int):D.mm true (I 0) (I x)=some (I ((max 0 x).toNat:Int)):=by rw[mmG,D0R (by omega)]
theorem Qr {X:List Bool}{i:Nat}{v:Bool}(h:X[i]? = some v):D.idx (.bk (X.map B)) (I i)=some (B v):=by simp[D.idx,h]
theorem Ph {x y:E}{env:List D}{X:List Bool}{i:Nat}{v:Bool}(hv:X[i]? = some v)(hx:x.eval env=some (.bk (X.map B)))(hy:y.eval env=some (I i)):(E.cell 0 (.idx x y)).eval env=some (B v):=by simp only[E.eval,hx,hy,A0d,Qr hv];rfl
theorem afB {X:List Bool}{i:Nat}(h:i<X.length)(y:Bool):D.set (.bk (X.map B)) (I i) 0 (B y)=some (.bk ((X.set i y).map B)):=by simp[D.set,h,D.putAt,D.one]
theorem alW {n:Nat}(h:n≤1000000):D.rep 1 (I n) (B false)=some (.bk ((List.replicate n false).map B)):=by unfold D.rep;simp only;rw[A0z ⟨by omega,by omega,by simp[maxLen];omega⟩];simp
end
def It (w:Wt):List Bool:=false :: w.cs.map Cr.st
theorem LL {w:Wt}{k:Nat}(hk:k<w.cs.length):(It w)[k+1]? = some (w.cs.getD k default).st:=by rw[It,B0B,A0w,A0e hk,A0k,A0e hk];rfl
theorem aa0 {w:Wt}{k:Nat}:(It w).set (k+1) true=It ⟨H9 w.cs k,w.rs⟩:=by simp[It,H9,D0p]
theorem aaZ {w:Wt}{k:Nat}(q:Int)(r:List Rp)(hk:k<w.cs.length)(h:(w.cs.getD k default).st=true):It ⟨zY w.cs k q,r⟩=It w:=by
 have h2:=LL hk;rw[h] at h2;have:It ⟨zY w.cs k q,r⟩=(It w).set (k+1) true:=by simp[It,zY,D0p]
 rw[this];obtain⟨hi,e⟩:=A0c.1 h2;rw[←e];exact D0a hi
def anT (f:Int→Bool)(X:List Int)(j:Nat):Bool:=(X.take j).any f
theorem K4 (f:Int→Bool){X:List Int}{j:Nat}(h:j<X.length):anT f X (j+1)=(anT f X j||f X[j]):=by unfold anT;rw[List.take_add_one,A0e h,List.any_append];simp
theorem Pu (f:Int→Bool)(X:List Int):anT f X X.length=X.any f:=by rw[anT,C0d]
theorem abi {f:Tw.wk}{ss:List Tw.Src}{n:Nat}{W:List Rp}{t a z:Int}{c:Nat}:∀x∈Tw.P6 f ss n W t a z c,∃k:Nat,x=((k+1:Nat):Int)∧k<c:=fun x hx=>by obtain⟨k,hk,rfl⟩:=A0F.1 (B0T.1 hx).1;exact⟨k,rfl,A0X.1 hk⟩
def Qe (k:Nat):List (List UInt8):=(List.range k).map Mk
theorem t_ (k:Nat):(Qe k).length=k:=by simp[Qe]
theorem cW {A G T:Int}{xs:List Int}(hl:xs.length≤maxLen)(hx:∀x∈xs,x<9223372036854775808):∃r,bu Tryz.prog 3 (.st b0) [I A,I G,Is xs,I T] (.ret (B true)) (.st (b0++r)):=by
 have WC:xs.length≤9223372036854775807:=hl;have Eg:aQ Tryz.prog 5 (.st b0) [] (B true):=aat [];cases hA:(decide (A<2)||decide (A > 5)||decide (G<2)||decide (G > 4)||decide ((xs.length:Int) > 40)||decide (T<1)||decide (T > 1000))
 ·simp only[C0c,B0A] at hA;obtain⟨⟨⟨⟨⟨⟨a1,a2⟩,a3⟩,a4⟩,a5⟩,a6⟩,a7⟩:=hA;obtain⟨c,rfl⟩:∃c:Nat,A=c:=⟨A.toNat,by omega⟩;obtain⟨p,rfl⟩:∃p:Nat,G=p:=⟨G.toNat,by omega⟩;obtain⟨t,rfl⟩:∃t:Nat,T=t:=⟨T.toNat,by omega⟩;have hc:2≤c∧c≤5:=by omega
  have hp:2≤p∧p≤4:=by omega
  have hA:(decide ((c:Int)<2)||decide ((c:Int) > 5)||decide ((p:Int)<2)||decide ((p:Int) > 4)||decide ((xs.length:Int) > 40)||decide ((t:Int)<1)||decide ((t:Int) > 1000))=false:=by simp only[C0c,B0A];exact⟨⟨⟨⟨⟨⟨a1,a2⟩,a3⟩,a4⟩,a5⟩,a6⟩,a7⟩
  obtain⟨_,zf,hk⟩:=sS ada tU apP;have h7:=adw zf (A0C.1 (A0C.1 hk c (by simp;omega)) p (by simp;omega)) [];rw[B0F] at h7;obtain⟨_,ht2,Ef⟩:=VT (k:=ckO) hc hp adb apU apT apS apR;have h6:=adx ht2 Ef;obtain⟨S,S0,Sw,g,Sg,hb⟩:=vV hc hp;have hst:=hb.sta hc hp (T:=t) (by omega);rw[←Sg] at hst;obtain⟨vs,JI,hv2⟩:∃vs:List Nat,vs.length=xs.length∧∀i (h:i<xs.length) (h2:i<vs.length),vs[i]=(max 0 xs[i]).toNat:=⟨xs.map fun x=>(max 0 x).toNat,by simp,fun i _ _=>by simp⟩;obtain⟨V,V0,Vw,Vo,m,Vs⟩:=run (vs:=vs) hc hp (by omega) (by omega) hst;obtain⟨E,zl,hE⟩:=al3 Vs (t:=100000000) anj hp.1;rw[JI] at Vo Vs zl hE;obtain⟨Wo,-⟩:=Vo xs.length (A0m _);have Wb:=Wo.busy hp.1;have Wl:=Wo.len;rw[Wl] at zl;obtain⟨r,hr⟩:=hE.b0;refine⟨r,?_⟩;rw[←hr];have hkm:aQ Tryz.prog 5 (.st E) [] (B true):=by rw[hr];exact aat r
  refine ku3.W rfl ?_;unfold u3;simp only[aB,aI,A0i,A0j]
  repeat' (first|(apply dX;simp only[au];rfl)|(apply bf;rfl;(·first|exact hA|exact rfl))|(apply bG;rfl)|(apply cM;rfl;exact bR;simp only[au];rfl)|(apply aU;rfl;simp only[au];rfl)|(apply bC;rfl;rfl;exact h7;rfl;simp only[au];rfl)|(apply dZ;rfl;rfl;exact h6;rfl;simp only[au];rfl)|(apply iP;rfl)|refine aO ?_|exact aH rfl rfl|(intro hz;(try simp only[gq] at hz)))
  refine ew (fun i=>[.bk ((Qe (i+2)).map sB),In i,.bk ((Qe 2).map sB)]) (fun _=>True) p rfl (fun _=>rfl) trivial (fun i hi _ R hR=>?_) (fun _ R=>?_)
  ·have gA:decide ((i:Int)<(p:Int))=true:=by simp;omega
   have h8:=c8 (bs:=Sc c p 0 .bS) (w:=[112,111,115,116]) (ns:=[i,0]) (by decide) (by show 2≤6;decide) (by simp;omega);rw[Xm (by omega)] at h8;have vK:D.app 1 16 (.bk ((Qe (i+2)).map sB)) (.bk ([Mk (i+2)].map sB))=some (.bk ((Qe (i+2)++[Mk (i+2)]).map sB)):=Pt (by rw[t_];simp;omega) (by rw[t_];simp[maxLen];omega) (fun _=>rfl);have hls:Qe (i+1+2)=Qe (i+2)++[Mk (i+2)]:=by show(List.range (i+2+1)).map Mk=_;rw[D0v,C0z];rfl
   rw[←hls] at vK
   repeat' (first|(apply dX;simp only[au];rfl)|(apply bF;rfl;exact gA)|(apply NQ;rfl;rfl;exact vK;simp only[au];rfl)|(apply eo;rfl;omega;simp only[au];rfl)|(apply aU;rfl;simp only[au];rfl)|(apply bC;rfl;rfl;exact h8;rfl;simp only[au];rfl)|refine aO ?_|(apply aL;rfl;rfl)|refine aC ?_|refine kj rfl ?_)
   exact hR trivial
  ·have gA:decide ((p:Int)<(p:Int))=false:=by simp
   repeat' (first|(apply dX;simp only[au];rfl)|(apply bf;rfl;exact gA)|(apply aU;rfl;simp only[au];rfl)|refine aO ?_|(apply aL;rfl;rfl)|refine aC ?_|(refine aT (by decide) ?_)|refine kj rfl ?_)
   refine ew (fun i=>[In i,.st (S i)]) (fun _=>True) (p+2) (by rw[S0];rfl) (fun _=>rfl) trivial (fun i hi _ R hR=>?_) (fun _ R=>?_)
   ·have gA:decide ((i:Int)<((p+2:Nat):Int))=true:=by simp;omega
    have Hs:D.bI (.bk ((Qe (p+2)).map sB))=some (In (p+2)):=by rw[bR,t_]
    have qE:=c_ (xs:=Qe (p+2)) (enc:=sB) (sz:=1) (i:=i) (by rw[t_];exact hi) rfl;have hgi:(Qe (p+2))[i]'(by rw[t_];exact hi)=Mk i:=by simp[Qe]
    rw[hgi] at qE
    repeat' (first|(apply dX;simp only[au];rfl)|(apply bF;rfl;exact gA)|(apply bf;rfl;exact rfl)|(apply bH;rfl;rfl;exact qE;simp only[au];rfl)|(apply cM;rfl;exact Hs;simp only[au];rfl)|(apply eo;rfl;omega;simp only[au];rfl)|(apply aU;rfl;simp only[au];rfl)|(apply dZ;rfl;rfl;exact Sw i hi;rfl;simp only[au];rfl)|refine aO ?_|(apply aL;rfl;rfl)|refine aC ?_|refine kj rfl ?_)
    exact hR trivial
   ·have gA:decide (((p+2:Nat):Int)<((p+2:Nat):Int))=false:=by simp
    have Hs:D.bI (.bk ((Qe (p+2)).map sB))=some (In (p+2)):=by rw[bR,t_]
    have hc1:D.bin .add .int (I c) (I 1)=some (I ((c+1:Nat):Int)):=Rj (a:=c) (b:=1) (by omega)
    repeat' (first|(apply dX;simp only[au];rfl)|(apply bf;rfl;exact gA)|(apply cM;rfl;exact Hs;simp only[au];rfl)|(apply Zo;rfl;(·exact alW (by omega));simp only[au];rfl)|(apply jl;rfl;rfl;exact hc1;simp only[au];rfl)|(apply aU;rfl;simp only[au];rfl)|refine aO ?_|(apply aL;rfl;rfl)|refine aC ?_|(refine aT (by decide) ?_)|refine kj rfl ?_)
    have zg:It (v8 c p t vs 0)=List.replicate (c+1) false:=by simp[It,v8,List.replicate_succ]
    refine ew (fun i=>[In (v8 c p t vs i).rs.length,In i,.bk ((It (v8 c p t vs i)).map B),.st (V i)]) (fun _=>True) xs.length (by rw[V0,zg];rfl) (fun _=>rfl) trivial (fun i hi _ R hR=>?_) (fun _ R=>?_)
    ·have gA:decide ((i:Int)<(xs.length:Int))=true:=by simp;omega
     have qE:=c_ (xs:=xs) (enc:=I) (sz:=1) hi rfl;obtain⟨w1,w2⟩:=Vo i (by omega);have hV:=Vw i (by omega);rw[hv2 i hi] at hV;have hvb:(max 0 xs[i]).toNat<9223372036854775808:=by have:=hx xs[i] (A0T hi);omega
     have RD:=aqT xs[i];have hsu:v8 c p t vs (i+1)=oN c p t (max 0 xs[i]).toNat (v8 c p t vs i):=by rw[BC (by omega),hv2 i hi]
     rw[hsu] at hR;generalize(max 0 xs[i]).toNat=v at hV hvb RD hR;generalize v8 c p t vs i=w at hV hR w1 w2;unfold RT at hV;unfold oN at hR;have b1:=ajG (v:=v) (c:=c) (by omega);have hk:v % c<c:=C0D _ (by omega);have b2:D.bin .add .int (I 1) (I ((v % c:Nat):Int))=some (I ((v % c+1:Nat):Int)):=by rw[D0J (v % c) 1];exact Rj (a:=1) (by omega)
     have b3:=aqS (v:=v) (c:=c) (by omega) hvb;have b4:D.bin .add .int (I p) (I 1)=some (I ((p+1:Nat):Int)):=Rj (a:=p) (b:=1) (by omega);have b5:=ajG (v:=v / c) (c:=p+1) (by omega);have hq:v / c % (p+1)<p+1:=C0D _ (by omega);generalize v / c % (p+1)=q at hV hR b5 hq;generalize v % c=k at hV hR b1 b2 hk;have HZ:k<w.cs.length:=by rw[w1.len];exact hk
     have lE:=LL HZ;have ZZ:k+1<(It w).length:=by simp[It];omega
     by_cases Z3:q=p
     ·subst Z3;have hqt:((q:Int)==(q:Int))=true:=by simp
      rw[A0z rfl] at hR;obtain⟨e,h9,he⟩:=hV.1 rfl;have h8:=c8 (bs:=V i) (w:=pO) (ns:=[k+1,t]) (by decide) (by show 2≤6;decide) (by simp;omega);rcases he with⟨ho,rfl⟩ | ⟨ho,rfl⟩
      ·rw[A0z ho,←aa0] at hR
       repeat' (first|(apply dX;simp only[au];rfl)|(apply aey;rfl;exact rfl)|(apply bF;rfl;exact hqt)|(apply bH;rfl;rfl;exact qE;simp only[au];rfl)|(apply cM;rfl;exact bR;simp only[au];rfl)|(apply Io;rfl;rfl;exact Qr lE;simp only[au];rfl)|(apply Zm;rfl;rfl;rfl;exact afB ZZ _;simp only[au];rfl)|(apply jl;rfl;rfl;(·(with_reducible assumption));simp only[au];rfl)|(apply yB;rfl;rfl;exact RD;simp only[au];rfl)|(apply eo;rfl;omega;simp only[au];rfl)|(apply aU;rfl;simp only[au];rfl)|(apply bC;rfl;rfl;exact h8;rfl;simp only[au];rfl)|(apply dZ;rfl;rfl;exact h9;rfl;simp only[au];rfl)|refine aO ?_|(apply aL;rfl;rfl)|refine aC ?_|refine kj rfl ?_|(apply eN;rfl;all_goals (intro hz;(try simp only[gq] at hz);first|(exact absurd hz (by decide))|(exfalso;omega)|skip)))
       exact hR trivial
      ·rw[A0B ho] at hR;have gT:(It w).set (k+1) (w.cs.getD k default).st=It w:=by obtain⟨h1,h2⟩:=A0c.1 lE;rw[←h2];exact D0a h1
       rw[←gT] at hR
       repeat' (first|(apply dX;simp only[au];rfl)|(apply bF;rfl;exact hqt)|(apply bH;rfl;rfl;exact qE;simp only[au];rfl)|(apply cM;rfl;exact bR;simp only[au];rfl)|(apply Io;rfl;rfl;exact Qr lE;simp only[au];rfl)|(apply Zm;rfl;rfl;rfl;exact afB ZZ _;simp only[au];rfl)|(apply jl;rfl;rfl;(·(with_reducible assumption));simp only[au];rfl)|(apply yB;rfl;rfl;exact RD;simp only[au];rfl)|(apply eo;rfl;omega;simp only[au];rfl)|(apply aU;exact Ph lE rfl rfl;simp only[au];rfl)|(apply aU;rfl;simp only[au];rfl)|(apply bC;rfl;rfl;exact h8;rfl;simp only[au];rfl)|(apply dZ;rfl;rfl;exact h9;rfl;simp only[au];rfl)|(apply iP;rfl)|refine aO ?_|(apply aL;rfl;rfl)|refine aC ?_|refine kj rfl ?_|(apply eN;rfl;all_goals (intro hz;(try simp only[gq] at hz);first|(exact absurd hz (by decide))|(exfalso;omega)|skip))|exact aH rfl rfl|(intro hz;(try simp only[gq] at hz)))
       exact hR trivial
     ·have hqt:((q:Int)==(p:Int))=false:=by simp;omega
      rw[A0B Z3] at hR;cases hs:(w.cs.getD k default).st
      ·rw[hs] at lE;rw[A0B (by rw[hs];decide)] at hR;rw[hV.2.2 Z3 hs] at hR
       repeat' (first|(apply dX;simp only[au];rfl)|(apply bF;rfl;(·first|exact gA|exact rfl))|(apply bf;rfl;exact hqt)|(apply bH;rfl;rfl;exact qE;simp only[au];rfl)|(apply cM;rfl;exact bR;simp only[au];rfl)|(apply Io;rfl;rfl;exact Qr lE;simp only[au];rfl)|(apply jl;rfl;rfl;(·(with_reducible assumption));simp only[au];rfl)|(apply yB;rfl;rfl;exact RD;simp only[au];rfl)|(apply eo;rfl;omega;simp only[au];rfl)|(apply aU;exact Ph lE rfl rfl;simp only[au];rfl)|(apply aU;rfl;simp only[au];rfl)|refine aO ?_|(apply aL;rfl;rfl)|refine aC ?_|refine kj rfl ?_)
       exact hR trivial
      ·rw[hs] at lE;rw[A0z hs,aaZ _ _ HZ hs] at hR;have h9:=hV.2.1 Z3 hs;have h8:=c8 (bs:=V i) (w:=o6) (ns:=[0,w.rs.length+1,k+1,q,1000*t+1000*q,1000*t+5000]) (by decide) (by show 6≤6;decide) (by simp;omega);have b6:D.bin .add .int (I w.rs.length) (I 1)=some (I ((w.rs.length+1:Nat):Int)):=Rj (b:=1) (by omega);have b7:D.bin .mul .int (I 1000) (I t)=some (I ((1000*t:Nat):Int)):=ajH (a:=1000) (by omega);have b8:D.bin .mul .int (I 1000) (I q)=some (I ((1000*q:Nat):Int)):=ajH (a:=1000) (by omega);have b9:D.bin .add .int (I ((1000*t:Nat):Int)) (I ((1000*q:Nat):Int))=some (I ((1000*t+1000*q:Nat):Int)):=Rj (by omega);have b10:D.bin .add .int (I ((1000*t:Nat):Int)) (I 5000)=some (I ((1000*t+5000:Nat):Int)):=Rj (b:=5000) (by omega);have HX:(w.rs++[Rv (w.rs.length+1) k q (1000*t+1000*q) (1000*t+5000)]).length=w.rs.length+1:=by simp
       simp only[HX] at hR;generalize w.rs++[Rv (w.rs.length+1) k q (1000*t+1000*q) (1000*t+5000)]=yS at hR;generalize 1000*t=A at h8 h9 b7 b9 b10;generalize 1000*q=A2 at h8 h9 b8 b9;generalize A+A2=A3 at h8 h9 b9;generalize A+5000=A4 at h8 h9 b10
       repeat' (first|(apply dX;simp only[au];rfl)|(apply bF;rfl;exact gA)|(apply bf;rfl;(·first|exact hqt|exact rfl))|(apply bH;rfl;rfl;exact qE;simp only[au];rfl)|(apply cM;rfl;exact bR;simp only[au];rfl)|(apply Io;rfl;rfl;exact Qr lE;simp only[au];rfl)|(apply jl;rfl;rfl;(·(with_reducible assumption));simp only[au];rfl)|(apply yB;rfl;rfl;exact RD;simp only[au];rfl)|(apply eo;rfl;omega;simp only[au];rfl)|(apply aU;exact Ph lE rfl rfl;simp only[au];rfl)|(apply aU;rfl;simp only[au];rfl)|(apply bC;rfl;rfl;exact h8;rfl;simp only[au];rfl)|(apply dZ;rfl;rfl;exact h9;rfl;simp only[au];rfl)|refine aO ?_|(apply aL;rfl;rfl)|refine aC ?_|refine kj rfl ?_)
       exact hR trivial
    ·have gA:decide ((xs.length:Int)<(xs.length:Int))=false:=by simp
     have b1:=aqR (a:=p) (by omega);rw[show(tv c p).iV.toNat=c from rfl] at zl;have hX:=@abi (tv c p) vi p (Tw.ef (v8 c p t vs xs.length).rs) 100000000 0 ((p:Int)-1) c;have hXl:=Tw.Oa (f:=tv c p) (ss:=vi) (n:=p) (W:=Tw.ef (v8 c p t vs xs.length).rs) 100000000 0 ((p:Int)-1) c;generalize Tw.P6 (tv c p) vi p (Tw.ef (v8 c p t vs xs.length).rs) 100000000 0 ((p:Int)-1) c=X at zl Wb hX hXl
     repeat' (first|(apply dX;simp only[au];rfl)|(apply bf;rfl;(·first|exact gA|exact rfl))|(apply cM;rfl;exact bR;simp only[au];rfl)|(apply jl;rfl;rfl;exact b1;simp only[au];rfl)|(apply aU;rfl;simp only[au];rfl)|(apply dZ;rfl;rfl;exact zl;rfl;simp only[au];rfl)|refine aO ?_|(apply aL;rfl;rfl)|refine aC ?_|(refine aT (by decide) ?_)|refine kj rfl ?_)
     refine ew (fun i=>[I ((i:Int)+1)]) (fun _=>True) c rfl (fun _=>rfl) trivial (fun i hi _ R hR=>?_) (fun _ R=>?_)
     ·have gA:decide ((i:Int)+1≤(c:Int))=true:=by simp;omega
      have Lp:=afT hE (k:=i) (by rw[Wl];exact hi);have hB5:=Y4 p (v8 c p t vs xs.length).cs i;have hol:=Ce p (v8 c p t vs xs.length).cs i 8;generalize mw p (v8 c p t vs xs.length).cs i 8=Y at Lp hB5 hol
      repeat' (first|(apply dX;simp only[au];rfl)|(apply bF;rfl;exact gA)|(apply bf;rfl;exact rfl)|(apply aU;rfl;simp only[au];rfl)|(apply bC;rfl;rfl;exact Lp;rfl;simp only[au];rfl)|refine aO ?_)
      refine ew (fun j=>[B (anT (fun x=>x==5) Y j),In j]) (fun _=>True) Y.length rfl (fun _=>rfl) trivial (fun j hj _ R3 hR3=>?_) (fun _ R3=>?_)
      ·have ace:decide ((j:Int)<(Y.length:Int))=true:=by simp;omega
       have qE:=c_ (xs:=Y) (enc:=I) (sz:=1) hj rfl;rw[K4 _ hj] at hR3
       repeat' (first|(apply dX;simp only[au];rfl)|(apply bF;rfl;exact ace)|(apply bG;rfl)|(apply bH;rfl;rfl;exact qE;simp only[au];rfl)|(apply cM;rfl;exact bR;simp only[au];rfl)|(apply eo;rfl;omega;simp only[au];rfl)|(apply aU;rfl;simp only[au];rfl)|(apply iP;rfl)|refine aO ?_|(apply aL;rfl;rfl)|refine aC ?_|refine kj rfl ?_|exact aH rfl rfl|(intro hz;(try simp only[gq] at hz)))
       exact hR3 trivial
      ·have ace:decide ((Y.length:Int)<(Y.length:Int))=false:=by simp
       rw[Pu,hB5]
       repeat' (first|(apply dX;simp only[au];rfl)|(apply bf;rfl;exact ace)|(apply cM;rfl;exact bR;simp only[au];rfl)|(apply aU;rfl;simp only[au];rfl)|refine aO ?_|(apply aL;rfl;rfl)|refine aC ?_|(refine aT (by decide) ?_)|refine kj rfl ?_)
       refine ew (fun j=>[B (anT (fun x=>((v8 c p t vs xs.length).cs.getD (x-1).toNat default).st) X j),In j]) (fun _=>True) X.length rfl (fun _=>rfl) trivial (fun j hj _ R4 hR4=>?_) (fun _ R4=>?_)
       ·have acd:decide ((j:Int)<(X.length:Int))=true:=by simp;omega
        have qE:=c_ (xs:=X) (enc:=I) (sz:=1) hj rfl;rw[K4 _ hj] at hR4;obtain⟨k,Ln,Ef⟩:=hX X[j] (A0T hj);rw[Ln] at qE hR4;have lE:=LL (w:=v8 c p t vs xs.length) (k:=k) (by rw[Wl];exact Ef);have hcd:(decide (((k+1:Nat):Int)<1)||decide (((k+1:Nat):Int) > (c:Int)))=false:=by simp only[C0c,B0A];omega
        rw[show(((k+1:Nat):Int)-1).toNat=k by omega] at hR4
        repeat' (first|(apply dX;simp only[au];rfl)|(apply bF;rfl;exact acd)|(apply bf;rfl;exact hcd)|(apply bG;rfl)|(apply bH;rfl;rfl;exact qE;simp only[au];rfl)|(apply cM;rfl;exact bR;simp only[au];rfl)|(apply Io;rfl;rfl;exact Qr lE;simp only[au];rfl)|(apply eo;rfl;omega;simp only[au];rfl)|(apply aU;exact Ph lE rfl rfl;simp only[au];rfl)|(apply aU;rfl;simp only[au];rfl)|(apply iP;rfl)|refine aO ?_|(apply aL;rfl;rfl)|refine aC ?_|refine kj rfl ?_|exact aH rfl rfl|(intro hz;(try simp only[gq] at hz)))
        exact hR4 trivial
       ·have acd:decide ((X.length:Int)<(X.length:Int))=false:=by simp
        have QF:(!(NB p (v8 c p t vs xs.length).cs==NB p (v8 c p t vs xs.length).cs))=false:=by simp
        rw[Pu,Wb]
        repeat' (first|(apply dX;simp only[au];rfl)|(apply bf;rfl;(·first|exact acd|exact QF))|(apply cM;rfl;exact bR;simp only[au];rfl)|(apply jf;rfl;rfl;omega;simp only[au];rfl)|(apply aU;rfl;simp only[au];rfl)|(apply aL;rfl;rfl)|refine aC ?_|(refine aT (by decide) ?_)|refine kj rfl ?_)
        exact hR trivial
     ·have gA:decide ((c:Int)+1≤(c:Int))=false:=by simp;omega
      repeat' (first|(apply dX;simp only[au];rfl)|(apply bf;rfl;exact gA)|(apply aU;rfl;simp only[au];rfl)|(apply bC;rfl;rfl;exact hkm;rfl;simp only[au];rfl)|(apply aL;rfl;rfl)|refine aC ?_|(refine aT (by decide) ?_)|refine kj rfl ?_|exact aH rfl rfl)
 ·refine⟨[],?_⟩;rw[B0F];refine ku3.W rfl ?_;unfold u3;simp only[aB,aI,A0i,A0j]
  repeat' (first|(apply dX;simp only[au];rfl)|(apply bF;rfl;exact hA)|(apply cM;rfl;exact bR;simp only[au];rfl)|(apply aU;rfl;simp only[au];rfl)|(apply bC;rfl;rfl;exact Eg;rfl;simp only[au];rfl)|(apply iP;rfl)|exact aH rfl rfl|(intro hz;(try simp only[gq] at hz)))
end Go.Am.To
