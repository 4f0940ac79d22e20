/- Texts. -/
import Derived.Test.YtjnipnanfjglpaaGreatDoorToC1toTwShelf
import Derived.Test.YtjnipnanfjglpaaGreatDoorAmSortPtoAmClone
set_option linter.unusedSimpArgs false
set_option linter.unusedVariables false
namespace Go.Am.Tw
open Go.Proofs
set_option maxRecDepth 100000
set_option maxHeartbeats 4000000
variable {bs:List D} {j m:Nat} {f:wk} {ss:List Src} {kv:List (aF×Int)}
attribute [local irreducible] fK
theorem ao6 {env:List D}{x y:E}{d e:D}(hx:x.eval env=some d)(hy:y.eval env=some e):aA env [x,y]=some [d,e]:=by simp[aA,hx,hy]
theorem aqf {i:Nat}{bU:List D}(hb:bs[i]? = some (.cg bU)):aZ Tryz.prog 204 (.st bs) [.mp i] (.mp bs.length) (.st (bs++[.cg bU])):=
 ads (fun b es clock w hw=>AnyW.maps_Clone Tryz.abz b es clock w hw) hb
theorem ajr (h:mD bs j m f ss kv)(h2:ss.length≤1000000000)(hp:0≤f.places∧f.places≤1000000)(r:aF):aQ Tryz.prog 202 (.st bs) [r.d,.ptr [.loc j 0]] (B (!kW f ss r)):=by
 refine agy.R rfl rfl ?_;unfold aeG;simp only[aB,aI,A0i,A0j]
 repeat' (first|(apply bG;rfl)|(apply aU;rfl;simp only[au];rfl)|(apply bC;rfl;rfl;exact aqg h h2 hp r;rfl;simp only[au];rfl)|exact aH rfl rfl)
theorem M0 {m:Nat}(hm:bs[m]? = some (.cg (kv.map vv))){a:aF}(hg:q_ a kv 0=none):D.m4 (.xM KR) (.st bs) (.mp m) a.d (I 0)=some (.a_ [I 0,B false]):=by rw[J9 hm,hg]
theorem Dm {m:Nat}(hm:bs[m]? = some (.cg (kv.map vv))){a:aF}{p:Nat×Int}(hg:q_ a kv 0=some p):D.m4 (.xM KR) (.st bs) (.mp m) a.d (I 0)=some (.a_ [I p.2,B true]):=by rw[J9 hm,hg]
def pJ (bs:List D)(kv:List (aF×Int))(rs:List aF)(i:Nat):List D:=bs++[.cg (((rs.take i).foldl put kv).map vv)]
theorem K6 (i:Nat){rs:List aF}:(pJ bs kv rs i)[bs.length]? = some (.cg (((rs.take i).foldl put kv).map vv)):=by simp[pJ]
theorem F3 {i:Nat}{rs:List aF}(hi:i<rs.length)(hk:mV ((rs.take i).foldl put kv)):(pJ bs kv rs i).set bs.length (.cg ((PX ((rs.take i).foldl put kv) rs[i]).map vv))=pJ bs kv rs (i+1):=by simp only[pJ,A0O hi,B0z,B0Y,E0I,N4 hk];simp
theorem NH {i:Nat}{rs:List aF}(hi:i<rs.length)(hk:mV ((rs.take i).foldl put kv)){p:Nat×Int}(hg:q_ (dW rs[i]) ((rs.take i).foldl put kv) 0=some p)(hp:¬rs[i].aX<p.2):pJ bs kv rs i=pJ bs kv rs (i+1):=by simp only[pJ,A0O hi,B0z,B0Y,E0I,←N4 hk];simp[PX,hg,hp]
theorem aqu (h:mD bs j m f ss kv)(hk:mV kv)(h2:ss.length≤1000000000)(hp:0≤f.places∧f.places≤1000000){rs:List aF}(hr:rs.length≤1000000)(eE:rs.any (fun r=>!kW f ss r)=false) :
  aZ Tryz.prog 161 (.st bs) [.loc j 0,.bk (rs.map aF.d)] (I (if 5000<((rs.foldl put kv).length:Int) then 4 else 0)) (.st (if 5000<((rs.foldl put kv).length:Int) then bs++[D.cg ((rs.foldl put kv).map vv)] else(bs++[D.cg ((rs.foldl put kv).map vv)]).set j (.blk 150 5 [I f.iV,I f.places,Is f.least,.bk (ss.map Src.d),.mp bs.length]))):=by
 have hc:=ajs (bs:=bs) (P:=fun r=>!kW f ss r) (f:=202) (us:=[]) (cs:=[.ptr [.loc j 0]]) (l:=rs) (by omega) rfl (fun r _=>ajr h h2 hp r);rw[eE] at hc;have pT:j<bs.length:=by have:=h.blk;rw[A0c] at this;exact this.1
 have hkI:∀i,mV ((rs.take i).foldl put kv):=by
  intro i;generalize rs.take i=l;clear eE hc hr h
  induction l generalizing kv with
  | nil=>exact hk
  | cons r l ih=>exact ih (kv:=put kv r) (LX hk r)
 refine ZP.W rfl ?_;unfold aaQ;simp only[aB,aI,A0i,A0j]
 repeat' (first|(apply bf;rfl;exact rfl)|(apply bG;rfl)|(apply dS;rfl;rfl;exact aW h.blk rfl;simp only[au];rfl)|(apply cM;rfl;exact bR;simp only[au];rfl)|(apply aU;rfl;simp only[au];rfl)|(apply bC;rfl;rfl;(·first|exact VZ h|exact hc);rfl;simp only[au];rfl)|(apply dZ;rfl;rfl;exact aqf h.map;rfl;simp only[au];rfl)|refine aO ?_)
 refine ew (fun i=>[I i,.st (pJ bs kv rs i)]) (fun _=>True) rs.length (by simp[aA,E.eval,pJ]) (fun _=>rfl) trivial (fun i hi _ R hR=>?_) (fun _ R=>?_)
 ·have gA:decide ((i:Int)<(rs.length:Int))=true:=by simp;omega
  have jh:rs[i]? = some rs[i]:=A0e hi;have hA:=K6 (bs:=bs) (kv:=kv) (rs:=rs) i;cases hg:q_ (dW rs[i]) ((rs.take i).foldl put kv) 0 with
  | none=>
   have Z4:=SM hA rs[i] (fun p e=>by rw[hg] at e;cases e);rw[F3 hi (hkI i)] at Z4
   repeat' (first|(apply dX;simp only[au];rfl)|(apply bF;rfl;(·first|exact gA|exact rfl))|(apply bG;rfl)|(apply bH;rfl;rfl;exact c_ hi rfl;simp only[au];rfl)|(apply kT;rfl;rfl;rfl;rfl;(·first|exact M0 hA hg|exact Z4);simp only[au];rfl)|(apply eo;rfl;omega;simp only[au];rfl)|(apply aU;rfl;simp only[au];rfl)|(apply bC;rfl;rfl;exact adA _;rfl;simp only[au];rfl)|(apply iP;rfl)|refine aO ?_|(apply aL;rfl;rfl)|refine aC ?_|refine kj rfl ?_|(intro hz;(try simp only[gq] at hz)))
   ·exact hR trivial
   ·exact true
  | some p=>
   by_cases hlt:rs[i].aX<p.2
   ·have Z4:=SM hA rs[i] (fun q e=>by rw[hg] at e;cases e;exact hlt);rw[F3 hi (hkI i)] at Z4
    repeat' (first|(apply dX;simp only[au];rfl)|(apply bF;rfl;(·first|exact gA|(simp[hlt])))|(apply bG;rfl)|(apply bH;rfl;rfl;exact c_ hi rfl;simp only[au];rfl)|(apply kT;rfl;rfl;rfl;rfl;(·first|exact Dm hA hg|exact Z4);simp only[au];rfl)|(apply eo;rfl;omega;simp only[au];rfl)|(apply aU;rfl;simp only[au];rfl)|(apply bC;rfl;rfl;exact adA _;rfl;simp only[au];rfl)|(apply iP;rfl)|refine aO ?_|(apply aL;rfl;rfl)|refine aC ?_|refine kj rfl ?_|exact aH rfl rfl|(intro hz;(try simp only[gq] at hz)))
    exact hR trivial
   ·repeat' (first|(apply dX;simp only[au];rfl)|(apply bF;rfl;exact gA)|(apply bf;rfl;(·(simp[hlt])))|(apply bG;rfl)|(apply bH;rfl;rfl;exact c_ hi rfl;simp only[au];rfl)|(apply kT;rfl;rfl;rfl;rfl;exact Dm hA hg;simp only[au];rfl)|(apply eo;rfl;omega;simp only[au];rfl)|(apply aU;rfl;simp only[au];rfl)|(apply bC;rfl;rfl;exact adA _;rfl;simp only[au];rfl)|(apply iP;rfl)|refine aO ?_|(apply aL;rfl;rfl)|refine aC ?_|refine kj rfl ?_|exact aH rfl rfl|(intro hz;(try simp only[gq] at hz)))
    have e:=NH (bs:=bs) hi (hkI i) hg hlt;refine Eq.mp (B0q R ?_) (hR trivial);simp only[e]
 ·have gA:decide ((rs.length:Int)<(rs.length:Int))=false:=by simp
  have hA:=K6 (bs:=bs) (kv:=kv) (rs:=rs) rs.length;rw[C0d] at hA;have hB:(pJ bs kv rs rs.length)[j]? = some (.blk 150 5 [I f.iV,I f.places,Is f.least,.bk (ss.map Src.d),.mp m]):=by rw[pJ,A0g pT];exact h.blk
  by_cases Yt:5000<((rs.foldl put kv).length:Int)
  ·repeat' (first|(apply dX;simp only[au];rfl)|(apply bF;rfl;(·(simp[Yt])))|(apply bf;rfl;exact gA)|(apply kT;rfl;rfl;rfl;rfl;exact Oi hA;simp only[au];rfl)|(apply aU;rfl;simp only[au];rfl)|(apply aL;rfl;rfl)|refine aC ?_|(refine aT (by decide) ?_)|refine kj rfl ?_)
   refine aH rfl ?_;simp[Yt,pJ]
  ·repeat' (first|(apply dX;simp only[au];rfl)|(apply bf;rfl;(·first|exact gA|(simp[Yt])))|(apply bG;rfl)|(apply je;rfl;rfl;rfl;(·exact gW hB (by simp) rfl);simp only[au];rfl)|(apply kT;rfl;rfl;rfl;rfl;exact Oi hA;simp only[au];rfl)|(apply aU;rfl;simp only[au];rfl)|(apply aL;rfl;rfl)|refine aC ?_|(refine aT (by decide) ?_)|refine kj rfl ?_)
   refine aH rfl ?_;simp[Yt,pJ]
end Go.Am.Tw
