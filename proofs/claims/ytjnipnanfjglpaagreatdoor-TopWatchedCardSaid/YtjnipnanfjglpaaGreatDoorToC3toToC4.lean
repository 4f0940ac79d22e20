/-
  Several texts, one behind the other.
-/
import Derived.Test.YtjnipnanfjglpaaGreatDoorToC1toToU3
import Derived.Test.YtjnipnanfjglpaaGreatDoorAmGen2
import Derived.Test.YtjnipnanfjglpaaGreatDoorAmFntoAmTabK
set_option linter.unusedSimpArgs false
set_option linter.unusedVariables false
set_option maxHeartbeats 4000000
set_option maxRecDepth 100000
namespace Go.Am.To
section
open Go.Proofs Go.Am.Sc

variable {bs:List D} {n:Nat} {r:Rd} {s:Int}
attribute [local irreducible] gY Gh

theorem xq {α β:Type}{f:β→α→β}{l:List α}{i:Nat}(hi:i<l.length)(b:β):(l.take (i+1)).foldl f b=f ((l.take i).foldl f b) l[i]:=by
 rw[B0a hi,List.foldl_append]
 rfl

theorem c84 (h:r.ok n)(hs:-1000000000≤s∧s≤1000000000):aU Tryz.prog 84 (.st bs) [r.d,I s] (I (E2 r s)):=by
 have hL:=h.len
 have hk:=h.secs
 obtain⟨e,he⟩:∃e:Nat→Int,e=fun i=>(r.cls.take i).foldl (fwd r.secs) s:=⟨_,rfl⟩
 have e0:e 0=s:=by rw[he];rfl
 have eN:e r.cls.length=E2 r s:=by rw[he];simp only[List.take_length];rfl
 have eS:∀i (hi:i<r.cls.length),e (i+1)=fwd r.secs (e i) r.cls[i]:=fun i hi=>by rw[he];exact xq hi s
 have eB:∀i,-1000000000≤e i∧e i≤1000000000:=fun i=>by
  have h1:=kX (k:=r.secs) (r.cls.take i) s
  have h2:=CP (k:=r.secs) (r.cls.take i) s fun c hc=>(h.ord.2 c (List.mem_of_mem_take hc)).2.2
  rw[he]
  simp only
  omega
 refine acR.R rfl rfl ?_
 unfold u84
 simp only[aP,bg,A0q,A0r]
 repeat' (first|(apply cw;rfl)|(apply cm;rfl;exact bn;simp only[az];rfl)|refine aK ?_)
 refine dX (fun i=>[I (e i),In i]) (fun _=>True) r.cls.length (by rw[e0];rfl) (fun _=>rfl) trivial (fun i hi hJ R hR=>?_) (fun hJ R=>?_)
 ·have iS:decide ((i:Int)<(r.cls.length:Int))=true:=by simp;omega
  have hb:=eB i
  have rQ:=eS i hi
  generalize e i=x at hb rQ ⊢
  repeat' (first|(apply eZ;simp only[az];rfl)|(apply bK;rfl;exact iS)|(apply cw;rfl)|(apply bG;rfl;rfl;exact bR hi rfl;simp only[az];rfl)|(apply eT;rfl;omega;simp only[az];rfl)|(apply mR;rfl;rfl;omega;simp only[az];rfl)|(apply bk;rfl;simp only[az];rfl)|(apply jm;rfl)|refine aK ?_|(apply aR;rfl;rfl)|refine aF ?_|refine kj rfl ?_|(apply Ds;rfl;(·intro hz;rfl);(·intro hz;rfl);rfl;(·simp only[az,List.zipWith_cons_cons,List.zipWith_nil_left,mT];rfl))|exact aS rfl rfl|(intro hz;(try simp only[gQ] at hz)))
  have:mT (decide (x+r.secs > r.cls[i].1)&&decide (x<r.cls[i].2)) (I r.cls[i].2) (I x)=I (e (i+1)):=by
   rw[rQ]
   unfold fwd
   by_cases h1:x+r.secs > r.cls[i].1∧x<r.cls[i].2
   ·rw[if_pos h1,decide_eq_true h1.1,decide_eq_true h1.2];rfl
   ·rw[if_neg h1]
    have:(decide (x+r.secs > r.cls[i].1)&&decide (x<r.cls[i].2))=false:=by
     rw[←Bool.decide_and]
     exact decide_eq_false h1
    rw[this];rfl
  first | (rw[←this] at hR;exact hR trivial) | (rw[this];exact hR trivial)
 ·repeat' (first|(apply eZ;simp only[az];rfl)|(apply bk;rfl;simp only[az];rfl)|(apply aR;rfl;rfl)|refine aF ?_|(refine bJ (by decide) ?_)|refine kj rfl ?_|(apply iz;rfl;all_goals (intro hz;(try simp only[gQ] at hz);first|(exact absurd hz (by decide))|(exfalso;omega)|skip))|(apply aS;rfl;first|exact rfl|(refine oe ?_)|(refine oa ?_)|(refine oc ?_)))
  rw[eN]

/-! ## closings from behind -/

theorem afe (l:List D):aU Tryz.prog 217 (.st bs) [.a_ l] (.fn 258 [] [.ptr [.a_ l]]):=by
 refine Xf.R rfl rfl ?_
 unfold Vl
 simp only[aP,bg,A0q,A0r]
 repeat' (first|(apply bk;rfl;simp only[az];rfl)|exact aS rfl rfl)

theorem afd {cls:List (Int×Int)}{m0:Nat}{rec:Loop}{sl:List Nat}{cU:List D}(g:Nat→List D)(hL:cls.length≤1000)(hy:∀k (h:k<cls.length),nI Tryz.prog (.yl m0 rec sl cU) (.st (g k)) [I ((cls.length:Int)-1-k),cD (cls[cls.length-1-k]'(by omega))] (.st (g (k+1)))) :
  bt Tryz.prog 258 (.st (g 0)) [.yl m0 rec sl cU,.ptr [.a_ (cls.map cD)]] (.aM []) (.st (g cls.length)):=by
 refine Xe.W rfl ?_
 unfold Vk
 simp only[aP,bg,A0q,A0r]
 repeat' (first|(apply cm;rfl;exact bn;simp only[az];rfl)|(apply jl;rfl;rfl;omega;simp only[az];rfl)|(apply bk;rfl;simp only[az];rfl)|refine aK ?_)
 refine dX (fun k=>[I ((cls.length:Int)-1-k),.st (g k)]) (fun _=>True) cls.length (by rw[show(cls.length:Int)-1-((0:Nat):Int)=cls.length-1 by omega];rfl) (fun _=>rfl) trivial (fun k hk hJ R hR=>?_) (fun hJ R=>?_)
 ·have hg:decide ((cls.length:Int)-1-k≥0)=true:=decide_eq_true (by omega)
  have wm:D.av 2 (.a_ (cls.map cD)) (I ((cls.length:Int)-1-k))=some (.ptr (cD (cls[cls.length-1-k]'(by omega))).cells):=by
   rw[show(cls.length:Int)-1-k=((cls.length-1-k:Nat):Int) by omega]
   exact bR _ rfl
  have Ew:=hy k hk
  repeat' (first|(apply eZ;simp only[az];rfl)|(apply FU;rfl;rfl;rfl;(·exact⟨rfl,Ew⟩);rfl;simp only[az];rfl)|(apply bK;rfl;exact hg)|(apply bL;rfl;exact rfl)|(apply bG;rfl;rfl;exact wm;simp only[az];rfl)|(apply jl;rfl;rfl;omega;simp only[az];rfl)|(apply bk;rfl;simp only[az];rfl)|refine aK ?_|(apply aR;rfl;rfl)|refine aF ?_|refine kj rfl ?_)
  have e:(cls.length:Int)-1-k-1=(cls.length:Int)-1-((k+1:Nat):Int):=by omega
  rw[e]
  exact hR trivial
 ·have hg:decide ((cls.length:Int)-1-cls.length≥0)=false:=decide_eq_false (by omega)
  repeat' (first|(apply eZ;simp only[az];rfl)|(apply bL;rfl;exact hg)|(apply bk;rfl;simp only[az];rfl)|(apply aR;rfl;rfl)|refine aF ?_|(refine bJ (by decide) ?_)|refine kj rfl ?_|exact aS rfl rfl)
end

section
open Go.Proofs Go.Am.Sc

variable {bs:List D} {n:Nat} {r:Rd} {s:Int}
attribute [local irreducible] gY Gh

/-! ## leave -/

def IL (r:Rd)(s:Int)(k:Nat):Int:=(r.cls.reverse.take k).foldl (bwd r.secs) s
def Qs (c:Int×Int):D:=.bh 183 2 [I c.1,I c.2]
def K0 (r:Rd)(s:Int)(k:Nat):List D:=.bh 3 1 [I (IL r s k)] :: (r.cls.reverse.take k).map Qs

theorem DY (k:Nat):aT (K0 r s k)=true:=by
 simp only[K0,aT,D.dG,Bool.true_and,Bool.and_true]
 exact lC fun _ _=>rfl

theorem lI {l:List D}{i:Nat}{x:D}(h:l[i]? = some x):l.set i x=l:=by
 obtain⟨hi,rfl⟩:=A0a.1 h
 exact List.set_getElem_self hi

theorem lN {α:Type}{f:α→D}(h:∀x,(f x).fO=true):∀l:List α,dH (l.map f)=true
 | []=>rfl
 | x :: l=>by simp[dH,h x,lN h l]

theorem L8 (l:List (Int×Int)):aT (l.map cD)=true:=lC fun _ _=>rfl

theorem afh (h:r.ok n)(hs:-1000000000≤s∧s≤1000000000):aU Tryz.prog 184 (.st bs) [r.d,I s] (I (GM r s)):=by
 have hL:=h.len
 have hk:=h.secs
 have hlr:r.cls.reverse.length=r.cls.length:=List.length_reverse
 have eS:∀k (hi:k<r.cls.reverse.length),IL r s (k+1)=bwd r.secs (IL r s k) r.cls.reverse[k]:=fun k hi=>xq hi s
 have eN:IL r s r.cls.length=GM r s:=by unfold IL;rw[←hlr,List.take_length];rfl
 have eB:∀k,-1000000000≤IL r s k∧IL r s k≤1000000000:=fun k=>by
  have h1:=C4 hk.2 (r.cls.reverse.take k) s fun c hc=>(h.ord.2 c (List.mem_reverse.1 (List.mem_of_mem_take hc))).1
  have h2:∀(l:List (Int×Int)) (s:Int),l.foldl (bwd r.secs) s≤s:=fun l=>by
   induction l with
   | nil=>exact fun s=>Int.le_refl _
   | cons c l ih=>exact fun s=>Int.le_trans (ih _) Of
  have h3:=h2 (r.cls.reverse.take k) s
  unfold IL
  omega
 have key:bt Tryz.prog 184 (.st []) [r.d,I s] (I (GM r s)) (.st (K0 r s r.cls.length)):=by
  refine Xi.W rfl ?_
  unfold Vo
  simp only[aP,bg,A0q,A0r]
  repeat' (first|(apply cw;rfl)|(apply bk;rfl;simp only[az];rfl)|(apply bX;rfl;rfl;exact afe _;rfl;simp only[az];rfl)|refine aK ?_)
  refine BN (.aM []) (.st (K0 r s r.cls.length)) rfl (by kernel_rfl) rfl ?_ (by simpa[D.dG] using DY _) (fun cU m0 rec rO=>?_) (by simp only[az];rfl) ?_
  ·repeat' (first|exact CS|((apply zB);rfl;(·first|rfl|(simp[aT,D.dG,D.cells,Rd.d,L8];done))))
  ·refine afd (cls:=r.cls) (fun k=>K0 r s k) (by omega) fun k hi=>?_
   have hi2:k<r.cls.reverse.length:=by omega
   have hc:r.cls.reverse[k]=r.cls[r.cls.length-1-k]'(by omega):=by rw[List.getElem_reverse]
   have e1:=eS k hi2
   have e2:K0 r s (k+1)=.bh 3 1 [I (IL r s (k+1))] :: ((r.cls.reverse.take k).map Qs++[Qs r.cls.reverse[k]]):=by
    rw[K0,B0a hi2,List.map_append]
    rfl
   have hcb:=h.ord.2 _ (List.mem_reverse.1 (List.getElem_mem hi2))
   rw[←hc,e2]
   have hny:=DY (r:=r) (s:=s) k
   have hb:=eB k
   generalize r.cls.reverse[k]=c at e1 hcb ⊢
   have e0:K0 r s k=.bh 3 1 [I (IL r s k)] :: (r.cls.reverse.take k).map Qs:=rfl
   have g3:D.bh 3 1 [I (bwd r.secs (IL r s k) c)] :: ((r.cls.reverse.take k).map Qs++[Qs c])=(K0 r s k++[Qs c]).set 0 (.bh 3 1 [I (bwd r.secs (IL r s k) c)]):=rfl
   have g4:(K0 r s k)[0]? = some (.bh 3 1 [I (IL r s k)]):=rfl
   rw[e1,g3]
   generalize K0 r s k=X at hny g4 ⊢
   generalize IL r s k=x at hb g4 ⊢
   have hX:0<X.length:=(A0a.1 g4).1
   refine rO _ _ _ (by simpa[D.dG] using hny) rfl rfl ?_
   have g0:(X++[D.bh 183 2 [I c.1,I c.2]])[0]? = some (.bh 3 1 [I x]):=by rw[A0j hX];exact g4
   have g1:(X++[D.bh 183 2 [I c.1,I c.2]])[X.length]? = some (.bh 183 2 [I c.1,I c.2]):=List.getElem?_concat_length
   cases hcd:(decide (x+r.secs > c.1)&&decide (x<c.2))
   ·have e3:(X++[Qs c]).set 0 (.bh 3 1 [I (bwd r.secs x c)])=X++[D.bh 183 2 [I c.1,I c.2]]:=by
     have:bwd r.secs x c=x:=by
      unfold bwd
      rw[if_neg]
      intro h1
      rw[decide_eq_true h1.1,decide_eq_true h1.2] at hcd
      cases hcd
     rw[this,show Qs c=D.bh 183 2 [I c.1,I c.2] from rfl]
     exact lI g0
    rw[e3]
    repeat' (first|(apply eZ;simp only[az];rfl)|(apply bL;rfl;exact hcd)|(apply cw;rfl)|(apply kP;rfl;rfl;(·first|exact cj g0 rfl|exact cj g1 rfl);simp only[az];rfl)|(apply kJ;rfl;rfl;rfl;exact mc rfl rfl rfl;simp only[az];rfl)|(apply mR;rfl;rfl;omega;simp only[az];rfl)|(apply bk;rfl;simp only[az];rfl)|(apply jm;rfl)|refine aK ?_|(apply aR;rfl;rfl)|refine aF ?_|refine kj rfl ?_|exact aS rfl rfl|(intro hz;(try simp only[gQ] at hz)))
    rfl
   ·have h1:x+r.secs > c.1∧x<c.2:=by simpa using hcd
    have:bwd r.secs x c=c.1-r.secs:=by
     unfold bwd
     rw[if_pos h1]
    rw[this]
    repeat' (first|(apply eZ;simp only[az];rfl)|(apply bK;rfl;exact hcd)|(apply cw;rfl)|(apply kP;rfl;rfl;(·first|exact cj g0 rfl|exact cj g1 rfl);simp only[az];rfl)|(apply kJ;rfl;rfl;rfl;(·first|exact mc rfl rfl rfl|exact jq g0 Nat.one_pos rfl);simp only[az];rfl)|(apply mR;rfl;rfl;omega;simp only[az];rfl)|(apply jl;rfl;rfl;omega;simp only[az];rfl)|(apply bk;rfl;simp only[az];rfl)|(apply jm;rfl)|refine aK ?_|(apply aR;rfl;rfl)|refine aF ?_|refine kj rfl ?_|exact aS rfl rfl|(intro hz;(try simp only[gQ] at hz)))
    rfl
  ·repeat' (first|(apply eZ;simp only[az];rfl)|(apply kP;rfl;rfl;(·exact cj (show(K0 r s r.cls.length)[0]? = _ from rfl) rfl);simp only[az];rfl)|(apply aR;rfl;rfl)|refine aF ?_|refine kj rfl ?_|(apply aS;rfl;first|exact rfl|(refine oe ?_)|(refine oa ?_)|(refine oc ?_)))
   rw[eN]
 exact key.yy (by have:=lN (f:=cD) (fun c=>rfl) r.cls;simp only[dH,D.fO,Rd.d,Bool.true_and,Bool.and_true,this]) rfl bs

/-! ## ways that are looked at -/

theorem YF {α β:Type}(p:α→Bool)(f:α→β)(l:List α):∃cnt:Nat→Nat,cnt 0=0∧cnt l.length=((l.filter p).map f).length∧∀i (hi:i<l.length),(p l[i]=true→cnt (i+1)=cnt i+1∧∃h:cnt i<((l.filter p).map f).length,((l.filter p).map f)[cnt i]=f l[i])∧(p l[i]=false→cnt (i+1)=cnt i):=by
 refine⟨fun i=>((l.take i).filter p).length,rfl,by simp,fun i hi=>⟨fun hp=>?_,fun hp=>?_⟩⟩
 ·have e1:((l.take (i+1)).filter p)=(l.take i).filter p++[l[i]]:=by
   rw[B0a hi,List.filter_append]
   simp[List.filter_cons,hp]
  have e2:l.filter p=(l.take i).filter p++l[i] :: (l.drop (i+1)).filter p:=by
   conv=>lhs;rw[←List.take_append_drop i l,List.drop_eq_getElem_cons hi,List.filter_append,List.filter_cons]
   simp[hp]
  have hlt:((l.take i).filter p).length<((l.filter p).map f).length:=by rw[List.length_map,e2];simp
  refine⟨by simp only[e1,A0t,List.length_cons,List.length_nil],hlt,?_⟩
  have:((l.filter p).map f)[((l.take i).filter p).length]? = some (f l[i]):=by
   rw[e2]
   simp
  rw[A0f hlt] at this
  exact Option.some.inj this
 ·simp only
  rw[B0a hi,List.filter_append]
  simp[List.filter_cons,hp]

def yD (y:Int×Int):D:=.agg [I y.1,I y.2]



theorem c83 {rs:List Rd} {u a:Int} (hr:∀r∈rs,r.ok n) (hL:rs.length≤1000) (ha:-5000000≤a∧a≤5000000) {m0:Nat} {rec:Loop} {sl:List Nat} {cU:List D} (g:Nat→List D)
  (hy:∀k (h:k<(Bc rs u a).length),nI Tryz.prog (.yl m0 rec sl cU) (.st (g k)) [yD (Bc rs u a)[k]] (.st (g (k+1)))) :
  bt Tryz.prog 83 (.st (g 0)) [.yl m0 rec sl cU,.ptr [I n,.a_ (rs.map Rd.d)],.ptr [I u],.ptr [I a]] (.aM []) (.st (g (Bc rs u a).length)):=by
 obtain⟨cnt,c0,cN,cS⟩:=YF (fun r:Rd=>r.src==u) (fun r:Rd=>(r.dst,E2 r a+r.secs)) rs
 have hG:g (Bc rs u a).length=g (cnt rs.length):=by rw[cN];rfl
 rw[hG,←c0]
 refine acS.W rfl ?_
 unfold u83
 simp only[aP,bg,A0q,A0r]
 repeat' (first|(apply cw;rfl)|(apply cm;rfl;exact bn;simp only[az];rfl)|(apply bk;rfl;simp only[az];rfl)|refine aK ?_)
 refine dX (fun i=>[In i,.st (g (cnt i))]) (fun _=>True) rs.length rfl (fun _=>rfl) trivial (fun i hi hJ R hR=>?_) (fun hJ R=>?_)
 ·have iS:decide ((i:Int)<(rs.length:Int))=true:=by simp;omega
  obtain⟨s1,s2⟩:=cS i hi
  have hk:=hr _ (List.getElem_mem hi)
  have adK:=hk.secs
  cases hp:(rs[i].src==u)
  ·have e:=s2 hp
   rw[e] at hR
   repeat' (first|(apply eZ;simp only[az];rfl)|((apply Io (.v (.bool false)));rfl;exact hp;rfl;simp only[az];rfl)|((apply Ip (.v (.bool false)));rfl;exact hp;simp only[az];rfl)|(apply BP;rfl;exact hp)|(apply bK;rfl;exact iS)|(apply bL;rfl;exact rfl)|(apply cw;rfl)|(apply bG;rfl;rfl;exact bR hi rfl;simp only[az];rfl)|(apply eT;rfl;omega;simp only[az];rfl)|(apply bk;exact Bw rfl hp;simp only[az];rfl)|(apply bk;rfl;simp only[az];rfl)|refine aK ?_|(apply aR;rfl;rfl)|refine aF ?_|refine kj rfl ?_)
   exact hR trivial
  ·obtain⟨e,hlt,hel⟩:=s1 hp
   have Ew:=hy (cnt i) hlt
   have Nk:(Bc rs u a)[cnt i]=(fun r:Rd=>(r.dst,E2 r a+r.secs)) rs[i]:=hel
   rw[Nk] at Ew
   rw[e] at hR
   have hf:(rs[i].src==u&&!true)=false:=by simp
   have wm:=Hy (r:=rs[i]) a
   have heb:=Je hk a
   have hb:-9223372036854775808≤E2 rs[i] a+rs[i].secs∧E2 rs[i] a+rs[i].secs<9223372036854775808:=by omega
   repeat' (first|(apply eZ;simp only[az];rfl)|(apply Lt;rfl;exact hp;rfl;rfl;rfl;(·exact⟨rfl,Ew⟩);rfl;simp only[az];rfl)|(apply Lu;rfl;exact hp;rfl;rfl;(·exact c84 hk (by omega));rfl;simp only[az];rfl)|(apply bK;rfl;exact iS)|(apply bL;rfl;exact hf)|(apply cw;rfl)|(apply bG;rfl;rfl;exact bR hi rfl;simp only[az];rfl)|(apply eT;rfl;omega;simp only[az];rfl)|(apply bk;(·first|exact lE rfl hp (Hx rfl rfl hb)|exact lE rfl hp rfl);simp only[az];rfl)|(apply bk;rfl;simp only[az];rfl)|(apply jm;rfl)|refine aK ?_|(apply aR;rfl;rfl)|refine aF ?_|refine kj rfl ?_|exact aS rfl rfl|(intro hz;(try simp only[gQ] at hz)))
   exact hR trivial
 ·repeat' (first|(apply eZ;simp only[az];rfl)|(apply bk;rfl;simp only[az];rfl)|(apply aR;rfl;rfl)|refine aF ?_|(refine bJ (by decide) ?_)|refine kj rfl ?_|(apply iz;rfl;all_goals (intro hz;(try simp only[gQ] at hz);first|(exact absurd hz (by decide))|(exfalso;omega)|skip))|exact aS rfl rfl)

theorem CR {env:List D}{y:E}{m:Int}(hy:y.eval env=some (I m))(hb:-9223372036854775808<m∧m≤9223372036854775808):(E.un .neg y).eval env=some (I (-m)):=by
 have:IntKind.i64.wrap (0-m)=-m:=by
  rw[Int.zero_sub]
  exact wrap64 (by omega)
 simp only[E.eval,hy,A0d,D.un,this]


theorem afi {rs:List Rd} {u a:Int} (hr:∀r∈rs,r.ok n) (hL:rs.length≤1000) (ha:-5000000≤a∧a≤5000000) {m0:Nat} {rec:Loop} {sl:List Nat} {cU:List D} (g:Nat→List D)
  (hy:∀k (h:k<(Gm rs u a).length),nI Tryz.prog (.yl m0 rec sl cU) (.st (g k)) [yD (Gm rs u a)[k]] (.st (g (k+1)))) :
  bt Tryz.prog 183 (.st (g 0)) [.yl m0 rec sl cU,.ptr [I n,.a_ (rs.map Rd.d)],.ptr [I u],.ptr [I a]] (.aM []) (.st (g (Gm rs u a).length)):=by
 obtain⟨cnt,c0,cN,cS⟩:=YF (fun r:Rd=>r.dst==u) (fun r:Rd=>(r.src,-GM r (-a-r.secs))) rs
 have hG:g (Gm rs u a).length=g (cnt rs.length):=by rw[cN];rfl
 rw[hG,←c0]
 refine Xj.W rfl ?_
 unfold Vp
 simp only[aP,bg,A0q,A0r]
 repeat' (first|(apply cw;rfl)|(apply cm;rfl;exact bn;simp only[az];rfl)|(apply bk;rfl;simp only[az];rfl)|refine aK ?_)
 refine dX (fun i=>[In i,.st (g (cnt i))]) (fun _=>True) rs.length rfl (fun _=>rfl) trivial (fun i hi hJ R hR=>?_) (fun hJ R=>?_)
 ·have iS:decide ((i:Int)<(rs.length:Int))=true:=by simp;omega
  obtain⟨s1,s2⟩:=cS i hi
  have hk:=hr _ (List.getElem_mem hi)
  have adK:=hk.secs
  cases hp:(rs[i].dst==u)
  ·have e:=s2 hp
   rw[e] at hR
   repeat' (first|(apply eZ;simp only[az];rfl)|((apply Io (.v (.bool false)));rfl;exact hp;rfl;simp only[az];rfl)|((apply Ip (.v (.bool false)));rfl;exact hp;simp only[az];rfl)|(apply BP;rfl;exact hp)|(apply bK;rfl;exact iS)|(apply bL;rfl;exact rfl)|(apply cw;rfl)|(apply bG;rfl;rfl;exact bR hi rfl;simp only[az];rfl)|(apply eT;rfl;omega;simp only[az];rfl)|(apply bk;exact Bw rfl hp;simp only[az];rfl)|(apply bk;rfl;simp only[az];rfl)|refine aK ?_|(apply aR;rfl;rfl)|refine aF ?_|refine kj rfl ?_)
   exact hR trivial
  ·obtain⟨e,hlt,hel⟩:=s1 hp
   have Ew:=hy (cnt i) hlt
   have Nk:(Gm rs u a)[cnt i]=(fun r:Rd=>(r.src,-GM r (-a-r.secs))) rs[i]:=hel
   rw[Nk] at Ew
   rw[e] at hR
   have hf:(rs[i].dst==u&&!true)=false:=by simp
   have wm:=Ms hk (-a-rs[i].secs)
   have heb:=IM hk (-a-rs[i].secs)
   have hb:-9223372036854775808≤-a-rs[i].secs∧-a-rs[i].secs<9223372036854775808:=by omega
   have lY:-9223372036854775808<a∧a≤9223372036854775808:=by omega
   have q9:-9223372036854775808<GM rs[i] (-a-rs[i].secs)∧GM rs[i] (-a-rs[i].secs)≤9223372036854775808:=by omega
   repeat' (first|(apply eZ;simp only[az];rfl)|(apply Lt;rfl;exact hp;rfl;rfl;rfl;(·exact⟨rfl,Ew⟩);rfl;simp only[az];rfl)|(apply Lu;rfl;exact hp;rfl;rfl;(·exact afh hk (by omega));rfl;simp only[az];rfl)|(apply bK;rfl;exact iS)|(apply bL;rfl;exact hf)|(apply cw;rfl)|(apply bG;rfl;rfl;exact bR hi rfl;simp only[az];rfl)|(apply eT;rfl;omega;simp only[az];rfl)|(apply bk;(·first|exact lE rfl hp (Hv rfl rfl hb)|exact lE rfl hp (CR rfl lY)|exact lE rfl hp (CR rfl q9)|exact lE rfl hp rfl);simp only[az];rfl)|(apply bk;rfl;simp only[az];rfl)|(apply jm;rfl)|refine aK ?_|(apply aR;rfl;rfl)|refine aF ?_|refine kj rfl ?_|exact aS rfl rfl|(intro hz;(try simp only[gQ] at hz)))
   exact hR trivial
 ·repeat' (first|(apply eZ;simp only[az];rfl)|(apply bk;rfl;simp only[az];rfl)|(apply aR;rfl;rfl)|refine aF ?_|(refine bJ (by decide) ?_)|refine kj rfl ?_|(apply iz;rfl;all_goals (intro hz;(try simp only[gQ] at hz);first|(exact absurd hz (by decide))|(exfalso;omega)|skip))|exact aS rfl rfl)


theorem c82 (rs:List Rd)(u a:Int):aU Tryz.prog 82 (.st bs) [I u,I a,.ptr [I n,.a_ (rs.map Rd.d)]] (.fn 83 [] [.ptr [I n,.a_ (rs.map Rd.d)],.ptr [I u],.ptr [I a]]):=by
 refine acT.R rfl rfl ?_
 unfold u82
 simp only[aP,bg,A0q,A0r]
 repeat' (first|(apply bk;rfl;simp only[az];rfl)|exact aS rfl rfl)

theorem afj (rs:List Rd)(u a:Int):aU Tryz.prog 182 (.st bs) [I u,I a,.ptr [I n,.a_ (rs.map Rd.d)]] (.fn 183 [] [.ptr [I n,.a_ (rs.map Rd.d)],.ptr [I u],.ptr [I a]]):=by
 refine Xk.R rfl rfl ?_
 unfold Vq
 simp only[aP,bg,A0q,A0r]
 repeat' (first|(apply bk;rfl;simp only[az];rfl)|exact aS rfl rfl)
end
end Go.Am.To
