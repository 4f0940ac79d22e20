/-
  Several texts, one behind the other.
-/
import Derived.Test.YthkepocejfghcaaGreatAmSortUtoAmRow
import Derived.Test.YthkepocejfghcaaGreatAmKilltoAmOut
set_option linter.unusedSimpArgs false
set_option linter.unusedVariables false
namespace Go.Am.jy
section
set_option maxRecDepth 100000
set_option maxHeartbeats 4000000

theorem nr {P:Program}{u:U}{env:List D}{Q:iD→Prop}{K:List D→Prop}{n:Nat}(K':List D→Prop)(h:bu P u env (dD n K' (fun _=>False)))(k:∀ds,K' ds→K ds):bu P u env (dD n K Q):=
 cU (fun s hs=>by
  cases s with
  | jump l' ds=>
   simp only[dD] at hs ⊢
   split
   ·rename_i e;rw[if_pos e] at hs;exact k _ hs
   ·rename_i e;rw[if_neg e] at hs;exact hs.elim
  | ret d=>exact hs.elim
  | fc d st sl kd=>exact hs.elim) h

variable {P:Program} {bs:List D} {b:Nat} {e:TypeId} {cf BU E4 Hg BV E5 Hh:cz} {f132 f131 f129 f128 f122 f108 g:FuncId} {c:Int→Int→Int} {dom:Int→Prop} {us cs:List D}

def Fq (P:Program)(bs:List D)(b:Nat)(e:TypeId)(g:FuncId)(us cs:List D)(c:Int→Int→Int)(dom:Int→Prop):Prop:=
 bJ P g=true∧∀xs x y,dom x→dom y→aP P g (.st (Row bs b e xs)) (us++[J x,J y]++cs) (J (c x y))

theorem O6 {A B:List Int}{x:Int}{n:Nat}(h:n=A.length):(A++x :: B)[n]? = some x:=by subst h;simp
theorem Jt {A B:List Int}{x y:Int}{n:Nat}(h:n=A.length+1):(A++x :: y :: B)[n]? = some y:=by
 subst h
 rw[List.getElem?_append_right (by omega),show A.length+1-A.length=1 by omega]
 rfl
theorem Tz {A B:List Int}{x y:Int}:((A++y :: x :: B).set (A.length+1) y).set A.length x=A++x :: y :: B:=by
 rw[List.set_append_right _ _ (by omega),show A.length+1-A.length=1 by omega]
 simp only[List.set_cons_succ,List.set_cons_zero]
 rw[List.set_append_right _ _ (by omega),Nat.sub_self,List.set_cons_zero]
theorem Xk {A B:List Int}{x y:Int}:((A++x :: y :: B).set A.length y).set (A.length+1) x=A++y :: x :: B:=by
 rw[List.set_append_right _ _ (by omega),Nat.sub_self,List.set_cons_zero]
 rw[List.set_append_right _ _ (by omega),show A.length+1-A.length=1 by omega]
 rfl

theorem Lb (hO:Ord c dom){L':List Int}{x:Int}(hd:∀z,z∈L'→dom z)(hx:dom x)(ha:∀z,z∈L'→z<x)(hn:L'.Nodup){M1 M2:List Int}(hM:M1++M2=so c L')(h2:∀y,y∈M2→lt c x y)(h1:∀F4 y,M1=F4++[y]→¬c x y<0):M1++x :: M2=so c (L'++[x]):=by
 have hmem:∀z,z∈M1++M2↔z∈L':=fun z=>by rw[hM];exact m_
 have hs:=iL hO hd hn
 rw[←hM,List.pairwise_append] at hs
 have fz:∀z,z∈L'++[x]→dom z:=fun z hz=>by
  rcases List.mem_append.1 hz with hz | hz
  ·exact hd z hz
  ·simp at hz;rw[hz];exact hx
 have hn':(L'++[x]).Nodup:=by
  rw[List.nodup_append]
  refine⟨hn,by simp,fun a h b hb=>?_⟩
  simp at hb
  have:=ha a h
  omega
 refine LN hO fz hn' ?_ ?_
 ·refine(List.perm_middle).trans ?_
  rw[hM]
  exact((lS L').cons x).trans (by simpa using(List.perm_append_comm (l₁:=[x]) (l₂:=L')))
 ·rw[List.pairwise_append]
  have k1:∀z,z∈M1→lt c z x:=fun z hz=>by
   rcases List.eq_nil_or_concat M1 with e | ⟨F4,y,e⟩
   ·rw[e] at hz;cases hz
   ·rw[List.concat_eq_append] at e
    have hy:y∈L':=(hmem y).1 (by simp[e])
    have hyx:=(hO.lt_iff' hx (hd y hy) (ha y hy)).2 (h1 F4 y e)
    rw[e] at hz
    rcases List.mem_append.1 hz with hz | hz
    ·have My:z∈L':=(hmem z).1 (by simp[e,hz])
     have hp:=hs.1
     rw[e,List.pairwise_append] at hp
     exact hO.lt_trans (hd z My) (hd y hy) hx (hp.2.2 z hz y (by simp)) hyx
    ·simp at hz;rw[hz];exact hyx
  refine⟨hs.1,List.pairwise_cons.2 ⟨h2,hs.2.1⟩,fun z hz w hw=>?_⟩
  rcases List.mem_cons.1 hw with rfl | hw
  ·exact k1 z hz
  ·exact hs.2.2 z hz w hw

theorem X7 (h128:cm P f128 .plain BV [true,true,true,true] MS)(hb:b<bs.length)(hO:Ord c dom)(hc:Fq P bs b e g us cs c dom){T L S:List Int}{n:Nat}(hn:(T++L++S).length=n)(hL:n<1000000000)(hd:∀z,z∈L→dom z)(ha:L.Pairwise (·< ·)) :
  bk P f128 (.st (Row bs b e (T++L++S))) [.sl b 0 n,J T.length,J ((T.length+L.length:Nat):Int),.fn g us cs] (.bh []) (.st (Row bs b e (T++so c L++S))):=by
 simp only[List.length_append] at hn
 refine h128.W rfl ?_
 unfold MS
 simp only[aC,aG,List.cons_append,List.nil_append]
 repeat' (first|(apply aW;rfl;omega;simp only[ai];rfl)|refine au ?_)
 refine bf (fun i=>[J ((T.length+1+i:Nat):Int),.st (Row bs b e (T++so c (L.take (i+1))++L.drop (i+1)++S))]) (fun _=>True) (L.length-1) ?_ (fun _=>rfl) trivial (fun i hi _ R hR=>?_) (fun _ R=>?_)
 ·cases L with
  | nil=>simp[aM,E.eval,so]
  | cons x L=>simp[aM,E.eval,so,ins]
 ·have hr:=hR trivial
  have hi1:i+1<L.length:=by omega
  obtain⟨x,hx⟩:∃x,L[i+1]? = some x:=⟨_,List.getElem?_eq_getElem hi1⟩
  have uT:L[i+1]=x:=by rw[List.getElem?_eq_getElem hi1] at hx;simpa using hx
  have e1:L.drop (i+1)=x :: L.drop (i+2):=by rw[List.drop_eq_getElem_cons hi1,uT]
  have e2:L.take (i+2)=L.take (i+1)++[x]:=by rw[List.take_add_one,hx];rfl
  have hxm:x∈L:=uT ▸ List.getElem_mem hi1
  have hlt:∀z,z∈L.take (i+1)→z<x:=fun z hz=>by
   have:=List.pairwise_append.1 ((List.take_append_drop (i+1) L).symm ▸ ha)
   exact this.2.2 z hz x (by rw[e1];simp)
  have IT:∀z,z∈L.take (i+1)→dom z:=fun z hz=>hd z (List.mem_of_mem_take hz)
  have hn1:(L.take (i+1)).Nodup:=kz (ha.sublist (List.take_sublist _ _))
  have N6:(so c (L.take (i+1))).length=i+1:=by rw[kW];simp;omega
  have hc1:decide (((T.length+1+i:Nat):Int)<((T.length+L.length:Nat):Int))=true:=by simp;omega
  rw[show i+1+1=i+2 by omega,e2] at hr
  rw[e1]
  repeat' (first|(apply bp;simp only[ai];rfl)|(apply aH;rfl;exact hc1)|(apply aD;rfl;simp only[ai];rfl)|refine au ?_)
  refine nr (fun ds=>∃d1 d2 d3 d4 d5:D,ds=[d1,d2,d3,d4,d5,.st (Row bs b e (T++so c (L.take (i+1)++[x])++L.drop (i+2)++S))]) ?_ ?_
  ·refine qM (fun k ds=>∃M1 M2:List Int,M1++M2=so c (L.take (i+1))∧ds=[J ((T.length+M1.length:Nat):Int),.st (Row bs b e (T++(M1++x :: M2)++L.drop (i+2)++S))]∧(∀y,y∈M2→lt c x y)∧k=M1.length) rfl (i+1) ⟨so c (L.take (i+1)),[],by simp,?_,(fun _ h=>by cases h),N6.symm⟩ ?_
   ·rw[N6]
    simp only[List.append_assoc,List.cons_append,List.nil_append]
    rw[show T.length+(i+1)=T.length+1+i by omega]
   rintro k _ ⟨M1,M2,hM,rfl,h2,rfl⟩
   refine⟨rfl,fun R2 k_=>?_⟩
   have hlM:=congrArg List.length hM
   rw[List.length_append,N6] at hlM
   rcases List.eq_nil_or_concat M1 with rfl | ⟨F4,y,e1M⟩
   ·have hf:decide (((T.length+([]:List Int).length:Nat):Int) > (T.length:Int))=false:=by simp
    have hdn:=Lb hO IT (hd x hxm) hlt hn1 hM h2 (fun F4 y h=>by simp at h)
    repeat' (first|(apply bp;simp only[ai];rfl)|(apply ir;rfl;exact hf)|(apply aK;rfl;exact rfl)|(apply aD;rfl;simp only[ai];rfl)|(apply av;rfl;rfl)|refine Qav ?_|(refine aB (by decide) ?_))
    rw[List.nil_append] at hdn
    rw[hdn]
    exact⟨_,_,_,_,_,rfl⟩
   ·rw[List.concat_eq_append] at e1M
    subst e1M
    simp only[List.length_append,List.length_cons,List.length_nil,Nat.zero_add] at hlM ⊢
    have ht:decide (((T.length+(F4.length+1):Nat):Int) > (T.length:Int))=true:=by simp;omega
    have hyL:y∈L.take (i+1):=by rw[←m_ (c:=c),←hM];simp
    have ku:=hc.2 (T++(F4++[y]++x :: M2)++L.drop (i+2)++S) x y (hd x hxm) (IT y hyL)
    obtain⟨X,hX⟩:∃X,X=T++(F4++[y]++x :: M2)++L.drop (i+2)++S:=⟨_,rfl⟩
    obtain⟨A,hA⟩:∃A,A=T++F4:=⟨_,rfl⟩
    obtain⟨Z,hZ⟩:∃Z,Z=M2++(L.drop (i+2)++S):=⟨_,rfl⟩
    have hXA:X=A++y :: x :: Z:=by rw[hX,hA,hZ];simp
    have hAl:A.length=T.length+F4.length:=by rw[hA];simp
    have hXl:X.length=n:=by
     rw[hX]
     simp
     omega
    rw[←hX] at ku ⊢
    have g1:X[T.length+(F4.length+1)]? = some x:=by rw[hXA];exact Jt (by omega)
    have g2:X[T.length+(F4.length+1)-1]? = some y:=by rw[hXA];exact O6 (by omega)
    have s1:T.length+(F4.length+1)<X.length:=by rw[hXA];simp;omega
    have s2:T.length+(F4.length+1)-1<(X.set (T.length+(F4.length+1)) y).length:=by rw[List.length_set];omega
    have sw:(X.set (T.length+(F4.length+1)) y).set (T.length+(F4.length+1)-1) x=T++(F4++x :: ([y]++M2))++L.drop (i+2)++S:=by
     rw[hXA,show T.length+(F4.length+1)=A.length+1 by omega,show A.length+1-1=A.length by omega,Tz,hA,hZ]
     simp
    have hpc:=hc.1
    by_cases FN:c x y<0
    ·have rT:(true&&decide (c x y<0))=true:=by simp[FN]
     have CD:=k_ F4.length _ (by rw[List.length_append,List.length_cons,List.length_nil];omega) ⟨F4,[y]++M2,by rw[←hM];simp,rfl,fun z hz=>by
      rcases List.mem_append.1 hz with hz | hz
      ·simp at hz
       rw[hz]
       exact(hO.lt_iff (hd x hxm) (IT y hyL) (hlt y hyL)).2 FN
      ·exact h2 z hz,rfl⟩
     rw[←sw] at CD
     repeat' (first|(apply bp;simp only[ai];rfl)|(apply jI;rfl;rfl;(·first|exact iI hb g1|exact iI hb g2);simp only[ai];rfl)|(apply aA;rfl;rfl;(·exact eH (by omega));simp only[ai];rfl)|(apply kT;rfl;rfl;rfl;(·first|exact qp hb s1|exact qp hb s2);simp only[ai];rfl)|(apply bZ;rfl;omega;simp only[ai];rfl)|(apply aD;rfl;simp only[ai];rfl)|(apply fJ;rfl;exact hpc;rfl;rfl;exact ku;rfl;simp only[ai];rfl)|(apply bg;rfl)|refine au ?_|(apply av;rfl;rfl)|refine Qav ?_|refine kj rfl ?_|(apply aX;rfl;all_goals (intro hz;(try simp only[bA] at hz);first|(exact absurd hz (by decide))|(exfalso;omega)|skip))|exact aq rfl rfl|(intro hz;(try simp only[bA] at hz)))
     exact CD
    ·have rT:(true&&decide (c x y<0))=false:=by simp[FN]
     have hdn:=Lb hO IT (hd x hxm) hlt hn1 hM h2 (fun asP y' h=>by
      have:=List.append_inj_right' h rfl
      simp at this
      rw[←this]
      exact FN)
     repeat' (first|(apply bp;simp only[ai];rfl)|(apply jI;rfl;rfl;(·first|exact iI hb g1|exact iI hb g2);simp only[ai];rfl)|(apply aA;rfl;rfl;(·exact eH (by omega));simp only[ai];rfl)|(apply bZ;rfl;omega;simp only[ai];rfl)|(apply aD;rfl;simp only[ai];rfl)|(apply fJ;rfl;exact hpc;rfl;rfl;exact ku;rfl;simp only[ai];rfl)|(apply bg;rfl)|(apply av;rfl;rfl)|refine Qav ?_|(refine aB (by decide) ?_)|(apply aX;rfl;all_goals (intro hz;(try simp only[bA] at hz);first|(exact absurd hz (by decide))|(exfalso;omega)|skip))|exact aq rfl rfl|(intro hz;(try simp only[bA] at hz)))
     rw[hX,hdn]
     exact⟨_,_,_,_,_,rfl⟩
  ·rintro _ ⟨d1,d2,d3,d4,d5,rfl⟩
   refine kj rfl ?_
   repeat' (first|(apply bp;simp only[ai];rfl)|(apply aW;rfl;omega;simp only[ai];rfl)|(apply av;rfl;rfl)|refine Qav ?_|refine kj rfl ?_)
   exact hr
 ·have e1:L.take (L.length-1+1)=L:=List.take_of_length_le (by omega)
  have e2:L.drop (L.length-1+1)=[]:=List.drop_of_length_le (by omega)
  have hf:decide (((T.length+1+(L.length-1):Nat):Int)<((T.length+L.length:Nat):Int))=false:=by simp;omega
  rw[e1,e2,List.append_nil]
  repeat' (first|(apply bp;simp only[ai];rfl)|(apply aK;rfl;exact hf)|(apply aD;rfl;simp only[ai];rfl)|(apply av;rfl;rfl)|refine Qav ?_|(refine aB (by decide) ?_)|refine kj rfl ?_|exact aq rfl rfl)
end

section
set_option maxRecDepth 100000
set_option maxHeartbeats 4000000

section
variable {c:Int→Int→Int} {dom:Int→Prop}

theorem BR (hO:Ord c dom){X Y:List Int}(dX:∀z,z∈X→dom z)(dY:∀z,z∈Y→dom z)(hX:X.Pairwise (lt c))(hY:Y.Pairwise (lt c))(h:∀X' x y Y',X=X'++[x]→Y=y :: Y'→lt c x y):∀z,z∈X→∀w,w∈Y→lt c z w:=by
 intro z hz w hw
 rcases List.eq_nil_or_concat X with e | ⟨X',x,e⟩
 ·rw[e] at hz;cases hz
 ·rw[List.concat_eq_append] at e
  cases Y with
  | nil=>cases hw
  | cons y Y'=>
   have hxy:=h X' x y Y' e rfl
   have hx:x∈X:=by rw[e];simp
   have h1:lt c z y:=by
    rw[e] at hz hX
    rcases List.mem_append.1 hz with hz | hz
    ·have:=(List.pairwise_append.1 hX).2.2 z hz x (by simp)
     exact hO.lt_trans (dX z (by rw[e];simp[hz])) (dX x hx) (dY y (by simp)) this hxy
    ·simp at hz;rw[hz];exact hxy
   rcases List.mem_cons.1 hw with rfl | hw'
   ·exact h1
   ·exact hO.lt_trans (dX z hz) (dY y (by simp)) (dY w (by simp[hw'])) h1 ((List.pairwise_cons.1 hY).1 w hw')

variable {A1 A2 B1 B2:List Int}

end
end

section
set_option maxRecDepth 100000
set_option maxHeartbeats 8000000

variable {P:Program} {bs:List D} {b:Nat} {e:TypeId} {cf BU E4 Hg BV E5 Hh:cz} {f132 f131 f129 f128 f122 f108 g:FuncId} {c:Int→Int→Int} {dom:Int→Prop} {us cs:List D}
end

section
set_option maxRecDepth 100000
set_option maxHeartbeats 4000000

section
variable {c:Int→Int→Int} {dom:Int→Prop}

theorem Qw (hO:Ord c dom){k:Nat}{A B:List Int}(hd:∀z,z∈A++B→dom z)(hn:(A++B).Nodup)(hl:A.length+B.length≤2*k):so c (so c A++so c B)=blk c (2*k) (A++B):=by
 rw[l6 (by simpa using hl)]
 exact TT hO hd hn ((lS A).append (lS B))
end

variable {P:Program} {bs:List D} {b:Nat} {e:TypeId} {cf BU E4 Hg BV E5 Hh:cz} {f132 f131 f129 f128 f122 f108 g:FuncId} {c:Int→Int→Int} {dom:Int→Prop} {us cs:List D}
end
end Go.Am.jy
