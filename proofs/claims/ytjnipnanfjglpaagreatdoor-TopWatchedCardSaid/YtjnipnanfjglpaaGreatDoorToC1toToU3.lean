/-
  Several texts, one behind the other.
-/
import Derived.Test.YtjnipnanfjglpaaGreatDoorToBasetoScAct
import Derived.Test.YtjnipnanfjglpaaGreatDoorAmFntoAmTabK
import Derived.Test.YtjnipnanfjglpaaGreatDoorAmKilltoAmOut
set_option linter.unusedSimpArgs false
set_option linter.unusedVariables false
namespace Go.Am.To
section
open Go.Proofs Go.Am.Sc
set_option maxRecDepth 100000
set_option maxHeartbeats 4000000

variable {bs:List D}

def cD (c:Int×Int):D:=.agg [I c.1,I c.2]
def Rd.d (r:Rd):D:=.agg [I r.src,I r.dst,I r.secs,.a_ (r.cls.map cD)]
def Nt (n:Int)(rs:List Rd):D:=.agg [I n,.a_ (rs.map Rd.d)]
structure Vh where
 pos:Int
 C_:Int
 lo:Int
 hi:Int
def Vh.d (v:Vh):D:=.agg [I v.pos,I v.C_,I v.lo,I v.hi]
structure Zn where
 pos:Int
 kL:Int
 win:Int
def Zn.d (z:Zn):D:=.agg [I z.pos,I z.kL,I z.win]


theorem RQ (x lo hi:Int):aU Tryz.prog 36 (.st bs) [I x,I lo,I hi] (B (gY x lo hi)):=by
 refine ada.R rfl rfl ?_
 unfold u36
 simp only[aP,bg,A0q,A0r]
 repeat' (first|(apply eZ;simp only[az];rfl)|(apply bk;rfl;simp only[az];rfl)|(apply jm;rfl)|exact aS rfl rfl|(intro hz;(try simp only[gQ] at hz)))

theorem Um (x lo hi:Int):aU Tryz.prog 41 (.st bs) [I x,I lo,I hi] (B (gY x lo hi)):=by
 refine ac5.R rfl rfl ?_
 unfold u41
 simp only[aP,bg,A0q,A0r]
 repeat' (first|(apply eZ;simp only[az];rfl)|(apply bk;rfl;simp only[az];rfl)|(apply jm;rfl)|exact aS rfl rfl|(intro hz;(try simp only[gQ] at hz)))

attribute [local irreducible] gY

theorem gq {x lo hi:Int}:gY x lo hi=true↔lo≤x∧x≤hi:=by unfold gY;simp

theorem c77 (x:Int):aU Tryz.prog 77 (.st bs) [I x] (B (gY x 0 65535)):=by
 refine acY.R rfl rfl ?_
 unfold u77
 simp only[aP,bg,A0q,A0r]
 repeat' (first|(apply bX;rfl;rfl;exact Um _ _ _;rfl;simp only[az];rfl)|exact aS rfl rfl)

def z7 (c:Int×Int):Bool:=decide (c.1<0)||decide (c.1≥c.2)||decide (c.2 > 100000)
def QZ (l:List (Int×Int))(i:Nat):Bool:=match l[i]? with
 | some c=>!z7 c&&(match i with | 0=>true | j+1=>match l[j]? with | some b=>decide (b.2<c.1) | none=>true)
 | none=>true
def Pn (l:List (Int×Int)):Bool:=(List.range l.length).all (QZ l)

theorem L5 {l:List (Int×Int)}(h:Pn l=true):Ord l:=by
 have hk:∀i (hi:i<l.length),z7 l[i]=false∧∀j (hj:j+1=i),(l[j]'(by omega)).2<l[i].1:=by
  intro i hi
  have:=A0z.1 h i (List.mem_range.2 hi)
  refine⟨?_,fun j hj=>?_⟩
  ·simp only[QZ,A0f hi] at this
   cases hb:z7 l[i] <;> simp[hb] at this ⊢
  ·subst hj
   simp only[QZ,A0f hi,A0f (show j<l.length by omega)] at this
   simpa using(Bool.and_eq_true_iff.1 this).2
 have hb:∀i (hi:i<l.length),0≤l[i].1∧l[i].1<l[i].2∧l[i].2≤100000:=by
  intro i hi
  have:=(hk i hi).1
  simp only[z7,Bool.or_eq_false_iff,decide_eq_false_iff_not] at this
  omega
 refine⟨?_,fun c hc=>?_⟩
 ·rw[List.pairwise_iff_getElem]
  intro i j hi hj hij
  obtain⟨d,rfl⟩:∃d,j=i+1+d:=⟨j-i-1,by omega⟩
  clear hij
  induction d with
  | zero=>exact(hk (i+1) hj).2 i rfl
  | succ d ih=>
   have h1:=ih (by omega)
   have h2:=(hk (i+1+(d+1)) hj).2 (i+1+d) (by omega)
   have h3:=hb (i+1+d) (by omega)
   omega
 ·obtain⟨i,hi,rfl⟩:=List.mem_iff_getElem.1 hc
  exact hb i hi

def Oj (n:Int)(r:Rd):Bool:=!gY r.src 0 (n-1)||!gY r.dst 0 (n-1)||(r.src==r.dst)||!gY r.secs 1 10000||decide ((r.cls.length:Int) > 20)
def Gh (n:Int)(r:Rd):Bool:=!Oj n r&&Pn r.cls

theorem Ss {n:Nat}{r:Rd}(h:Gh n r=true):r.ok n:=by
 simp only[Gh,Oj,A0g,Bool.not_eq_true',Bool.or_eq_false_iff,Bool.not_eq_false',gq,beq_eq_false_iff_ne,decide_eq_false_iff_not] at h
 obtain⟨⟨⟨⟨⟨h1,h2⟩,_⟩,h3⟩,h4⟩,h5⟩:=h
 exact⟨by omega,by omega,h3,L5 h5,by omega⟩

theorem Ox {P:Nat→Bool}{n i:Nat}(hi:i<n)(h:P i=false):(List.range n).all P=false:=List.all_eq_false.2 ⟨i,List.mem_range.2 hi,by simp[h]⟩
theorem QF {P:Nat→Bool}{n:Nat}(h:∀i,i<n→P i=true):(List.range n).all P=true:=A0z.2 fun i hi=>h i (List.mem_range.1 hi)

theorem c37 {n:Int}(hn:1≤n∧n≤200)(r:Rd)(hL:r.cls.length≤maxLen):aU Tryz.prog 37 (.st bs) [I n,r.d] (B (Gh n r)):=by
 have hL':r.cls.length≤9223372036854775807:=hL
 refine ac_.R rfl rfl ?_
 unfold u37
 simp only[aP,bg,A0q,A0r]
 unfold Gh
 cases hc:(!gY r.src 0 (n-1)||!gY r.dst 0 (n-1)||(r.src==r.dst)||!gY r.secs 1 10000||decide ((r.cls.length:Int) > 20))
 ·have OT:Oj n r=false:=hc
  rw[OT,Bool.not_false,Bool.true_and]
  have h20:r.cls.length≤20:=by
   have:=(Bool.or_eq_false_iff.1 hc).2
   simp at this
   omega
  repeat' (first|(apply eZ;simp only[az];rfl)|(apply bL;rfl;exact hc)|(apply cw;rfl)|(apply cm;rfl;exact bn;simp only[az];rfl)|(apply jl;rfl;rfl;omega;simp only[az];rfl)|(apply bk;rfl;simp only[az];rfl)|(apply bX;rfl;rfl;exact RQ _ _ _;rfl;simp only[az];rfl)|(apply gm;rfl)|refine aK ?_|exact aS rfl rfl|(intro hz;(try simp only[gQ] at hz)))
  refine dX (fun i=>[In i]) (fun i=>∀k,k<i→QZ r.cls k=true) r.cls.length rfl (fun _=>rfl) (fun k h=>absurd h (Nat.not_lt_zero _)) (fun i hi hJ R hR=>?_) (fun hJ R=>?_)
  ·have iS:decide ((i:Int)<(r.cls.length:Int))=true:=by simp;omega
   have hgi:r.cls[i]? = some r.cls[i]:=A0f hi
   cases i with
   | zero=>
    have OO:decide (((0:Nat):Int) > 0)=false:=rfl
    have hok:QZ r.cls 0=!z7 r.cls[0]:=by simp only[QZ,hgi,Bool.and_true]
    cases hb:(decide (r.cls[0].1<0)||decide (r.cls[0].1≥r.cls[0].2)||decide (r.cls[0].2 > 100000)||false)
    ·have FI:z7 r.cls[0]=false:=by simpa[z7] using hb
     repeat' (first|(apply eZ;simp only[az];rfl)|(apply BP;rfl;exact OO)|(apply bK;rfl;exact iS)|(apply bL;rfl;exact hb)|(apply cw;rfl)|(apply bG;rfl;rfl;exact bR hi rfl;simp only[az];rfl)|(apply cm;rfl;exact bn;simp only[az];rfl)|(apply eT;rfl;omega;simp only[az];rfl)|(apply bk;rfl;simp only[az];rfl)|(apply gm;rfl)|refine aK ?_|(apply aR;rfl;rfl)|refine aF ?_|refine kj rfl ?_|exact aS rfl rfl|(intro hz;(try simp only[gQ] at hz)))
     refine hR fun k hk=>?_
     rw[show k=0 by omega,hok,FI,Bool.not_false]
    ·have FI:z7 r.cls[0]=true:=by rw[Bool.or_false] at hb;exact hb
     repeat' (first|(apply eZ;simp only[az];rfl)|(apply BP;rfl;exact OO)|(apply bK;rfl;(·first|exact iS|exact hb))|(apply cw;rfl)|(apply bG;rfl;rfl;exact bR hi rfl;simp only[az];rfl)|(apply cm;rfl;exact bn;simp only[az];rfl)|(apply bk;rfl;simp only[az];rfl)|(apply gm;rfl)|refine aK ?_|exact aS rfl rfl|(apply aS;rfl;first|exact rfl|(refine oe ?_)|(refine oa ?_)|(refine oc ?_))|(intro hz;(try simp only[gQ] at hz)))
     rw[Pn,Ox hi (by rw[hok,FI,Bool.not_true])]
   | succ j=>
    have hj:j<r.cls.length:=by omega
    have hgj:r.cls[j]? = some r.cls[j]:=A0f hj
    have hok:QZ r.cls (j+1)=(!z7 r.cls[j+1]&&decide (r.cls[j].2<r.cls[j+1].1)):=by simp only[QZ,hgi,hgj]
    have hgt:decide (((j+1:Nat):Int) > 0)=true:=decide_eq_true (by omega)
    cases hb:(decide (r.cls[j+1].1<0)||decide (r.cls[j+1].1≥r.cls[j+1].2)||decide (r.cls[j+1].2 > 100000)||(decide (((j+1:Nat):Int) > 0)&&decide (r.cls[j+1].1≤r.cls[j].2)))
    ·rw[hgt,Bool.true_and] at hb
     obtain⟨lY,q9⟩:=Bool.or_eq_false_iff.1 hb
     have FI:z7 r.cls[j+1]=false:=lY
     rw[←Bool.true_and (decide (r.cls[j+1].1≤r.cls[j].2)),←hgt] at hb
     repeat' (first|(apply eZ;simp only[az];rfl)|(apply bK;rfl;exact iS)|(apply bL;rfl;exact hb)|(apply cw;rfl)|(apply bG;rfl;rfl;(·first|exact bR hi rfl|exact bR hj rfl);simp only[az];rfl)|(apply cm;rfl;exact bn;simp only[az];rfl)|(apply eT;rfl;omega;simp only[az];rfl)|(apply um;rfl;omega;simp only[az];rfl)|(apply bk;rfl;simp only[az];rfl)|(apply gm;rfl)|(apply jm;rfl)|refine aK ?_|(apply aR;rfl;rfl)|refine aF ?_|refine kj rfl ?_|exact aS rfl rfl|(intro hz;(try simp only[gQ] at hz)))
     refine hR fun k hk=>?_
     rcases Nat.lt_or_ge k (j+1) with h3 | h3
     ·exact hJ k h3
     ·rw[show k=j+1 by omega,hok,FI]
      simp at q9 ⊢
      exact q9
    ·repeat' (first|(apply eZ;simp only[az];rfl)|(apply bK;rfl;(·first|exact iS|exact hb))|(apply cw;rfl)|(apply bG;rfl;rfl;(·first|exact bR hi rfl|exact bR hj rfl);simp only[az];rfl)|(apply cm;rfl;exact bn;simp only[az];rfl)|(apply um;rfl;omega;simp only[az];rfl)|(apply bk;rfl;simp only[az];rfl)|(apply gm;rfl)|(apply jm;rfl)|refine aK ?_|exact aS rfl rfl|(apply aS;rfl;first|exact rfl|(refine oe ?_)|(refine oa ?_)|(refine oc ?_))|(intro hz;(try simp only[gQ] at hz)))
     rw[Pn,Ox hi]
     rw[hok]
     rw[hgt,Bool.true_and] at hb
     cases h1:z7 r.cls[j+1]
     ·have h1':(decide (r.cls[j+1].1<0)||decide (r.cls[j+1].1≥r.cls[j+1].2)||decide (r.cls[j+1].2 > 100000))=false:=h1
      rw[h1',Bool.false_or] at hb
      simp at hb ⊢
      exact hb
     ·rfl
  ·repeat' (first|(apply eZ;simp only[az];rfl)|(apply cm;rfl;exact bn;simp only[az];rfl)|(apply bk;rfl;simp only[az];rfl)|(apply aR;rfl;rfl)|refine aF ?_|(refine bJ (by decide) ?_)|refine kj rfl ?_|(apply iz;rfl;all_goals (intro hz;(try simp only[gQ] at hz);first|(exact absurd hz (by decide))|(exfalso;omega)|skip))|(apply aS;rfl;first|exact rfl|(refine oe ?_)|(refine oa ?_)|(refine oc ?_)))
   exact(QF hJ).symm
 ·have OT:Oj n r=true:=hc
  rw[OT]
  repeat' (first|(apply eZ;simp only[az];rfl)|(apply bK;rfl;exact hc)|(apply cw;rfl)|(apply cm;rfl;exact bn;simp only[az];rfl)|(apply jl;rfl;rfl;omega;simp only[az];rfl)|(apply bk;rfl;simp only[az];rfl)|(apply bX;rfl;rfl;exact RQ _ _ _;rfl;simp only[az];rfl)|(apply gm;rfl)|exact aS rfl rfl|(intro hz;(try simp only[gQ] at hz)))
end

section
open Go.Proofs Go.Am.Sc
set_option maxRecDepth 100000
set_option maxHeartbeats 4000000

variable {bs:List D}
attribute [local irreducible] gY Gh

def sV (n:Int)(rs:List Rd):Bool:=gY n 1 200&&decide ((rs.length:Int)≤1000)&&rs.all (Gh n)

theorem Ic {α:Type}{P:α→Bool}{l:List α}{i:Nat}(hi:i<l.length)(h:P l[i]=false):l.all P=false:=List.all_eq_false.2 ⟨_,List.getElem_mem hi,by simp[h]⟩
theorem Ia {α:Type}{P:α→Bool}{l:List α}(h:∀k (_:k<l.length) (h2:k<l.length),P l[k]=true):l.all P=true:=A0z.2 fun x hx=>by
 obtain⟨k,hk,rfl⟩:=List.mem_iff_getElem.1 hx
 exact h k hk hk
theorem Ib {α:Type}{P:α→Bool}{l:List α}{i:Nat}{hi:i<l.length}(hJ:∀k (h:k<i) (h2:k<l.length),P l[k]=true)(h:P l[i]=true):∀k (h:k<i+1) (h2:k<l.length),P l[k]=true:=by
 intro k hk h2
 rcases Nat.lt_or_ge k i with h3 | h3
 ·exact hJ k h3 h2
 ·have e:k=i:=by omega
  subst e
  exact h

theorem c12 {n:Int}{rs:List Rd}(hL:rs.length≤maxLen)(hc:∀r∈rs,r.cls.length≤maxLen):aU Tryz.prog 12 (.st bs) [Nt n rs] (B (sV n rs)):=by
 have hL':rs.length≤9223372036854775807:=hL
 refine adi.R rfl rfl ?_
 unfold u12
 simp only[aP,bg,A0q,A0r]
 cases hb:(!gY n 1 200||decide ((rs.length:Int) > 1000))
 ·obtain⟨hn,hl⟩:gY n 1 200=true∧¬(rs.length:Int) > 1000:=by simpa using hb
  have hn2:=gq.1 hn
  have e:sV n rs=rs.all (Gh n):=by
   rw[sV,hn,decide_eq_true (by omega)];rfl
  rw[e]
  repeat' (first|(apply eZ;simp only[az];rfl)|(apply bL;rfl;exact hb)|(apply cw;rfl)|(apply cm;rfl;exact bn;simp only[az];rfl)|(apply bk;rfl;simp only[az];rfl)|(apply bX;rfl;rfl;exact RQ _ _ _;rfl;simp only[az];rfl)|(apply gm;rfl)|refine aK ?_|exact aS rfl rfl|(intro hz;(try simp only[gQ] at hz)))
  refine dX (fun i=>[In i]) (fun i=>∀k (h:k<i) (h2:k<rs.length),(Gh n) rs[k]=true) rs.length rfl (fun _=>rfl) (fun k h=>absurd h (Nat.not_lt_zero _)) (fun i hi hJ R hR=>?_) (fun hJ R=>?_)
  ·have iS:decide ((i:Int)<(rs.length:Int))=true:=by simp;omega
   have h37:=c37 (bs:=bs) hn2 rs[i] (hc _ (List.getElem_mem hi))
   cases hk:Gh n rs[i]
   ·rw[hk] at h37
    repeat' (first|(apply eZ;simp only[az];rfl)|(apply bK;rfl;(·first|exact iS|exact rfl))|(apply bG;rfl;rfl;exact bR hi rfl;simp only[az];rfl)|(apply cm;rfl;exact bn;simp only[az];rfl)|(apply bk;rfl;simp only[az];rfl)|(apply bX;rfl;rfl;exact h37;rfl;simp only[az];rfl)|refine aK ?_|(apply aS;rfl;first|exact rfl|(refine oe ?_)|(refine oa ?_)|(refine oc ?_)))
    rw[Ic hi hk]
   ·rw[hk] at h37
    repeat' (first|(apply eZ;simp only[az];rfl)|(apply bK;rfl;exact iS)|(apply bL;rfl;exact rfl)|(apply bG;rfl;rfl;exact bR hi rfl;simp only[az];rfl)|(apply cm;rfl;exact bn;simp only[az];rfl)|(apply eT;rfl;omega;simp only[az];rfl)|(apply bk;rfl;simp only[az];rfl)|(apply bX;rfl;rfl;exact h37;rfl;simp only[az];rfl)|refine aK ?_|(apply aR;rfl;rfl)|refine aF ?_|refine kj rfl ?_)
    exact hR (Ib hJ hk)
  ·repeat' (first|(apply eZ;simp only[az];rfl)|(apply cm;rfl;exact bn;simp only[az];rfl)|(apply bk;rfl;simp only[az];rfl)|(apply aR;rfl;rfl)|refine aF ?_|(refine bJ (by decide) ?_)|refine kj rfl ?_|(apply iz;rfl;all_goals (intro hz;(try simp only[gQ] at hz);first|(exact absurd hz (by decide))|(exfalso;omega)|skip))|(apply aS;rfl;first|exact rfl|(refine oe ?_)|(refine oa ?_)|(refine oc ?_)))
   rw[Ia hJ]
 ·have e:sV n rs=false:=by
   unfold sV
   cases h1:gY n 1 200
   ·rfl
   ·rw[h1] at hb
    simp only[Bool.not_true,Bool.false_or,decide_eq_true_eq] at hb
    rw[decide_eq_false (by omega)];rfl
  rw[e]
  repeat' (first|(apply eZ;simp only[az];rfl)|(apply bK;rfl;exact hb)|(apply cw;rfl)|(apply cm;rfl;exact bn;simp only[az];rfl)|(apply bk;rfl;simp only[az];rfl)|(apply bX;rfl;rfl;exact RQ _ _ _;rfl;simp only[az];rfl)|(apply gm;rfl)|exact aS rfl rfl|(intro hz;(try simp only[gQ] at hz)))

def U6 (n:Int)(v:Vh):Bool:=!gY v.pos 0 (n-1)||!gY v.C_ 0 65535||decide (v.lo<0)||decide (v.lo > v.hi)||decide (v.hi > 100000)
def Jo (n:Int)(v:Vh):Bool:=!U6 n v

theorem c13 {n:Int}(hn:1≤n∧n≤200){vs:List Vh}(hL:vs.length≤maxLen):aU Tryz.prog 13 (.st bs) [I n,.a_ (vs.map Vh.d)] (B (vs.all (Jo n))):=by
 have hL':vs.length≤9223372036854775807:=hL
 refine adh.R rfl rfl ?_
 unfold u13
 simp only[aP,bg,A0q,A0r]
 repeat' ((with_reducible refine aK ?_))
 refine dX (fun i=>[In i]) (fun i=>∀k (h:k<i) (h2:k<vs.length),(Jo n) vs[k]=true) vs.length rfl (fun _=>rfl) (fun k h=>absurd h (Nat.not_lt_zero _)) (fun i hi hJ R hR=>?_) (fun hJ R=>?_)
 ·have iS:decide ((i:Int)<(vs.length:Int))=true:=by simp;omega
  cases hk:(!gY vs[i].pos 0 (n-1)||!gY vs[i].C_ 0 65535||decide (vs[i].lo<0)||decide (vs[i].lo > vs[i].hi)||decide (vs[i].hi > 100000))
  ·repeat' (first|(apply eZ;simp only[az];rfl)|(apply bK;rfl;exact iS)|(apply bL;rfl;exact hk)|(apply cw;rfl)|(apply bG;rfl;rfl;exact bR hi rfl;simp only[az];rfl)|(apply cm;rfl;exact bn;simp only[az];rfl)|(apply mR;rfl;rfl;omega;simp only[az];rfl)|(apply jl;rfl;rfl;omega;simp only[az];rfl)|(apply bk;rfl;simp only[az];rfl)|(apply bX;rfl;rfl;exact RQ _ _ _;rfl;simp only[az];rfl)|(apply gm;rfl)|refine aK ?_|(apply aR;rfl;rfl)|refine aF ?_|refine kj rfl ?_|exact aS rfl rfl|(intro hz;(try simp only[gQ] at hz)))
   exact hR (Ib hJ (by rw[Jo,show U6 n vs[i]=false from hk];rfl))
  ·repeat' (first|(apply eZ;simp only[az];rfl)|(apply bK;rfl;(·first|exact iS|exact hk))|(apply cw;rfl)|(apply bG;rfl;rfl;exact bR hi rfl;simp only[az];rfl)|(apply cm;rfl;exact bn;simp only[az];rfl)|(apply jl;rfl;rfl;omega;simp only[az];rfl)|(apply bk;rfl;simp only[az];rfl)|(apply bX;rfl;rfl;exact RQ _ _ _;rfl;simp only[az];rfl)|(apply gm;rfl)|refine aK ?_|exact aS rfl rfl|(apply aS;rfl;first|exact rfl|(refine oe ?_)|(refine oa ?_)|(refine oc ?_))|(intro hz;(try simp only[gQ] at hz)))
   rw[Ic hi (by rw[Jo,show U6 n vs[i]=true from hk];rfl)]
 ·repeat' (first|(apply eZ;simp only[az];rfl)|(apply cm;rfl;exact bn;simp only[az];rfl)|(apply bk;rfl;simp only[az];rfl)|(apply aR;rfl;rfl)|refine aF ?_|(refine bJ (by decide) ?_)|refine kj rfl ?_|(apply iz;rfl;all_goals (intro hz;(try simp only[gQ] at hz);first|(exact absurd hz (by decide))|(exfalso;omega)|skip))|(apply aS;rfl;first|exact rfl|(refine oe ?_)|(refine oa ?_)|(refine oc ?_)))
  rw[Ia hJ]

def U4 (n:Int)(z:Zn):Bool:=!gY z.pos 0 (n-1)||!gY z.kL 0 65535||!gY z.win 0 10000
def Jn (n:Int)(z:Zn):Bool:=!U4 n z

theorem c14 {n:Int}(hn:1≤n∧n≤200){zs:List Zn}(hL:zs.length≤100):aU Tryz.prog 14 (.st bs) [I n,.a_ (zs.map Zn.d)] (B (zs.all (Jn n))):=by
 refine adg.R rfl rfl ?_
 unfold u14
 simp only[aP,bg,A0q,A0r]
 repeat' ((with_reducible refine aK ?_))
 refine dX (fun i=>[In i]) (fun i=>∀k (h:k<i) (h2:k<zs.length),(Jn n) zs[k]=true) zs.length rfl (fun _=>rfl) (fun k h=>absurd h (Nat.not_lt_zero _)) (fun i hi hJ R hR=>?_) (fun hJ R=>?_)
 ·have iS:decide ((i:Int)<(zs.length:Int))=true:=by simp;omega
  cases hk:(!gY zs[i].pos 0 (n-1)||!gY zs[i].kL 0 65535||!gY zs[i].win 0 10000)
  ·repeat' (first|(apply eZ;simp only[az];rfl)|(apply bK;rfl;exact iS)|(apply bL;rfl;exact hk)|(apply cw;rfl)|(apply bG;rfl;rfl;exact bR hi rfl;simp only[az];rfl)|(apply cm;rfl;exact bn;simp only[az];rfl)|(apply eT;rfl;omega;simp only[az];rfl)|(apply jl;rfl;rfl;omega;simp only[az];rfl)|(apply bk;rfl;simp only[az];rfl)|(apply bX;rfl;rfl;exact RQ _ _ _;rfl;simp only[az];rfl)|(apply gm;rfl)|refine aK ?_|(apply aR;rfl;rfl)|refine aF ?_|refine kj rfl ?_|exact aS rfl rfl|(intro hz;(try simp only[gQ] at hz)))
   exact hR (Ib hJ (by rw[Jn,show U4 n zs[i]=false from hk];rfl))
  ·repeat' (first|(apply eZ;simp only[az];rfl)|(apply bK;rfl;(·first|exact iS|exact hk))|(apply cw;rfl)|(apply bG;rfl;rfl;exact bR hi rfl;simp only[az];rfl)|(apply cm;rfl;exact bn;simp only[az];rfl)|(apply jl;rfl;rfl;omega;simp only[az];rfl)|(apply bk;rfl;simp only[az];rfl)|(apply bX;rfl;rfl;exact RQ _ _ _;rfl;simp only[az];rfl)|(apply gm;rfl)|refine aK ?_|exact aS rfl rfl|(apply aS;rfl;first|exact rfl|(refine oe ?_)|(refine oa ?_)|(refine oc ?_))|(intro hz;(try simp only[gQ] at hz)))
   rw[Ic hi (by rw[Jn,show U4 n zs[i]=true from hk];rfl)]
 ·repeat' (first|(apply eZ;simp only[az];rfl)|(apply cm;rfl;exact bn;simp only[az];rfl)|(apply bk;rfl;simp only[az];rfl)|(apply aR;rfl;rfl)|refine aF ?_|(refine bJ (by decide) ?_)|refine kj rfl ?_|(apply iz;rfl;all_goals (intro hz;(try simp only[gQ] at hz);first|(exact absurd hz (by decide))|(exfalso;omega)|skip))|(apply aS;rfl;first|exact rfl|(refine oe ?_)|(refine oa ?_)|(refine oc ?_)))
  rw[Ia hJ,decide_eq_true (by omega)]

/-! ## the program's own question -/

structure kO (n:Nat)(rs:List Rd):Prop where
 RN:1≤n∧n≤200
 LS:∀r∈rs,r.ok n
 ne:∀r∈rs,r.src≠r.dst
 len:rs.length≤1000

theorem Ps {n:Nat}{rs:List Rd}(h:sV n rs=true):kO n rs:=by
 simp only[sV,A0g,decide_eq_true_eq,A0z] at h
 obtain⟨⟨h1,h2⟩,h3⟩:=h
 have:=gq.1 h1
 refine⟨by omega,fun r hr=>Ss (h3 r hr),fun r hr=>?_,by omega⟩
 have:=h3 r hr
 unfold Gh Oj at this
 intro e
 simp[e] at this

variable {n:Nat} {rs:List Rd}

def Mj (l:List (Int×Int)):Nat→Int
 | 0=>-1
 | j+1=>(l.getD j default).2

theorem c40 (h:kO n rs):aU Tryz.prog 40 (.st bs) [Nt n rs] (I 0):=by
 have hn:=h.RN
 have hL:=h.len
 have h0:(!gY (n:Int) 1 200||decide ((rs.length:Int) > 1000))=false:=by
  rw[gq.2 (by omega),decide_eq_false (by omega)];rfl
 refine ac6.R rfl rfl ?_
 unfold u40
 simp only[aP,bg,A0q,A0r]
 repeat' (first|(apply eZ;simp only[az];rfl)|(apply bL;rfl;exact h0)|(apply cw;rfl)|(apply cm;rfl;exact bn;simp only[az];rfl)|(apply bk;rfl;simp only[az];rfl)|(apply bX;rfl;rfl;exact Um _ _ _;rfl;simp only[az];rfl)|(apply gm;rfl)|refine aK ?_|exact aS rfl rfl|(intro hz;(try simp only[gQ] at hz)))
 refine dX (fun i=>[In i]) (fun _=>True) rs.length rfl (fun _=>rfl) trivial (fun i hi hJ R hR=>?_) (fun hJ R=>?_)
 ·have iS:decide ((i:Int)<(rs.length:Int))=true:=by simp;omega
  obtain⟨r,hr⟩:∃r,r=rs[i]:=⟨_,rfl⟩
  have AI:r∈rs:=hr ▸ List.getElem_mem hi
  have hk:=h.LS r AI
  have wm:D.av 4 (.a_ (rs.map Rd.d)) (In i)=some (.ptr [I r.src,I r.dst,I r.secs,.a_ (r.cls.map cD)]):=by rw[hr];exact bR hi rfl
  have h1:(!gY r.src 0 ((n:Int)-1)||!gY r.dst 0 ((n:Int)-1)||(r.src==r.dst)||!gY r.secs 1 10000||decide ((r.cls.length:Int) > 20))=false:=by
   have:=hk.src;have:=hk.dst;have:=hk.secs;have:=hk.len
   rw[gq.2 (by omega),gq.2 (by omega),gq.2 (by omega),decide_eq_false (by omega),beq_eq_false_iff_ne.2 (h.ne r AI)];rfl
  have h20:=hk.len
  repeat' (first|(apply eZ;simp only[az];rfl)|(apply bK;rfl;exact iS)|(apply bL;rfl;exact h1)|(apply cw;rfl)|(apply bG;rfl;rfl;exact wm;simp only[az];rfl)|(apply cm;rfl;exact bn;simp only[az];rfl)|(apply jl;rfl;rfl;omega;simp only[az];rfl)|(apply bk;rfl;simp only[az];rfl)|(apply bX;rfl;rfl;exact Um _ _ _;rfl;simp only[az];rfl)|(apply gm;rfl)|refine aK ?_|exact aS rfl rfl|(intro hz;(try simp only[gQ] at hz)))
  refine dX (fun j=>[I (Mj r.cls j),In j]) (fun _=>True) r.cls.length rfl (fun _=>rfl) trivial (fun j hj _ R2 vM=>?_) (fun _ R2=>?_)
  ·have hlj:decide ((j:Int)<(r.cls.length:Int))=true:=by simp;omega
   have hcb:=hk.ord.2 _ (List.getElem_mem hj)
   have tu:Mj r.cls j<r.cls[j].1:=by
    cases j with
    | zero=>show(-1:Int)<_;omega
    | succ k=>
     have:=List.pairwise_iff_getElem.1 hk.ord.1 k (k+1) (by omega) hj (by omega)
     simp only[Mj,A0i,A0f (show k<r.cls.length by omega),B0m]
     exact this
   generalize Mj r.cls j=last at tu ⊢
   have h2:(decide (r.cls[j].1≤last)||decide (r.cls[j].1<0)||decide (r.cls[j].1≥r.cls[j].2)||decide (r.cls[j].2 > 100000))=false:=by
    rw[decide_eq_false (by omega),decide_eq_false (by omega),decide_eq_false (by omega),decide_eq_false (by omega)];rfl
   have hgd:(r.cls.getD j default).2=r.cls[j].2:=by simp[A0i,A0f hj]
   have ad8:Mj r.cls (j+1)=r.cls[j].2:=hgd
   simp only[ad8] at vM
   repeat' (first|(apply eZ;simp only[az];rfl)|(apply bK;rfl;exact hlj)|(apply bL;rfl;exact h2)|(apply cw;rfl)|(apply bG;rfl;rfl;exact bR hj rfl;simp only[az];rfl)|(apply eT;rfl;omega;simp only[az];rfl)|(apply bk;rfl;simp only[az];rfl)|(apply gm;rfl)|refine aK ?_|(apply aR;rfl;rfl)|refine aF ?_|refine kj rfl ?_|exact aS rfl rfl|(intro hz;(try simp only[gQ] at hz)))
   exact vM trivial
  ·repeat' (first|(apply eZ;simp only[az];rfl)|(apply eT;rfl;omega;simp only[az];rfl)|(apply bk;rfl;simp only[az];rfl)|(apply aR;rfl;rfl)|refine aF ?_|(refine bJ (by decide) ?_)|refine kj rfl ?_|(apply iz;rfl;all_goals (intro hz;(try simp only[gQ] at hz);first|(exact absurd hz (by decide))|(exfalso;omega)|skip)))
   exact hR trivial
 ·repeat' (first|(apply eZ;simp only[az];rfl)|(apply bk;rfl;simp only[az];rfl)|(apply aR;rfl;rfl)|refine aF ?_|(refine bJ (by decide) ?_)|refine kj rfl ?_|(apply iz;rfl;all_goals (intro hz;(try simp only[gQ] at hz);first|(exact absurd hz (by decide))|(exfalso;omega)|skip))|exact aS rfl rfl)


theorem afq {f:Nat}{us cs:List D}{l:List Vh}(hL:l.length≤1000000)(hc:bu Tryz.prog f=true)(hf:∀x,x∈l→aU Tryz.prog f (.st bs) (us++[Vh.d x]++cs) (B false)):aU Tryz.prog 137 (.st bs) [.a_ (l.map Vh.d),.fn f us cs] (I (-1)):=by
 refine Xr.R rfl rfl ?_
 unfold Vx
 simp only[aP,bg,A0q,A0r]
 repeat' (first|(apply cm;rfl;exact bn;simp only[az];rfl)|refine aK ?_)
 refine dX (fun i=>[In i]) (fun _=>True) l.length rfl (fun _=>rfl) trivial (fun i hi hJ R hR=>?_) (fun hJ R=>?_)
 ·have iB:=hf l[i] (List.getElem_mem hi)
  have iS:decide ((i:Int)<(l.length:Int))=true:=by simp;omega
  repeat' (first|(apply eZ;simp only[az];rfl)|(apply bK;rfl;exact iS)|(apply bL;rfl;exact rfl)|(apply bG;rfl;rfl;exact bR hi rfl;simp only[az];rfl)|(apply eT;rfl;omega;simp only[az];rfl)|(apply bk;rfl;simp only[az];rfl)|(apply BO;rfl;exact hc;rfl;rfl;exact iB;rfl;simp only[az];rfl)|refine aK ?_|(apply aR;rfl;rfl)|refine aF ?_|refine kj rfl ?_)
  exact hR trivial
 ·repeat' (first|(apply eZ;simp only[az];rfl)|(apply bk;rfl;simp only[az];rfl)|(apply aR;rfl;rfl)|refine aF ?_|(refine bJ (by decide) ?_)|refine kj rfl ?_|(apply iz;rfl;all_goals (intro hz;(try simp only[gQ] at hz);first|(exact absurd hz (by decide))|(exfalso;omega)|skip))|exact aS rfl rfl)

theorem c75 {f:Nat}{us cs:List D}{l:List Vh}(hL:l.length≤1000000)(hc:bu Tryz.prog f=true)(hf:∀x,x∈l→aU Tryz.prog f (.st bs) (us++[Vh.d x]++cs) (B false)):aU Tryz.prog 75 (.st bs) [.a_ (l.map Vh.d),.fn f us cs] (B false):=by
 refine ac0.R rfl rfl ?_
 unfold u75
 simp only[aP,bg,A0q,A0r]
 repeat' (first|(apply bk;rfl;simp only[az];rfl)|(apply bX;rfl;rfl;exact afq hL hc hf;rfl;simp only[az];rfl)|exact aS rfl rfl)

theorem afp {f:Nat}{us cs:List D}{l:List Zn}(hL:l.length≤1000000)(hc:bu Tryz.prog f=true)(hf:∀x,x∈l→aU Tryz.prog f (.st bs) (us++[Zn.d x]++cs) (B false)):aU Tryz.prog 138 (.st bs) [.a_ (l.map Zn.d),.fn f us cs] (I (-1)):=by
 refine Xq.R rfl rfl ?_
 unfold Vw
 simp only[aP,bg,A0q,A0r]
 repeat' (first|(apply cm;rfl;exact bn;simp only[az];rfl)|refine aK ?_)
 refine dX (fun i=>[In i]) (fun _=>True) l.length rfl (fun _=>rfl) trivial (fun i hi hJ R hR=>?_) (fun hJ R=>?_)
 ·have iB:=hf l[i] (List.getElem_mem hi)
  have iS:decide ((i:Int)<(l.length:Int))=true:=by simp;omega
  repeat' (first|(apply eZ;simp only[az];rfl)|(apply bK;rfl;exact iS)|(apply bL;rfl;exact rfl)|(apply bG;rfl;rfl;exact bR hi rfl;simp only[az];rfl)|(apply eT;rfl;omega;simp only[az];rfl)|(apply bk;rfl;simp only[az];rfl)|(apply BO;rfl;exact hc;rfl;rfl;exact iB;rfl;simp only[az];rfl)|refine aK ?_|(apply aR;rfl;rfl)|refine aF ?_|refine kj rfl ?_)
  exact hR trivial
 ·repeat' (first|(apply eZ;simp only[az];rfl)|(apply bk;rfl;simp only[az];rfl)|(apply aR;rfl;rfl)|refine aF ?_|(refine bJ (by decide) ?_)|refine kj rfl ?_|(apply iz;rfl;all_goals (intro hz;(try simp only[gQ] at hz);first|(exact absurd hz (by decide))|(exfalso;omega)|skip))|exact aS rfl rfl)

theorem c78 {f:Nat}{us cs:List D}{l:List Zn}(hL:l.length≤1000000)(hc:bu Tryz.prog f=true)(hf:∀x,x∈l→aU Tryz.prog f (.st bs) (us++[Zn.d x]++cs) (B false)):aU Tryz.prog 78 (.st bs) [.a_ (l.map Zn.d),.fn f us cs] (B false):=by
 refine acX.R rfl rfl ?_
 unfold u78
 simp only[aP,bg,A0q,A0r]
 repeat' (first|(apply bk;rfl;simp only[az];rfl)|(apply bX;rfl;rfl;exact afp hL hc hf;rfl;simp only[az];rfl)|exact aS rfl rfl)

abbrev RR (n:Nat)(rs:List Rd):D:=.ptr [I n,.a_ (rs.map Rd.d)]

theorem c76 (hn:1≤n∧n≤200){v:Vh}(h:Jo n v=true):aU Tryz.prog 76 (.st bs) [v.d,RR n rs] (B false):=by
 simp only[Jo,U6,Bool.not_eq_true',Bool.or_eq_false_iff,Bool.not_eq_false',decide_eq_false_iff_not] at h
 obtain⟨⟨⟨⟨h1,h2⟩,h3⟩,h4⟩,h5⟩:=h
 refine acZ.R rfl rfl ?_
 unfold u76
 simp only[aP,bg,A0q,A0r]
 repeat' (first|(apply eZ;simp only[az];rfl)|(apply cw;rfl)|(apply jl;rfl;rfl;omega;simp only[az];rfl)|(apply bk;rfl;simp only[az];rfl)|(apply bX;rfl;rfl;(·first|exact Um _ _ _|exact c77 _);rfl;simp only[az];rfl)|(apply gm;rfl)|exact aS rfl rfl|(apply aS;rfl;first|exact rfl|(refine oe ?_)|(refine oa ?_)|(refine oc ?_))|(intro hz;(try simp only[gQ] at hz)))
 rw[h1,h2,gq.2 (by omega),decide_eq_false h5]
 rfl

theorem c79 (hn:1≤n∧n≤200){z:Zn}(h:Jn n z=true):aU Tryz.prog 79 (.st bs) [z.d,RR n rs] (B false):=by
 simp only[Jn,U4,Bool.not_eq_true',Bool.or_eq_false_iff,Bool.not_eq_false'] at h
 obtain⟨⟨h1,h2⟩,h3⟩:=h
 refine acW.R rfl rfl ?_
 unfold u79
 simp only[aP,bg,A0q,A0r]
 repeat' (first|(apply eZ;simp only[az];rfl)|(apply cw;rfl)|(apply jl;rfl;rfl;omega;simp only[az];rfl)|(apply bk;rfl;simp only[az];rfl)|(apply bX;rfl;rfl;(·first|exact Um _ _ _|exact c77 _);rfl;simp only[az];rfl)|(apply gm;rfl)|exact aS rfl rfl|(apply aS;rfl;first|exact rfl|(refine oe ?_)|(refine oa ?_)|(refine oc ?_))|(intro hz;(try simp only[gQ] at hz)))
 rw[h1,h2,h3]
 rfl

theorem c38 (h:kO n rs){vs:List Vh}{zs:List Zn}{hz:Int}(hv:vs.length≤60)(hzl:zs.length≤100)(h1:∀v∈vs,Jo n v=true)(h2:∀z∈zs,Jn n z=true)(hh:0≤hz∧hz≤100000):aU Tryz.prog 38 (.st bs) [Nt n rs,.a_ (vs.map Vh.d),I 60,.a_ (zs.map Zn.d),I hz] (B true):=by
 have h0:((!((0:Int)==0))||decide ((vs.length:Int) > 60)||decide ((zs.length:Int) > 100)||!gY hz 0 100000)=false:=by
  rw[gq.2 hh,decide_eq_false (by omega),decide_eq_false (by omega)];rfl
 have h75:=c75 (bs:=bs) (f:=76) (us:=[]) (cs:=[RR n rs]) (l:=vs) (by omega) (by kernel_rfl) fun v hv=>c76 h.RN (h1 v hv)
 have h78:=c78 (bs:=bs) (f:=79) (us:=[]) (cs:=[RR n rs]) (l:=zs) (by omega) (by kernel_rfl) fun z hz=>c79 h.RN (h2 z hz)
 refine ac9.R rfl rfl ?_
 unfold u38
 simp only[aP,bg,A0q,A0r]
 repeat' (first|(apply eZ;simp only[az];rfl)|(apply bL;rfl;(·first|exact h0|exact rfl))|(apply cm;rfl;exact bn;simp only[az];rfl)|(apply bk;rfl;simp only[az];rfl)|(apply bX;rfl;rfl;(·first|exact c40 h|exact Um _ _ _|exact h75|exact h78);rfl;simp only[az];rfl)|(apply gm;rfl)|exact aS rfl rfl|(intro hz;(try simp only[gQ] at hz)))
end

section
open Go.Proofs

noncomputable def u39:U:=aX [.dU (.br 2 y0),.ev (.fK 64 1 y4 (.const (.agg [.cO]))),.ev (.bD y2),.join 0 1 (.loop 1 [ki 0,y5] (aX [.ev (X' .lss y7 y6)] (.ite y9 (aX [.join 2 1 (aX [.ev (.av 3 y2 y7),.ev (.ld true 3 y8 y10),.ev (.fK 3 1 y8 (.const (.agg [.v (.int .i64 0)]))),.ev (.eY 1 y12 (.aC y8) y7),.dU (.br 3 y11),.ev (.fK 4 1 y13 (.const (.agg [.v (.bool false)]))),.ev (.eY 1 y14 (.aC y13) (kb false)),.call 80 y15 [pz 2 y0,y1,pz 3 y11,y3] [true],.join 3 1 (aX [.lZ y16 y15 [0,1,2,3,9,10,12,14,15,16,17,18,19,20,22,24,25] [y0,y1,y2,y3,.aC y4,.aC y8,.aC y13,y2,y6,y7,y9,y7,y10,y11,y1,y3,y16] 1 4 (aX [.ev (.fK 193 3 y17 (.const (.agg [.v (.int .i64 0),.v (.int .i64 0),.v (.bool false)]))),.ev (.eY 3 y19 (.aC y17) y18),.join 5 1 (aX [.join 6 4 (aX [.ev (p' 2 (.aC y17)),.ev (l' y20 y21),.join 7 1 (.ite y22 (aX [.ev (.eY 1 y20 (.aC y13) (kb false))] (.jump 7 [y23] [])) (aX [.ev (l' y20 (.aC y13)),.join 8 1 (.ite y23 (aX [.ev (l' y20 (.aC y4)),.ev (l' y20 (.aC y4)),.ev (.bD y25),.ev (M' y26 (ki 1)),.ev (p' 1 (.aC y17)),.ev (l' y20 y28),.ev (.av 3 y24 y27),.dU (p' 2 y30),.ev (.eY 1 y20 (p' 2 y30) y29)] (.jump 8 [y31] [])) (aX [.ev (l' y20 (.aC y4)),.ev (l' y20 (.aC y8)),.ev (p' 0 (.aC y17)),.ev (l' y20 y26),.ev (p' 1 (.aC y17)),.ev (l' y20 y28),.ev (j' (z' y25) (j' (z' y27) (j' (z' y29) .nil))),.ev (.bP (.br 3 y30) (.const (.a_ []))),.ev (.fC 68 3 24 y20 y24 y31),.ev (.eY 1 y32 (.aC y4) (.apps y20 y24 y31)),.ev (.eY 1 y33 (.aC y13) (kb true))] (.jump 8 [y34] [])))] (.jump 7 [y24] [])))] (.jump 6 [y22,y21,y22,y23] []))] (.jump 5 [y24] []))] (.jump 4 [y21] []))] (.jump 3 [y17] []))] (.jump 2 [y17] [.aC y13,pz 3 y11,q' 0 y11,q' 1 y11,q' 2 y11])),.ev (P' y7 (ki 1))] (.jump 1 [y11,y10] [])) (.jump 0 [y8] [])))),.ev (l' y7 (.aC y4))] (.ret (C' y8 y7))
theorem ac8:dW Tryz.prog 39 .plain (E' Tryz.f39 false [] [] []) [false,true,true,true] u39:=U' Tryz.func39

noncomputable def u42:U:=aX [.ev (.dL (.br 2 y0)),.dU (p' 0 y4),.ev (l' y3 (p' 0 y4)),.ev (j' (z' y1) (j' (z' y2) .nil)),.ev (.dO 82 .ai (.ah y4 .ai)),.bA 81 y3 [y5,y6,y7] [true],.ev (.bD y8),.join 0 1 (.loop 1 [ki 0,y9] (aX [.ev (X' .lss y11 y10)] (.ite y13 (aX [.join 2 1 (aX [.ev (.av 1 y8 y11),.ev (l' y12 y14),.ev (Q' y15 (ki 9223372036854775807)),.join 3 1 (.ite y16 (aX [.ev (.av 1 y8 y11),.ev (.eY 1 y12 y17 (ki (-1)))] (.jump 3 [y18] [])) (.jump 3 [y12] []))] (.jump 2 [y17] [])),.ev (P' y11 (ki 1))] (.jump 1 [y15,y14] [])) (.jump 0 [y12] []))))] (.ret (C' y8 y11))
theorem ac4:dW Tryz.prog 42 .plain (E' Tryz.f42 false [81] [] []) [false,true,true] u42:=U' Tryz.func42

noncomputable def u80:U:=aX [.ev (.dL (.br 2 y0)),.ev (.dL (j' (z' y1) .nil)),.ev (.dL (.br 3 y2)),.ev (.dL (j' (z' y3) .nil)),.ev (.dO 139 .ai (.ah y8 (D' y5 y7 y6)))] (.ret (C' y9 y4))
theorem acV:dW Tryz.prog 80 .plain (E' Tryz.f80 true [] [] []) [false,true,false,true] u80:=U' Tryz.func80

noncomputable def u81:U:=aX [.dU (.br 2 y1),.ev (.dR 3 1 y3 (.rep 8 y0 (.v (.int .i64 0)))),.ev (.fK 22 1 y4 (.const (.agg [.cO]))),.ev (.eY 1 y5 (.aC y4) (.cY y3 (.rep 8 y0 (.v (.int .i64 0))))),.ev (l' y6 (.aC y4)),.ev (.bD y7),.join 0 3 (.loop 1 [ki 0,y6] (aX [.ev (X' .lss y9 y8)] (.ite y11 (aX [.join 2 1 (aX [.ev (l' y10 (.aC y4)),.ev (.av 1 y12 y9),.ev (.eY 1 y10 y13 (ki 9223372036854775807))] (.jump 2 [y14] [])),.ev (P' y9 (ki 1))] (.jump 1 [y13,y12] [])) (.jump 0 [y9,y11,y10] [])))),.ev (l' y11 (.aC y4)),.ev (.av 1 y12 (q' 0 y1)),.ev (.eY 1 y11 y13 (q' 1 y1)),.ev (.dR 196 2 y14 (.bP (.br 2 (pz 2 y1)) (.const (.a_ [])))),.ev (.fK 250 1 y15 (j' (z' (.cY y14 (.bP (.br 2 (pz 2 y1)) (.const (.a_ []))))) .nil)),.ev (.fK 252 1 y16 (.const (.agg [.v .nilIface]))),.ev (.eY 1 y17 (.aC y16) (.fq 248 (.aC y15))),.join 0 1 (.loop 1 [y18] (aX [.ev (l' y19 (.aC y16)),.call 299 y19 [l' y19 (m' (.ed 248) y20)] [true],.ev (X' .gtr y21 (ki 0))] (.ite y22 (aX [.join 2 1 (aX [.ev (l' y19 (.aC y16)),.bA 303 y19 [m' (.ed 248) y23] [false],.dU (.br 2 y24),.ev (l' y25 (.aC y4)),.ev (.av 1 y26 (q' 0 y24)),.ev (l' y25 y27),.ev (X' .gtr (q' 1 y24) y28)] (.ite y29 (.jump 2 [y25] [y24,q' 1 y24,q' 0 y24,q' 0 y24,q' 1 y24]) (aX [.ey y2 y25 [q' 0 y24,q' 1 y24] [true],.join 3 1 (aX [.lZ y30 y25 [0,1,2,7,9,12,13,14,15,16,17,23,25,27,28,30,31,32,33,34,35,36,37,39,40,42,43,44,45,46,48,50,51] [y0,y1,y2,.aC y4,.aC y16,y0,.cY y3 (.rep 8 y0 (.v (.int .i64 0))),y7,y8,y9,y10,y12,q' 0 y1,q' 1 y1,y13,.cY y14 (.bP (.br 2 (pz 2 y1)) (.const (.a_ []))),.aC y15,.fq 248 (.aC y15),y20,y21,y22,y23,y24,q' 1 y24,y26,q' 0 y24,y27,y28,y29,y2,q' 0 y24,q' 1 y24,y30] 1 4 (aX [.ev (.fK 196 2 y31 (.const (.agg [.v (.int .i64 0),.v (.int .i64 0)]))),.ev (.eY 2 y33 (.aC y31) y32),.join 5 1 (aX [.ev (p' 1 (.aC y31)),.ev (l' y34 y35),.ev (l' y34 (.aC y4)),.ev (p' 0 (.aC y31)),.ev (l' y34 y38),.ev (.av 1 y37 y39),.ev (l' y34 y40),.ev (X' .lss y36 y41),.join 6 1 (.ite y42 (aX [.ev (l' y34 (.aC y4)),.ev (p' 0 (.aC y31)),.ev (l' y34 y44),.ev (p' 1 (.aC y31)),.ev (l' y34 y46),.ev (.av 1 y43 y45),.ev (.eY 1 y34 y48 y47),.ev (l' y49 (.aC y16)),.ev (.ld true 2 y49 (.aC y31)),.bA 141 y49 [y50,.fq 196 y51] []] (.jump 6 [y53] [])) (.jump 6 [y34] []))] (.jump 5 [y43] []))] (.jump 4 [y35] []))] (.jump 3 [y31] []))] (.jump 2 [y31] [y24,q' 1 y24,q' 0 y24,q' 0 y24,q' 1 y24]))))] (.jump 1 [y23] [])) (.jump 0 [y19] [])))),.ev (l' y19 (.aC y4))] (.ret (C' y20 y19))
theorem acU:dW Tryz.prog 81 .plain { (aj false ([141,304,185,305,301,311,302,303]++cI) cJ [13,30,31] [] Tryz.f81) with aN:=true,cE:=true,yU:=[(34,248),(37,248)] } [true,false,true] u81:=dW.plain Tryz.func81 (by kernel_rfl) (by kernel_rfl)

noncomputable def u82:U:=aX [.ev (.dL (j' (z' y0) .nil)),.ev (.dL (j' (z' y1) .nil)),.ev (.dO 83 .ai (D' y2 y4 y5))] (.ret (C' y6 y3))
theorem acT:dW Tryz.prog 82 .plain (E' Tryz.f82 true [] [] []) [true,true,true] u82:=U' Tryz.func82

noncomputable def u83:U:=aX [.dU (p' 1 y1),.ev (l' y4 (p' 1 y1)),.ev (.bD y5),.join 0 1 (.loop 1 [ki 0,y4] (aX [.ev (X' .lss y7 y6)] (.ite y9 (aX [.join 2 1 (aX [.ev (.av 4 y5 y7),.ev (.ld true 4 y8 y10),.dU (.br 4 y11),.ev (l' y8 y2),.ev (Q' (q' 0 y11) y12),.ev (G' y13 (q' 1 y11)),.ev (G' y13 (l' y8 y3)),.gen (.call [(y13,true)] 84 y8 [pz 4 y11,y15] [true]),.ev (G' y13 (q' 2 y11)),.ev (G' y13 (P' y16 y17)),.ev (G' y13 (j' (z' y14) (j' (z' y18) .nil))),.gen (.dA [(y13,true)] y0 y8 [y19] [true]),.chain false y13 (aX [.ev (N' (s' y20))] (.ret y21))] (.ite y21 (.ret (C' .ai (t' y20))) (.jump 2 [t' y20] [q' 0 y11,q' 0 y11,q' 1 y11,q' 2 y11,q' 3 y11]))),.ev (P' y7 (ki 1))] (.jump 1 [y11,y10] [])) (.jump 0 [y8] []))))] (.ret (C' .ai y7))
theorem acS:dW Tryz.prog 83 .plain (E' Tryz.f83 false [1000029] [] []) [true,true,true,true] u83:=U' Tryz.func83

noncomputable def Vv:U:=aX [.join 0 1 (.loop 1 [ki 0,y5] (aX [.ev (l' y7 y1),.ev (X' .lss y6 y8)] (.ite y9 (aX [.join 2 2 (aX [.ev (.ld true 2 y7 y2),.dU (p' 0 y3),.ev (l' y7 (p' 0 y3)),.dU (p' 2 y3),.ev (l' y7 (p' 2 y3)),.ev (P' y6 y12),.call 140 y7 [y10,y11,y13] [true],.ev (j' (z' y6) (j' (z' y6) (j' (.const (.agg [.v (.bool false)])) .nil))),.dU (.br 3 y15),.ev (l' y7 y1),.ev (l' y7 y4),.ev (.bD y17),.join 3 5 (.loop 4 [y16,ki 0,q' 1 y15,q' 2 y15] (aX [.ev (X' .lss y20 y18)] (.ite y23 (aX [.join 5 3 (aX [.ev (.av 4 y17 y20),.ev (.ld true 4 y7 y24),.dU (.br 4 y25),.join 6 12 (aX [.dU (p' 1 y3),.ev (l' y7 (p' 1 y3)),.ev (X' .and (q' 1 y25) y26),.dU (p' 1 y3),.ev (l' y7 (p' 1 y3)),.ev (X' .neq y27 y28),.chain true y29 (aX [.dU (q' 3 y25),.ev (X' .geq y6 (q' 3 y25))] (.ret y30)),.join 7 3 (.ite y30 (.jump 7 [y19,y21,y22] []) (aX [.ev (X' .lss y6 (q' 2 y25)),.join 8 3 (.ite y31 (aX [.ev (.mm false y19 (q' 2 y25))] (.jump 8 [y32,y21,y22] [])) (aX [.ev (.av 1 y14 (q' 0 y25)),.ev (l' y7 y32),.ev (X' .geq y33 y6),.join 9 3 (.ite y34 (aX [.ev (.av 1 y14 (q' 0 y25)),.ev (l' y7 y35),.ev (P' y36 (ki 1)),.ev (.mm false y37 (q' 3 y25)),.ev (.mm true y21 y38)] (.jump 9 [y19,y39,kb true] [])) (aX [.ev (.ld true 2 y7 y2),.call 42 y7 [y35,q' 0 y25,y6] [true],.dU (p' 0 y3),.ev (l' y7 (p' 0 y3)),.ev (.av 1 y36 y37),.ev (l' y7 y38),.ev (X' .geq y39 (ki 0)),.join 10 1 (.ite y40 (aX [.ev (P' y6 (ki 1)),.dU (p' 2 y3),.ev (l' y7 (p' 2 y3)),.ev (M' y39 y42),.ev (.mm true y41 y43),.ev (.mm false y19 y44)] (.jump 10 [y45] [])) (.jump 10 [y19] []))] (.jump 9 [y41,y21,y22] [])))] (.jump 8 [y35,y36,y37] [])))] (.jump 7 [y32,y33,y34] [])))] (.jump 6 [y31,y30,p' 1 y3,y26,y27,p' 1 y3,y28,y29,y29,y30,y32,y33] []))] (.jump 5 [y26,y36,y37] [q' 1 y25,q' 0 y25,q' 1 y25,q' 2 y25,q' 3 y25])),.ev (P' y20 (ki 1))] (.jump 4 [y24,y27,y25,y26] [])) (.jump 3 [y19,y20,y23,y21,y22] [])))),.ev (N' y23),.join 3 1 (.ite y24 (aX [.ev (P' y6 (ki 1)),.ev (.mm true y25 y19)] (.jump 3 [y26] [])) (.jump 3 [y22] [])),.ev (l' y7 y1),.ev (.mm false y25 y26),.gen (.dA [] y0 y7 [j' (q' 0 y15) (j' y27 (j' y23 .nil))] [true]),.ev (N' (s' y28))] (.ite y29 (.ret (C' .ai (t' y28))) (.jump 2 [y27,t' y28] [j' (q' 0 y15) (j' y27 (j' y23 .nil)),s' y28,q' 0 y15])))] (.jump 1 [y10,y11] [])) (.jump 0 [y7] []))))] (.ret (C' .ai y6))
theorem Xp:dW Tryz.prog 139 .plain (E' Tryz.f139 false [1000116] [] []) [true,true,true,true,true] Vv:=U' Tryz.func139

noncomputable def Vu:U:=aX [.ev (.dL (.br 2 y0)),.dU (p' 0 y4),.ev (l' y3 (p' 0 y4)),.ev (.un .neg y2),.ev (j' (z' y1) (j' (z' y6) .nil)),.ev (.dO 182 .ai (.ah y4 .ai)),.bA 81 y3 [y5,y7,y8] [true],.ev (.bD y9),.join 0 1 (.loop 1 [ki 0,y10] (aX [.ev (X' .lss y12 y11)] (.ite y14 (aX [.join 2 1 (aX [.ev (.av 1 y9 y12),.ev (l' y13 y15),.ev (.un .neg y16),.ev (.av 1 y9 y12),.ev (.eY 1 y13 y18 y17)] (.jump 2 [y19] [])),.ev (P' y12 (ki 1))] (.jump 1 [y16,y15] [])) (.jump 0 [y13] []))))] (.ret (C' y9 y12))
theorem Xo:dW Tryz.prog 140 .plain (E' Tryz.f140 false [81] [] []) [false,true,true] Vu:=U' Tryz.func140

noncomputable def Vt:U:=aX [.bA 301 y2 [m' (.ed 248) y0,y1] [],.call 299 y4 [l' y4 (m' (.ed 248) y0)] [true],.ev (M' y5 (ki 1)),.bA 185 y4 [y0,y6] []] (.ret (C' .ai y8))
theorem Xn:dW Tryz.prog 141 .plain { (aj false ([141,304,185,305,301,311,302,303]++cI) cJ [] [] Tryz.f141) with aN:=true,cE:=true,yU:=[(6,248),(9,248)] } [true,true] Vt:=dW.plain Tryz.func141 (by kernel_rfl) (by kernel_rfl)

noncomputable def Vq:U:=aX [.ev (.dL (j' (z' y0) .nil)),.ev (.dL (j' (z' y1) .nil)),.ev (.dO 183 .ai (D' y2 y4 y5))] (.ret (C' y6 y3))
theorem Xk:dW Tryz.prog 182 .plain (E' Tryz.f182 true [] [] []) [true,true,true] Vq:=U' Tryz.func182

noncomputable def Vp:U:=aX [.dU (p' 1 y1),.ev (l' y4 (p' 1 y1)),.ev (.bD y5),.join 0 1 (.loop 1 [ki 0,y4] (aX [.ev (X' .lss y7 y6)] (.ite y9 (aX [.join 2 1 (aX [.ev (.av 4 y5 y7),.ev (.ld true 4 y8 y10),.dU (.br 4 y11),.ev (l' y8 y2),.ev (Q' (q' 1 y11) y12),.ev (G' y13 (q' 0 y11)),.ev (G' y13 (l' y8 y3)),.ev (G' y13 (.un .neg y15)),.ev (G' y13 (q' 2 y11)),.ev (G' y13 (M' y16 y17)),.gen (.call [(y13,true)] 184 y8 [pz 4 y11,y18] [true]),.ev (G' y13 (.un .neg y19)),.ev (G' y13 (j' (z' y14) (j' (z' y20) .nil))),.gen (.dA [(y13,true)] y0 y8 [y21] [true]),.chain false y13 (aX [.ev (N' (s' y22))] (.ret y23))] (.ite y23 (.ret (C' .ai (t' y22))) (.jump 2 [t' y22] [q' 1 y11,q' 0 y11,q' 1 y11,q' 2 y11,q' 3 y11]))),.ev (P' y7 (ki 1))] (.jump 1 [y11,y10] [])) (.jump 0 [y8] []))))] (.ret (C' .ai y7))
theorem Xj:dW Tryz.prog 183 .plain (E' Tryz.f183 false [1000031] [] []) [true,true,true,true] Vp:=U' Tryz.func183

noncomputable def Vn:U:=aX [.join 0 1 (.loop 1 [y1,y2] (aX [.join 2 2 (aX [.ev (M' y3 (ki 1)),.ev (X' .quo y5 (ki 2)),.ev (Q' y6 y3),.chain true y7 (aX [.call 300 y4 [l' y4 (m' (.ed 248) y0),y3,y6] [true],.ev (N' y8)] (.ret y9))] (.ite y8 (.jump 0 [y4] []) (aX [.bA 302 y4 [l' y4 (m' (.ed 248) y0),y6,y3] []] (.jump 2 [y6,y10] []))))] (.jump 1 [y5,y6] [])))] (.ret (C' .ai y3))
theorem Xh:dW Tryz.prog 185 .plain { (aj false ([141,304,185,305,301,311,302,303]++cI) cJ [] [] Tryz.f185) with aN:=true,cE:=true,yU:=[(15,248),(21,248)] } [true,true] Vn:=dW.plain Tryz.func185 (by kernel_rfl) (by kernel_rfl)

noncomputable def Vj:U:=aX [.ev (.bD y0)] (.ret (C' y2 y1))
theorem Xd:dW Tryz.prog 299 .plain (E' Tryz.f299 true [] [] []) [true] Vj:=U' Tryz.func299

noncomputable def Vi:U:=aX [.ev (.av 2 y0 y1),.dU (p' 1 y4),.ev (l' y3 (p' 1 y4)),.ev (.av 2 y0 y2),.dU (p' 1 y6),.ev (l' y3 (p' 1 y6)),.ev (X' .lss y5 y7)] (.ret (C' y8 y3))
theorem Xc:dW Tryz.prog 300 .plain (E' Tryz.f300 true [] [] []) [true,true,true] Vi:=U' Tryz.func300

noncomputable def Vg:U:=aX [.dU (.nn y0),.ev (l' y2 y0),.ev (m' (.ed 196) y1),.ev (.bP (.br 2 y4) (.const (.a_ []))),.ev (.fC 196 2 16 y2 y3 y5),.dU (.nn y0),.ev (.eY 1 y6 y0 (.apps y2 y3 y5))] (.ret (C' .ai y7))
theorem Xb:dW Tryz.prog 301 .plain (E' Tryz.f301 false [141,304,185,305,301,311,302,303] [] []) [true,true] Vg:=U' Tryz.func301

noncomputable def Vf:U:=aX [.ev (.av 2 y0 y2),.ev (.ld true 2 y3 y4),.ev (.av 2 y0 y1),.ev (.ld true 2 y3 y6),.ev (.av 2 y0 y1),.ev (.eY 2 y3 y8 y5),.ev (.av 2 y0 y2),.ev (.eY 2 y9 y10 y7)] (.ret (C' .ai y11))
theorem Xa:dW Tryz.prog 302 .plain (E' Tryz.f302 false [141,304,185,305,301,311,302,303] [] []) [true,true,true] Vf:=U' Tryz.func302

noncomputable def Ve:U:=aX [.bA 304 y1 [.fq 248 y0] [true],.ev (m' (.ed 196) y2),.dU (.br 2 y4)] (.ret (C' (pz 2 y4) y3))
theorem W_:dW Tryz.prog 303 .plain (E' Tryz.f303 false [141,304,185,305,301,311,302,303] [] []) [true] Ve:=U' Tryz.func303

noncomputable def Vd:U:=aX [.call 299 y1 [l' y1 (m' (.ed 248) y0)] [true],.ev (M' y2 (ki 1)),.bA 302 y1 [l' y1 (m' (.ed 248) y0),ki 0,y3] [],.bA 305 y5 [y0,ki 0,y3] [true],.bA 311 y7 [m' (.ed 248) y0] [true]] (.ret (C' y8 y9))
theorem W9:dW Tryz.prog 304 .plain { (aj false ([141,304,185,305,301,311,302,303]++cI) cJ [] [] Tryz.f304) with aN:=true,cE:=true,yU:=[(5,248),(9,248),(14,248)] } [true] Vd:=dW.plain Tryz.func304 (by kernel_rfl) (by kernel_rfl)

noncomputable def Vc:U:=aX [.join 0 2 (.loop 1 [y1,y3] (aX [.join 2 2 (aX [.ev (X' .mul (ki 2) y4),.ev (P' y6 (ki 1)),.ev (X' .geq y7 y2),.chain true y8 (aX [.ev (X' .lss y7 (ki 0))] (.ret y9))] (.ite y9 (.jump 0 [y4,y5] []) (aX [.ev (P' y7 (ki 1)),.ev (X' .lss y10 y2),.chain false y11 (aX [.call 300 y5 [l' y5 (m' (.ed 248) y0),y10,y7] [true]] (.ret y12)),.Pg y12 [y10] [y7],.call 300 y5 [l' y5 (m' (.ed 248) y0),y13,y4] [true],.ev (N' y14)] (.ite y15 (.jump 0 [y4,y5] []) (aX [.bA 302 y5 [l' y5 (m' (.ed 248) y0),y4,y13] []] (.jump 2 [y13,y17] []))))))] (.jump 1 [y6,y7] []))),.ev (X' .gtr y4 y1)] (.ret (C' y6 y5))
theorem W8:dW Tryz.prog 305 .plain { (aj false ([141,304,185,305,301,311,302,303]++cI) cJ [] [] Tryz.f305) with aN:=true,cE:=true,yU:=[(32,248),(38,248),(43,248)] } [true,true,true] Vc:=dW.plain Tryz.func305 (by kernel_rfl) (by kernel_rfl)

noncomputable def Vb:U:=aX [.dU (.nn y0),.ev (l' y1 y0),.dU (.nn y0),.ev (l' y1 y0),.ev (.bD y3),.ev (M' y4 (ki 1)),.ev (.av 2 y2 y5),.ev (.ld true 2 y1 y6),.dU (.br 2 y7),.dU (.nn y0),.ev (l' y1 y0),.dU (.nn y0),.ev (l' y1 y0),.ev (.bD y9),.ev (M' y10 (ki 1)),.ev (.sub 2 y8 (ki 0) y11),.dU (.nn y0),.ev (.eY 1 y1 y0 y12)] (.ret (C' (.fq 196 (pz 2 y7)) y13))
theorem W7:dW Tryz.prog 311 .plain (E' Tryz.f311 false [141,304,185,305,301,311,302,303] [] []) [true] Vb:=U' Tryz.func311
end
end Go.Am.To
