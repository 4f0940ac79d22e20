/-
  Several texts, one behind the other.
-/
import Derived.Test.YtjnipnanfjglpaaGreatDoorToC3toToC4
import Derived.Test.YtjnipnanfjglpaaGreatDoorAmApp
import Derived.Test.YtjnipnanfjglpaaGreatDoorAmFntoAmTabK
import Derived.Test.YtjnipnanfjglpaaGreatDoorAmKilltoAmOut
import Derived.Test.YtjnipnanfjglpaaGreatDoorToBasetoScAct
set_option linter.unusedSimpArgs false
set_option linter.unusedVariables false
namespace Go.Am.To
section
open Go.Proofs Go.Am.Sc
set_option maxRecDepth 100000
set_option maxHeartbeats 4000000

section
variable {env:List D} {h l x:E} {dh dl d:D}
theorem nA {g:Bool}{k:Nat}(hh:h.eval env=some dh)(hl:l.eval env=some dl)(hd:D.ld g k dh dl=some d):(E.ld g k h l).eval env=some d:=by simp only[E.eval,hh,hl,A0d,hd]
theorem Kx {r:List E}{ds:List D}(hx:x.eval env=some d)(hr:aq env r=some ds):aq env (x :: r)=some (d :: ds):=by simp[aq,hx,hr]
end

theorem Ir {α:Type}{bs:List D}{e:TypeId}{sz:Nat}{enc:α→List D}{xs:List α}{b i:Nat}{x':α}(hb:bs[b]? = some (.bh e sz (xs.flatMap enc)))(hsz:∀x,(enc x).length=sz)(hi:i<xs.length)(ho:(enc x').all (·.one)=true):D.eY sz (.st bs) (.loc b (i*sz)) (.agg (enc x'))=some (.st (bs.set b (.bh e sz ((xs.set i x').flatMap enc)))):=by
 have hlen:(i+1)*sz≤xs.length*sz:=Nat.mul_le_mul_right _ hi
 rw[Nat.add_mul,Nat.one_mul] at hlen
 have hfl:(xs.flatMap enc).length=xs.length*sz:=eF hsz
 have e1:(xs.set i x').flatMap enc=(xs.flatMap enc).take (i*sz)++enc x'++(xs.flatMap enc).drop (i*sz+sz):=by
  rw[rT hsz,show i*sz+sz=(i+1)*sz by rw[Nat.add_mul,Nat.one_mul],rU hsz,List.set_eq_take_append_cons_drop,if_pos hi]
  simp
 simp only[D.eY,D.dJ,hb,A0d,D.cells,hsz,ho,and_true,true_and]
 rw[if_pos (by rw[hfl];exact hlen),e1]

def yC (y:Int×Int):List D:=[I y.1,I y.2]
theorem nM (y:Int×Int):(yC y).length=2:=rfl

variable {bs:List D} {j hd:Nat} {l ys:List (Int×Int)}

def HB (l ys:List (Int×Int)):D:=.bh 196 2 ((l++ys).flatMap yC)
structure Hp (bs:List D)(hd j:Nat)(l ys:List (Int×Int)):Prop where
 wX:bs[hd]? = some (.bh 250 1 [.sl j 0 l.length])
 bh:bs[j]? = some (HB l ys)
 len:l.length≤4000000000

def Jt (l:List (Int×Int))(a b:Nat):List (Int×Int):=(l.set a (l.getD b default)).set b (l.getD a default)
theorem jo {a b:Nat}:(Jt l a b).length=l.length:=by simp[Jt]
theorem gd {k:Nat}(h:k<l.length):l.getD k default=l[k]:=by simp[A0i,h]
theorem xw {a b:Nat}(ha:a<l.length)(hb:b<l.length):(Jt l a b).Perm l:=by
 rw[Jt,gd ha,gd hb]
 exact List.set_set_perm ha hb

theorem xa {k:Nat}(hk:k<l.length):(l++ys)[k]? = some (l.getD k default):=by
 rw[A0j hk,gd hk,A0f hk]

theorem Hp.ne (h:Hp bs hd j l ys):hd≠j:=by
 intro e
 have h1:=h.wX
 rw[e,h.bh] at h1
 injection h1 with h1
 injection h1 with h1 h2 h3
 cases h1

theorem Hp.set (h:Hp bs hd j l ys){l':List (Int×Int)}(hl:l'.length=l.length):Hp (bs.set j (HB l' ys)) hd j l' ys:=by
 refine⟨?_,mg (A0a.1 h.bh).1,by rw[hl];exact h.len⟩
 rw[dZ (Ne.symm h.ne),hl]
 exact h.wX

theorem Oe (m:Nat):aU Tryz.prog 299 (.st bs) [.sl j 0 m] (In m):=by
 refine Xd.R rfl rfl ?_
 unfold Vj
 simp only[aP,bg,A0q,A0r]
 repeat' (first|(apply bk;rfl;simp only[az];rfl)|exact aS rfl rfl)

theorem Od (h:Hp bs hd j l ys){a b:Nat}(ha:a<l.length)(hb:b<l.length):aU Tryz.prog 300 (.st bs) [.sl j 0 l.length,In a,In b] (B (decide ((l.getD a default).2<(l.getD b default).2))):=by
 refine Xc.R rfl rfl ?_
 unfold Vi
 simp only[aP,bg,A0q,A0r]
 repeat' (first|(apply cw;rfl)|(apply kP;rfl;rfl;(·first|exact Co h.bh nM (xa ha) rfl|exact Co h.bh nM (xa hb) rfl);simp only[az];rfl)|(apply bG;rfl;rfl;(·first|exact fy ha|exact fy hb);simp only[az];rfl)|(apply bk;rfl;simp only[az];rfl)|exact aS rfl rfl)

theorem Un (h:Hp bs hd j l ys){a b:Nat}(ha:a<l.length)(hb:b<l.length):bt Tryz.prog 302 (.st bs) [.sl j 0 l.length,In a,In b] (.aM []) (.st (bs.set j (HB (Jt l a b) ys))):=by
 have s1:=Ir (x':=l.getD b default) h.bh nM (i:=a) (by simp;omega) rfl
 have h2:=(h.set (l':=l.set a (l.getD b default)) (by simp)).bh
 rw[List.set_append_left _ _ ha] at s1
 have s2:=Ir (x':=l.getD a default) h2 nM (i:=b) (by simp;omega) rfl
 rw[List.set_append_left _ _ (by simpa using hb),List.set_set] at s2
 refine Xa.W rfl ?_
 unfold Vf
 simp only[aP,bg,A0q,A0r]
 repeat' (first|(apply kP;rfl;rfl;(·first|exact Mv h.bh nM (xa ha)|exact Mv h.bh nM (xa hb));simp only[az];rfl)|(apply bG;rfl;rfl;(·first|exact fy ha|exact fy hb);simp only[az];rfl)|(apply kJ;rfl;rfl;rfl;(·first|exact s1|exact s2);simp only[az];rfl)|exact aS rfl rfl)

/-! ## up and down -/

abbrev Pz (l:List (Int×Int))(a b:Nat):Bool:=decide ((l.getD a default).2<(l.getD b default).2)
abbrev upB (l:List (Int×Int))(k:Nat):Bool:=((((k-1) / 2:Nat):Int)==(k:Int))||!Pz l k ((k-1) / 2)

inductive Up:List (Int×Int)→Nat→List (Int×Int)→Prop
 | stop {l:List (Int×Int)} {k:Nat} (h:upB l k=true):Up l k l
 | step {l l':List (Int×Int)} {k:Nat} (h:upB l k=false) (hn:Up (Jt l ((k-1) / 2) k) ((k-1) / 2) l'):Up l k l'

theorem Up.exi (m:Nat):∀{l:List (Int×Int)} {k:Nat},k<l.length→k≤m→∃l',Up l k l'∧l'.Perm l:=by
 induction m with
 | zero=>exact fun {l k} hk hm=>⟨l,.stop (by rw[show k=0 by omega];rfl),.refl _⟩
 | succ m ih=>
  intro l k hk hm
  cases h:upB l k
  ·have hne:(k-1) / 2≠k:=by have:=(Bool.or_eq_false_iff.1 h).1;simp at this;omega
   obtain⟨l',h1,h2⟩:=ih (l:=Jt l ((k-1) / 2) k) (k:=(k-1) / 2) (by rw[jo];omega) (by omega)
   exact⟨l',.step h h1,h2.trans (xw (by omega) hk)⟩
  ·exact⟨l,.stop h,.refl _⟩

theorem par (k:Nat)(hk:k≤4000000000):D.bin .quo .int (I ((k:Int)-1)) (I 2)=some (In ((k-1) / 2)):=by
 have h1:D.bin .quo .int (I ((k:Int)-1)) (I 2)=some (I (IntKind.i64.wrap (((k:Int)-1).tdiv 2))):=rfl
 have h2:((k:Int)-1).tdiv 2=(((k-1) / 2:Nat):Int):=by
  cases k with
  | zero=>rfl
  | succ k=>
   rw[Int.tdiv_eq_ediv_of_nonneg (by omega)]
   omega
 rw[h1,h2,wrap64 (by omega)]

theorem afg (h:Hp bs hd j l ys){k:Nat}(hk:k<l.length){l':List (Int×Int)}(hu:Up l k l'):bt Tryz.prog 185 (.st bs) [.fq 248 (.loc hd 0),In k] (.aM []) (.st (bs.set j (HB l' ys))):=by
 have hlen:=h.len
 refine Xh.W rfl ?_
 unfold Vn
 simp only[aP,bg,A0q,A0r]
 repeat' ((with_reducible refine aK ?_))
 refine uo (fun m ds=>∃l1 k1,ds=[In k1,.st (bs.set j (HB l1 ys))]∧Hp (bs.set j (HB l1 ys)) hd j l1 ys∧l1.length=l.length∧k1<l1.length∧k1≤m∧Up l1 k1 l') rfl k ⟨l,k,by rw[show bs.set j (HB l ys)=bs from lI h.bh],by rw[show bs.set j (HB l ys)=bs from lI h.bh];exact h,rfl,hk,A0m _,hu⟩ ?_
 rintro m ds ⟨l1,k1,rfl,hp,M8,hk1,hm,Ap⟩
 refine⟨rfl,fun R hR=>?_⟩
 have K6:=Od hp hk1 (b:=(k1-1) / 2) (by omega)
 have hq:=par k1 (by omega)
 cases Ap with
 | stop hs=>
  repeat' (first
  |(apply eZ;simp only[az];rfl)
  |(apply bK;rfl;exact hs)
  |(apply jI;rfl;rfl;exact hq;simp only[az];rfl)
  |(apply jl;rfl;rfl;omega;simp only[az];rfl)
  |(apply bk;rfl;simp only[az];rfl)
  |(apply bX;rfl;exact Kx (nA rfl rfl (cj hp.wX rfl)) rfl;exact K6;rfl;simp only[az];rfl)
  |(apply gm;rfl)
  |refine aK ?_
  |(apply aR;rfl;rfl)
  |refine aF ?_
  |(refine bJ (by decide) ?_)
  |refine kj rfl ?_
  |(apply iz;rfl;all_goals (intro hz;(try simp only[gQ] at hz);first|(exact absurd hz (by decide))|(exfalso;omega)|skip))
  |exact aS rfl rfl
  |(apply aS;rfl;first|exact rfl|(refine oe ?_)|(refine oa ?_)|(refine oc ?_))
  |(intro hz;(try simp only[gQ] at hz)))
 | step hs hn=>
  have hw:=Un hp (a:=(k1-1) / 2) (b:=k1) (by omega) hk1
  rw[List.set_set] at hw
  repeat' (first|(apply eZ;simp only[az];rfl)|(apply bL;rfl;exact hs)|(apply jI;rfl;rfl;exact hq;simp only[az];rfl)|(apply jl;rfl;rfl;omega;simp only[az];rfl)|(apply bk;rfl;simp only[az];rfl)|(apply bX;rfl;(·exact Kx (nA rfl rfl (cj hp.wX rfl)) rfl);exact K6;rfl;simp only[az];rfl)|(apply gL;rfl;(·exact Kx (nA rfl rfl (cj hp.wX rfl)) rfl);exact hw;rfl;simp only[az];rfl)|(apply gm;rfl)|refine aK ?_|(apply aR;rfl;rfl)|refine aF ?_|refine kj rfl ?_|exact aS rfl rfl|(intro hz;(try simp only[gQ] at hz)))
  have hne:(k1-1) / 2≠k1:=by have:=(Bool.or_eq_false_iff.1 hs).1;simp at this;omega
  have PV:=hp.set (l':=Jt l1 ((k1-1) / 2) k1) jo
  rw[List.set_set] at PV
  exact hR ((k1-1) / 2) _ (by omega) ⟨_,_,rfl,PV,by rw[jo,M8],by rw[jo];omega,A0m _,hn⟩
end

section
open Go.Proofs Go.Am.Sc
set_option maxRecDepth 100000
set_option maxHeartbeats 4000000

variable {bs:List D} {j hd:Nat} {l ys:List (Int×Int)}

def CX (n:Nat)(l:List (Int×Int))(k:Nat):Nat:=if(decide (((2*k+1+1:Nat):Int)<(n:Int))&&Pz l (2*k+1+1) (2*k+1))=true then 2*k+1+1 else 2*k+1
abbrev ZG (n k:Nat):Bool:=decide (((2*k+1:Nat):Int)≥(n:Int))||decide (((2*k+1:Nat):Int)<0)

inductive Dn (n:Nat):List (Int×Int)→Nat→List (Int×Int)→Nat→Prop
 | out {l:List (Int×Int)} {k:Nat} (h:ZG n k=true):Dn n l k l k
 | stop {l:List (Int×Int)} {k:Nat} (h:ZG n k=false) (h2:(!Pz l (CX n l k) k)=true):Dn n l k l k
 | step {l l':List (Int×Int)} {k k':Nat} (h:ZG n k=false) (h2:(!Pz l (CX n l k) k)=false) (hn:Dn n (Jt l k (CX n l k)) (CX n l k) l' k'):Dn n l k l' k'

theorem HY {n k:Nat}(h:ZG n k=false):k<CX n l k∧CX n l k<n:=by
 have:=(Bool.or_eq_false_iff.1 h).1
 simp at this
 unfold CX
 split
 ·rename_i h1
  have:=(Bool.and_eq_true_iff.1 h1).1
  simp at this
  omega
 ·omega

theorem Dn.exi {n:Nat}(m:Nat):∀{l:List (Int×Int)} {k:Nat},n≤l.length→n-k≤m→∃l' k',Dn n l k l' k'∧l'.Perm l:=by
 induction m with
 | zero=>exact fun {l k} hk hm=>⟨l,k,.out (Bool.or_eq_true_iff.2 (.inl (decide_eq_true (by omega)))),.refl _⟩
 | succ m ih=>
  intro l k hk hm
  cases h:ZG n k
  ·obtain⟨b1,b2⟩:=HY (l:=l) h
   cases h2:!Pz l (CX n l k) k
   ·obtain⟨l',k',h3,h4⟩:=ih (l:=Jt l k (CX n l k)) (k:=CX n l k) (by rw[jo];omega) (by omega)
    exact⟨l',k',.step h h2 h3,h4.trans (xw (by omega) (by omega))⟩
   ·exact⟨l,k,.stop h h2,.refl _⟩
  ·exact⟨l,k,.out h,.refl _⟩

theorem dbl {k:Nat}(hk:k≤4000000000):D.bin .mul .int (I 2) (In k)=some (In (2*k)):=by
 have h1:D.bin .mul .int (I 2) (In k)=some (I (IntKind.i64.wrap (2*(k:Int)))):=rfl
 rw[h1,wrap64 (by omega)]
 rfl

theorem afc (h:Hp bs hd j l ys){n:Nat}(hn:n≤l.length){k k':Nat}(hk:k≤l.length){l':List (Int×Int)}(hu:Dn n l k l' k'):bt Tryz.prog 305 (.st bs) [.fq 248 (.loc hd 0),In k,In n] (B (decide ((k':Int) > k))) (.st (bs.set j (HB l' ys))):=by
 have hlen:=h.len
 refine W8.W rfl ?_
 unfold Vc
 simp only[aP,bg,A0q,A0r]
 repeat' ((with_reducible refine aK ?_))
 refine uo (fun m ds=>∃l1 k1,ds=[In k1,.st (bs.set j (HB l1 ys))]∧Hp (bs.set j (HB l1 ys)) hd j l1 ys∧l1.length=l.length∧k1≤l.length∧l.length-k1≤m∧Dn n l1 k1 l' k') rfl l.length ⟨l,k,by rw[show bs.set j (HB l ys)=bs from lI h.bh],by rw[show bs.set j (HB l ys)=bs from lI h.bh];exact h,rfl,hk,by omega,hu⟩ ?_
 rintro m ds ⟨l1,k1,rfl,hp,M8,hk1,hm,Ap⟩
 refine⟨rfl,fun R hR=>?_⟩
 have hq:=dbl (k:=k1) (by omega)
 cases Ap with
 | out hs=>
  repeat' (first
  |(apply eZ;simp only[az];rfl)
  |(apply bK;rfl;exact hs)
  |(apply jI;rfl;rfl;exact hq;simp only[az];rfl)
  |(apply eT;rfl;omega;simp only[az];rfl)
  |(apply mR;rfl;rfl;omega;simp only[az];rfl)
  |(apply bk;rfl;simp only[az];rfl)
  |(apply gm;rfl)
  |(apply jm;rfl)
  |refine aK ?_
  |(apply aR;rfl;rfl)
  |refine aF ?_
  |(refine bJ (by decide) ?_)
  |refine kj rfl ?_
  |(apply Ds;rfl;(·intro hz;rfl);(·intro hz;rfl);rfl;(·simp only[az,List.zipWith_cons_cons,List.zipWith_nil_left,mT];rfl))
  |(apply iz;rfl;all_goals (intro hz;(try simp only[gQ] at hz);first|(exact absurd hz (by decide))|(exfalso;omega)|skip))
  |exact aS rfl rfl
  |(apply aS;rfl;first|exact rfl|(refine oe ?_)|(refine oa ?_)|(refine oc ?_))
  |(intro hz;(try simp only[gQ] at hz)))
 | stop hs h2=>
  obtain⟨b1,b2⟩:=HY (l:=l') hs
  have uU:=(Bool.or_eq_false_iff.1 hs).1
  simp at uU
  have K6:=Od hp (a:=CX n l' k') (b:=k') (by omega) (by omega)
  have hsel:mT (decide (((2*k'+1+1:Nat):Int)<(n:Int))&&Pz l' (2*k'+1+1) (2*k'+1)) (In (2*k'+1+1)) (In (2*k'+1))=In (CX n l' k'):=by
   unfold CX
   split <;> rename_i e
   ·rw[e];rfl
   ·rw[B0h] at e
    rw[e];rfl
  have OL:((2*k'+1+1:Nat):Int)<(n:Int)→aU Tryz.prog 300 (.st (bs.set j (HB l' ys))) [.sl j 0 l'.length,In (2*k'+1+1),In (2*k'+1)] (B (Pz l' (2*k'+1+1) (2*k'+1))):=fun e=>Od hp (by omega) (by omega)
  repeat' (first
  |(apply eZ;simp only[az];rfl)
  |(apply Lr;rfl;rfl;rfl;exact hsel;simp only[az];rfl)
  |(apply bK;rfl;exact h2)
  |(apply bL;rfl;exact hs)
  |(apply jI;rfl;rfl;exact hq;simp only[az];rfl)
  |(apply eT;rfl;omega;simp only[az];rfl)
  |(apply mR;rfl;rfl;omega;simp only[az];rfl)
  |(apply bk;rfl;simp only[az];rfl)
  |(apply bX;rfl;(·first|exact Kx (nA rfl rfl (cj hp.wX rfl)) rfl|exact Kx (nA rfl rfl (cj hp.wX rfl)) rfl);(·first|exact K6|exact OL (by assumption));rfl;simp only[az];rfl)
  |(apply gm;rfl)
  |(apply jm;rfl)
  |refine aK ?_
  |(apply aR;rfl;rfl)
  |refine aF ?_
  |(refine bJ (by decide) ?_)
  |refine kj rfl ?_
  |(apply Ds;rfl;(·intro hz;rfl);(·intro hz;rfl);rfl;(·simp only[az,List.zipWith_cons_cons,List.zipWith_nil_left,mT];rfl))
  |(apply iz;rfl;all_goals (intro hz;(try simp only[gQ] at hz);first|(exact absurd hz (by decide))|(exfalso;omega)|skip))
  |exact aS rfl rfl
  |(apply aS;rfl;first|exact rfl|(refine oe ?_)|(refine oa ?_)|(refine oc ?_))
  |(intro hz;(try simp only[gQ] at hz)))
 | step hs h2 hn1=>
  obtain⟨b1,b2⟩:=HY (l:=l1) hs
  have uU:=(Bool.or_eq_false_iff.1 hs).1
  simp at uU
  have K6:=Od hp (a:=CX n l1 k1) (b:=k1) (by omega) (by omega)
  have hsel:mT (decide (((2*k1+1+1:Nat):Int)<(n:Int))&&Pz l1 (2*k1+1+1) (2*k1+1)) (In (2*k1+1+1)) (In (2*k1+1))=In (CX n l1 k1):=by
   unfold CX
   split <;> rename_i e
   ·rw[e];rfl
   ·rw[B0h] at e
    rw[e];rfl
  have OL:((2*k1+1+1:Nat):Int)<(n:Int)→aU Tryz.prog 300 (.st (bs.set j (HB l1 ys))) [.sl j 0 l1.length,In (2*k1+1+1),In (2*k1+1)] (B (Pz l1 (2*k1+1+1) (2*k1+1))):=fun e=>Od hp (by omega) (by omega)
  have hw:=Un hp (a:=k1) (b:=CX n l1 k1) (by omega) (by omega)
  rw[List.set_set] at hw
  repeat' (first|(apply eZ;simp only[az];rfl)|(apply Lr;rfl;rfl;rfl;exact hsel;simp only[az];rfl)|(apply bL;rfl;(·first|exact hs|exact h2))|(apply jI;rfl;rfl;exact hq;simp only[az];rfl)|(apply eT;rfl;omega;simp only[az];rfl)|(apply bk;rfl;simp only[az];rfl)|(apply bX;rfl;(·exact Kx (nA rfl rfl (cj hp.wX rfl)) rfl);(·first|exact K6|exact OL (by assumption));rfl;simp only[az];rfl)|(apply gL;rfl;(·exact Kx (nA rfl rfl (cj hp.wX rfl)) rfl);exact hw;rfl;simp only[az];rfl)|(apply gm;rfl)|(apply jm;rfl)|refine aK ?_|(apply aR;rfl;rfl)|refine aF ?_|refine kj rfl ?_|exact aS rfl rfl|(intro hz;(try simp only[gQ] at hz)))
  have PV:=hp.set (l':=Jt l1 k1 (CX n l1 k1)) jo
  rw[List.set_set] at PV
  exact hR (l.length-CX n l1 k1) _ (by omega) ⟨_,_,rfl,PV,by rw[jo,M8],by omega,A0m _,hn1⟩

theorem Db (l ys:List (Int×Int)):(HB l ys).dG=true:=by
 have:∀l:List (Int×Int),aT (l.flatMap yC)=true:=fun l=>by
  induction l with
  | nil=>rfl
  | cons y l ih=>rw[List.flatMap_cons,e_,ih];rfl
 simp only[HB,D.dG,this]

structure Fr (bs bs':List D)(hd j:Nat):Prop where
 len:bs.length≤bs'.length
 old:∀i,i<bs.length→i≠hd→i≠j→bs'[i]? = bs[i]?
 ny:aT bs=true→aT bs'=true

variable {x y:Int×Int} {l0:List (Int×Int)}

theorem O1 {m k:Nat}(h:k≤m):D.sub 2 (.sl j 0 m) (I 0) (In k)=some (.sl j 0 k):=by
 simp only[D.sub]
 have h1:(0:Int)≤0∧(0:Int)≤(k:Int)∧(k:Int)≤(m:Int)∧0<2:=⟨by omega,by omega,by omega,by decide⟩
 rw[if_pos h1,if_pos (Or.inr trivial)]
 simp

theorem afb (h:Hp bs hd j (l0++[x]) ys):bt Tryz.prog 311 (.st bs) [.loc hd 0] (.fq 196 (yD x)) (.st (bs.set hd (.bh 250 1 [.sl j 0 l0.length])))∧Hp (bs.set hd (.bh 250 1 [.sl j 0 l0.length])) hd j l0 (x :: ys):=by
 have hlen:=h.len
 have hh:=h.wX
 have hb:=h.bh
 rw[A0t,List.length_singleton] at hlen hh
 have hm:((l0.length+1:Nat):Int)=((l0.length+1:Nat):Int):=rfl
 have hx:((l0++[x])++ys)[l0.length+1-1]? = some x:=by simp
 refine⟨?_,mg (A0a.1 hh).1,?_,by omega⟩
 ·refine W7.W rfl ?_
  unfold Vb
  simp only[aP,bg,A0q,A0r]
  repeat' (first|(apply cw;rfl)|(apply kP;rfl;rfl;(·first|exact cj hh rfl|exact Mv hb nM hx);simp only[az];rfl)|(apply bG;rfl;rfl;(·exact fy (show l0.length+1-1<l0.length+1 by omega));simp only[az];rfl)|(apply RZ;rfl;rfl;rfl;(·exact O1 (show l0.length+1-1≤l0.length+1 by omega));simp only[az];rfl)|(apply kJ;rfl;rfl;rfl;exact jq hh Nat.one_pos rfl;simp only[az];rfl)|(apply um;rfl;omega;simp only[az];rfl)|(apply bk;rfl;simp only[az];rfl)|exact aS rfl rfl)
 ·rw[dZ h.ne,hb]
  simp[HB]

theorem Hp.take (h:Hp bs hd j l ys)(h0:0<l.length):∃x l0 bs',(l0++[x]).Perm l∧bt Tryz.prog 303 (.st bs) [.loc hd 0] (yD x) (.st bs')∧Hp bs' hd j l0 (x :: ys)∧Fr bs bs' hd j∧bs'.length=bs.length:=by
 have hlen:=h.len
 have h1:=h.set (l':=Jt l 0 (l.length-1)) jo
 obtain⟨l2,k2,hd2,PV⟩:=Dn.exi (n:=l.length-1) (l.length-1) (l:=Jt l 0 (l.length-1)) (k:=0) (by rw[jo];omega) (by omega)
 have hp3:l2.Perm l:=PV.trans (xw h0 (by omega))
 have pg:=hp3.length_eq
 have h2:=h1.set (l':=l2) (by rw[jo,pg])
 rw[List.set_set] at h2
 obtain⟨l0,x,rfl⟩:∃l0 x,l2=l0++[x]:=⟨l2.dropLast,l2.getLast (by intro e;rw[e,List.length_nil] at pg;omega),(List.dropLast_concat_getLast _).symm⟩
 obtain⟨g1,g2⟩:=afb h2
 have w1:=Un h (a:=0) (b:=l.length-1) h0 (by omega)
 have w2:=afc h1 (n:=l.length-1) (k:=0) (by rw[jo];omega) (by omega) hd2
 rw[List.set_set] at w2
 have hjl:=(A0a.1 h.bh).1
 refine⟨x,l0,_,hp3,?_,g2,⟨by simp,fun i hi h1 h2=>?_,fun hn=>?_⟩,by simp⟩
 ·have TO:bt Tryz.prog 304 (.st bs) [.fq 248 (.loc hd 0)] (.fq 196 (yD x)) (.st ((bs.set j (HB (l0++[x]) ys)).set hd (.bh 250 1 [.sl j 0 l0.length]))):=by
   refine W9.W rfl ?_
   unfold Vd
   simp only[aP,bg,A0q,A0r]
   repeat' (first|(apply um;rfl;omega;simp only[az];rfl)|(apply bX;rfl;(·exact Kx (nA rfl rfl (cj h.wX rfl)) rfl);exact Oe _;rfl;simp only[az];rfl)|(apply gL;rfl;rfl;(·first|exact w2|exact g1);rfl;simp only[az];rfl)|(apply gL;rfl;(·exact Kx (nA rfl rfl (cj h.wX rfl)) rfl);exact w1;rfl;simp only[az];rfl)|exact aS rfl rfl)
  refine W_.W rfl ?_
  unfold Ve
  simp only[aP,bg,A0q,A0r]
  repeat' (first|(apply cw;rfl)|(apply bk;rfl;simp only[az];rfl)|(apply gL;rfl;rfl;exact TO;rfl;simp only[az];rfl)|exact aS rfl rfl)
 ·rw[dZ (Ne.symm h1),dZ (Ne.symm h2)]
 ·exact fE _ _ _ (fE _ _ _ hn (Db _ _)) rfl

theorem QB (h:Hp bs hd j l ys):D.fC 196 2 16 (.st bs) (.sl j 0 l.length) (.a_ [yD y])=some (.st (bs.set j (.aM [])++[HB (l++[y]) []])):=by
 have hlen:=h.len
 have hc:D.dJ (.st bs) j=some (196,2,(l++ys).flatMap yC):=by simp only[D.dJ,h.bh,HB]
 have hf:((l++ys).flatMap yC).length=(l++ys).length*2:=eF nM
 have hml:(maxLen:Nat)=9223372036854775807:=rfl
 simp only[D.fC,D.Dj,hc,List.cons_ne_nil,if_false,A0d,List.length_cons,List.length_nil]
 split
 ·rename_i g
  have hy:ys=[]:=by
   have:=g.2.2.2.1
   rw[hf,A0t] at this
   exact A0w (by omega)
  subst hy
  simp[HB,bI,yD,D.cells,yC]
 ·rw[if_pos]
  ·rw[←eF nM (xs:=l),List.flatMap_append,List.take_left]
   simp[HB,bI,yD,D.cells,yC]
  ·refine⟨trivial,trivial,trivial,by rw[hf,A0t];omega,by omega,by omega,rfl,rfl⟩

theorem Hp.push (h:Hp bs hd j l ys)(hl:l.length<4000000000)(y:Int×Int):∃l' bs',l'.Perm (l++[y])∧bt Tryz.prog 141 (.st bs) [.fq 248 (.loc hd 0),.fq 196 (yD y)] (.aM []) (.st bs')∧Hp bs' hd bs.length l' []∧Fr bs bs' hd j:=by
 have hhl:=(A0a.1 h.wX).1
 obtain⟨b1,lY⟩:∃b1,b1=(bs.set j (.aM [])++[HB (l++[y]) []]).set hd (.bh 250 1 [.sl bs.length 0 (l.length+1)]):=⟨_,rfl⟩
 have hh0:(bs.set j (.aM [])++[HB (l++[y]) []])[hd]? = some (.bh 250 1 [.sl j 0 l.length]):=by
  rw[A0j (by simpa using hhl),dZ (Ne.symm h.ne)]
  exact h.wX
 have h1:Hp b1 hd bs.length (l++[y]) []:=by
  refine⟨?_,?_,by simp;omega⟩
  ·rw[lY,mg (by simp;omega)]
   simp
  ·rw[lY,dZ (by omega),A0l (by simp)]
   simp
 have w1:bt Tryz.prog 301 (.st bs) [.loc hd 0,.fq 196 (yD y)] (.aM []) (.st b1):=by
  rw[lY]
  refine Xb.W rfl ?_
  unfold Vg
  simp only[aP,bg,A0q,A0r]
  repeat' (first|(apply cw;rfl)|(apply FT;rfl;rfl;rfl;rfl;rfl;exact rfl;exact jq hh0 Nat.one_pos rfl;simp only[az];rfl)|(apply kP;rfl;rfl;exact cj h.wX rfl;simp only[az];rfl)|(apply FV;rfl;rfl;rfl;exact QB h;simp only[az];rfl)|(apply bk;rfl;simp only[az];rfl)|exact aS rfl rfl)
 obtain⟨l',hu,hp⟩:=Up.exi l.length (l:=l++[y]) (k:=l.length) (by simp) (A0m _)
 have w2:=afg h1 (k:=l.length) (by simp) hu
 have M8:(l++[y]).length=l.length+1:=by simp
 refine⟨l',_,hp,?_,h1.set (by rw[hp.length_eq]),⟨by rw[lY];simp,fun i hi g1 g2=>?_,fun hn=>?_⟩⟩
 ·refine Xn.W rfl ?_
  unfold Vt
  simp only[aP,bg,A0q,A0r]
  have hh1:=h1.wX
  rw[M8] at hh1
  repeat' (first|(apply um;rfl;omega;simp only[az];rfl)|(apply bX;rfl;(·exact Kx (nA rfl rfl (cj hh1 rfl)) rfl);exact Oe _;rfl;simp only[az];rfl)|(apply gL;rfl;rfl;(·first|exact w1|exact w2);rfl;simp only[az];rfl)|exact aS rfl rfl)
 ·rw[dZ (by omega),lY,dZ (Ne.symm g1),A0j (by simpa using hi),dZ (Ne.symm g2)]
 ·rw[lY]
  refine fE _ _ _ (fE _ _ _ ?_ rfl) (Db _ _)
  rw[e_,fE _ _ _ hn rfl]
  simp[aT,Db]
end

section
open Go.Proofs Go.Am.Sc
set_option maxRecDepth 100000
set_option maxHeartbeats 4000000

def yB (y:Int×Int):D:=.bh 196 2 (yC y)
def oB (out:List Int):D:=.bh 3 1 (out.map I)

structure Sr (st:List D)(n:Nat)(out:List Int)(j:Nat)(q ys:List (Int×Int)):Prop where
 o:st[0]? = some (oB out)
 v:st[1]? = some (.bh 22 1 [.sl 0 0 n])
 h:st[4]? = some (.bh 252 1 [.fq 248 (.loc 3 0)])
 hp:Hp st 3 j q ys
 ny:aT st=true

section
variable {st sa cG:List D} {n:Nat} {out:List Int} {j:Nat} {q ys:List (Int×Int)}

theorem Sr.ne (h:Sr st n out j q ys):j≠0∧j≠1∧j≠4:=by
 have hb:=h.hp.bh
 refine⟨fun e=>?_,fun e=>?_,fun e=>?_⟩ <;> subst e
 ·rw[h.o] at hb;injection hb with hb;injection hb with hb;cases hb
 ·rw[h.v] at hb;injection hb with hb;injection hb with hb;cases hb
 ·rw[h.h] at hb;injection hb with hb;injection hb with hb;cases hb

theorem Sr.len (h:Sr st n out j q ys):4<st.length:=(A0a.1 h.h).1

theorem IF (out:List Int):(oB out).dG=true:=lC fun _ _=>rfl

theorem Sr.push (h:Sr st n out j q ys)(y:Int×Int):Sr (st++[yB y]) n out j q ys:=by
 have hl:=h.len
 have hj:=(A0a.1 h.hp.bh).1
 refine⟨?_,?_,?_,⟨?_,?_,h.hp.len⟩,?_⟩
 ·rw[A0j (by omega)];exact h.o
 ·rw[A0j (by omega)];exact h.v
 ·rw[A0j (by omega)];exact h.h
 ·rw[A0j (by omega)];exact h.hp.wX
 ·rw[A0j hj];exact h.hp.bh
 ·rw[e_,h.ny];rfl

theorem Sr.outs (h:Sr st n out j q ys)(out':List Int):Sr (st.set 0 (oB out')) n out' j q ys:=by
 have hl:=h.len
 have hj:=h.ne
 refine⟨mg (by omega),?_,?_,⟨?_,?_,h.hp.len⟩,fE _ _ _ h.ny (IF _)⟩
 ·rw[dZ (by omega)];exact h.v
 ·rw[dZ (by omega)];exact h.h
 ·rw[dZ (by omega)];exact h.hp.wX
 ·rw[dZ (by omega)];exact h.hp.bh

theorem Sr.fr (h:Sr st n out j q ys){j':Nat}{q' ys':List (Int×Int)}(hf:Fr st cG 3 j)(hp:Hp cG 3 j' q' ys'):Sr cG n out j' q' ys':=by
 have hl:=h.len
 have hj:=h.ne
 refine⟨?_,?_,?_,hp,hf.ny h.ny⟩
 ·rw[hf.old 0 (by omega) (by omega) (by omega)];exact h.o
 ·rw[hf.old 1 (by omega) (by omega) (by omega)];exact h.v
 ·rw[hf.old 4 (by omega) (by omega) (by omega)];exact h.h
end

def IS (n:Nat)(y:Int×Int)(st cG:List D):Prop:=∃(out:List Int) (k:Nat),y.1=k∧k<n∧out.length=n∧st[0]? = some (oB out)∧st[1]? = some (.bh 22 1 [.sl 0 0 n])∧st[4]? = some (.bh 252 1 [.fq 248 (.loc 3 0)])∧aT st=true ∧
 ((y.2<gt out y.1∧bt Tryz.prog 141 (.st ((st++[yB y]).set 0 (oB (out.set k y.2)))) [.fq 248 (.loc 3 0),.fq 196 (yD y)] (.aM []) (.st cG))∨(¬y.2<gt out y.1∧cG=st++[yB y]))

def OS (n:Nat)(nx:Int→Int→List (Int×Int))(st me:List D):Prop:=∃(out:List Int) (k:Nat) (b:Int) (sa:List D) (m j:Nat),k<n∧out.length=n∧st[3]? = some (.bh 250 1 [.sl j 0 (m+1)])∧st[4]? = some (.bh 252 1 [.fq 248 (.loc 3 0)]) ∧
 bt Tryz.prog 303 (.st st) [.loc 3 0] (yD (k,b)) (.st sa)∧sa[0]? = some (oB out)∧sa[1]? = some (.bh 22 1 [.sl 0 0 n])∧-5000000≤b∧b≤5000000 ∧
 ((b > gt out k∧me=sa)∨(¬b > gt out k∧∃g:Nat→List D,g 0=sa∧g (nx k b).length=me∧aT me=true∧∀i (h:i<(nx k b).length),IS n (nx k b)[i] (g i) (g (i+1))))

def ES (n:Nat)(st:List D):Prop:=∃j,st[1]? = some (.bh 22 1 [.sl 0 0 n])∧st[3]? = some (.bh 250 1 [.sl j 0 0])∧st[4]? = some (.bh 252 1 [.fq 248 (.loc 3 0)])

inductive Rn (n:Nat) (T:List D→List D→Prop):Nat→List D→List D→Prop
 | stop {st:List D} (h:ES n st):Rn n T 0 st st
 | step {k:Nat} {st me cG:List D} (h:T st me) (hn:Rn n T k me cG):Rn n T (k+1) st cG

section
variable {n:Nat} {nx:Int→Int→List (Int×Int)} {s:Int×Int}

structure Oz (n:Nat)(nx:Int→Int→List (Int×Int))(s:Int×Int):Prop where
 WX:Ie n nx
 few:n≤200
 su:0≤s.1∧s.1<n
 lo:-200000≤s.2∧s.2≤100000

theorem Oh {out:List Int}(h:out.length≤200):BE out≤2100000:=by
 have:=Ht out
 unfold BE
 omega

theorem inner (H:Oz n nx s){x:Int×Int}{st:List D}{out:List Int}{j:Nat}{q ys:List (Int×Int)}{M:Nat}(hM:M≤2000000000)(hS:Sr st n out j q ys)(hI:SI n nx s x [] out q)(hx:mQ nx s x.1 x.2)(S4:x.2≤BE out)(hm:2*JH s.2 out+q.length≤M) :
  ∃g:Nat→List D,g 0=st∧(∀i (h:i<(nx x.1 x.2).length),IS n (nx x.1 x.2)[i] (g i) (g (i+1)))∧∃out' j' q' ys',Sr (g (nx x.1 x.2).length) n out' j' q' ys'∧SQ n nx s out' q'∧2*JH s.2 out'+q'.length≤M:=by
 obtain⟨g,g0,gJ,gR⟩:=Iv (N:=(nx x.1 x.2).length) (s0:=st)
  (J:=fun i st=>∃out j q ys,Sr st n out j q ys∧SI n nx s x ((nx x.1 x.2).take i) out q∧x.2≤BE out∧2*JH s.2 out+q.length≤M)
  (R:=fun i st cG=>∀h:i<(nx x.1 x.2).length,IS n (nx x.1 x.2)[i] st cG) ⟨out,j,q,ys,hS,hI,S4,hm⟩ (fun i st hi hJ=>by
   obtain⟨out,j,q,ys,hS,hI,S4,hm⟩:=hJ
   have PG:(nx x.1 x.2)[i]∈nx x.1 x.2:=List.getElem_mem hi
   have htk:(nx x.1 x.2).take (i+1)=(nx x.1 x.2).take i++[(nx x.1 x.2)[i]]:=B0a hi
   rw[htk]
   suffices key:∃cG,IS n (nx x.1 x.2)[i] st cG∧∃out j q ys,Sr cG n out j q ys∧SI n nx s x ((nx x.1 x.2).take i++[(nx x.1 x.2)[i]]) out q∧x.2≤BE out∧2*JH s.2 out+q.length≤M by
    obtain⟨cG,k1,k2⟩:=key
    exact⟨cG,fun _=>k1,k2⟩
   generalize(nx x.1 x.2)[i]=y at PG ⊢
   obtain⟨y1,y2⟩:=H.WX.node _ _ _ PG
   have K5:=hI.len
   have hk:y.1=(y.1.toNat:Nat):=by omega
   by_cases hc:y.2<gt out y.1
   ·have jF:=(hS.push y).outs (out.set y.1.toNat y.2)
    obtain⟨l',bs',p1,p2,p3,p4⟩:=jF.hp.push (by omega) y
    obtain⟨b1,b2,b3⟩:=hI.better (q':=l') H.WX H.su.1 hx S4 PG hc (fun z=>by rw[p1.mem_iff];simp)
    have hn:=H.few
    have oY:=Oh (out:=out) (by omega)
    have ajF:=(H.WX.up _ _ _ PG)
    have hge:s.2≤y.2:=mQ.ge H.WX (.step hx PG)
    have hps:=IC (lo:=s.2) (a:=y.2) ⟨hge,by omega⟩ out y.1.toNat (by omega) hc
    have hql:=p1.length_eq
    rw[A0t,List.length_singleton] at hql
    refine⟨bs',⟨out,y.1.toNat,hk,by omega,K5,hS.o,hS.v,hS.h,hS.ny,.inl ⟨hc,p2⟩⟩,_,_,_,_,jF.fr p4 p3,b1,by omega,by omega⟩
   ·exact⟨_,⟨out,y.1.toNat,hk,by omega,K5,hS.o,hS.v,hS.h,hS.ny,.inr ⟨hc,rfl⟩⟩,out,j,q,ys,hS.push y,hI.skip y1 (by omega),S4,hm⟩)
 obtain⟨out',j',q',ys',h1,h2,h3,h4⟩:=gJ _ (A0m _)
 rw[List.take_length] at h2
 exact⟨g,g0,fun i h=>gR i h h,out',j',q',ys',h1,h2.done,h4⟩

theorem outer (H:Oz n nx s)(M:Nat):∀{st:List D} {out:List Int} {j:Nat} {q ys:List (Int×Int)},M≤2000000000→Sr st n out j q ys→SQ n nx s out q→2*JH s.2 out+q.length≤M →
  ∃k cG,Rn n (OS n nx) k st cG∧∃out' j' ys',Sr cG n out' j' [] ys'∧SQ n nx s out' []:=by
 induction M with
 | zero=>
  intro st out j q ys _ hS hQ hm
  have:q=[]:=A0w (by omega)
  subst this
  exact⟨0,st,.stop ⟨j,hS.v,hS.hp.wX,hS.h⟩,out,j,ys,hS,hQ⟩
 | succ M ih=>
  intro st out j q ys hM hS hQ hm
  cases q with
  | nil=>exact⟨0,st,.stop ⟨j,hS.v,hS.hp.wX,hS.h⟩,out,j,ys,hS,hQ⟩
  | cons q0 qr=>
   obtain⟨x,l0,sa,p1,p2,p3,p4,_⟩:=hS.hp.take (by simp)
   have hQ1:SQ n nx s out (x :: l0):=hQ.perm fun y=>by rw[←p1.mem_iff];simp[or_comm]
   obtain⟨x1,x2,x3,x4,x5⟩:=hQ1.qs x (List.mem_cons_self ..)
   have jF:=hS.fr p4 p3
   have hlen:=p1.length_eq
   rw[A0t,List.length_singleton] at hlen
   have K5:=hQ.len
   have hn:=H.few
   have oY:=Oh (out:=out) (by omega)
   have hge:s.2≤x.2:=mQ.ge H.WX x3
   have hlo:=H.lo
   obtain⟨k,b⟩:=x
   obtain⟨k,rfl⟩:∃m:Nat,k=m:=⟨k.toNat,by simp only at x1;omega⟩
   simp only at x1 x2 x4 x5 hge
   have hkn:k<n:=by omega
   have X_:st[3]? = some (.bh 250 1 [.sl j 0 (qr.length+1)]):=hS.hp.wX
   by_cases hc:b > gt out k
   ·obtain⟨k',cG,r1,r2⟩:=ih (by omega) jF (hQ1.VE (by simp only;omega)) (by omega)
    exact⟨k'+1,cG,.step ⟨out,k,b,sa,qr.length,j,hkn,K5,X_,hS.h,p2,jF.o,jF.v,by omega,by omega,.inl ⟨hc,rfl⟩⟩ r1,r2⟩
   ·obtain⟨g,g0,gI,out',j',q',ys',g1,g2,g3⟩:=inner H (M:=M) (by omega) jF (hQ1.take (by simp only;omega)) x3 x5 (by omega)
    obtain⟨k',cG,r1,r2⟩:=ih (by omega) g1 g2 g3
    exact⟨k'+1,cG,.step ⟨out,k,b,sa,qr.length,j,hkn,K5,X_,hS.h,p2,jF.o,jF.v,by omega,by omega,.inr ⟨hc,g,g0,rfl,g1.ny,gI⟩⟩ r1,r2⟩

end
end

section
open Go.Proofs Go.Am.Sc
set_option maxRecDepth 100000
set_option maxHeartbeats 4000000

section
variable {env:List D} {h l x:E} {dh dl d:D} {e n:Nat}
theorem Qk (hh:h.eval env=some dh)(hl:l.eval env=some dl)(hd:D.dR e n dh dl=some d):(E.dR e n h l).eval env=some d:=by simp only[E.eval,hh,hl,A0d,hd]
theorem Hw {d0:D}(hh:h.eval env=some dh)(hd:D.rep n dh d0=some d):(E.rep n h d0).eval env=some d:=by simp only[E.eval,hh,A0d,hd]
theorem EY (hh:h.eval env=some dh)(hl:l.eval env=some dl)(hd:D.cY dh dl=some d):(E.cY h l).eval env=some d:=by simp only[E.eval,hh,hl,A0d,hd]
theorem T4 {y z:E}{dy dz:D}(hh:h.eval env=some dh)(hy:y.eval env=some dy)(hz:z.eval env=some dz)(hd:D.eY n dh dy dz=some d):(E.eY n h y z).eval env=some d:=by simp only[E.eval,hh,hy,hz,A0d,hd]
end

theorem abx {n:Nat}(hn:n≤200):D.rep 8 (In n) (I 0)=some (.a_ (List.replicate n (I 0))):=by
 have h1:(maxLen:Nat)=9223372036854775807:=rfl
 simp only[D.rep,Int.toNat_natCast]
 rw[if_pos ⟨by omega,by omega,by omega⟩]

theorem vV (n:Nat)(x:Int):bI (List.replicate n (I x))=List.replicate n (I x):=by
 induction n with
 | zero=>rfl
 | succ n ih=>rw[List.replicate_succ,show bI (I x :: List.replicate n (I x))=I x :: bI (List.replicate n (I x)) from rfl,ih]

theorem WZ {n:Nat}:D.dR 3 1 (.st []) (.a_ (List.replicate n (I 0)))=some (.st [oB (List.replicate n 0)]):=by
 have h1:bM 1 (List.replicate n (I 0))=true:=by simp[bM,D.cells]
 have h2:(bI (List.replicate n (I 0))).all (·.one)=true:=by rw[vV];simp[D.one]
 simp only[D.dR,h1,h2,and_self,if_true,A0r]
 rw[vV,oB,List.map_replicate]

def fo (n i:Nat):List Int:=List.replicate i inf++List.replicate (n-i) 0
theorem TX {n i:Nat}(h:i<n):(fo n i).set i inf=fo n (i+1):=by
 unfold fo
 rw[List.set_append_right _ _ (by simp),List.length_replicate,Nat.sub_self,show n-i=(n-(i+1))+1 by omega,List.replicate_succ,List.set_cons_zero,List.replicate_succ',B0b]
 rfl
theorem TY (n:Nat):fo n n=List.replicate n inf:=by simp[fo]
theorem NK {n i:Nat}(h:i≤n):(fo n i).length=n:=by simp[fo];omega

theorem xA {st:List D}{out:List Int}{k:Nat}{b:Int}(h:st[0]? = some (oB out))(hk:k<out.length):D.eY 1 (.st st) (.loc 0 (k*1)) (I b)=some (.st (st.set 0 (oB (out.set k b)))):=by
 rw[Nat.mul_one,jq h (by simpa using hk) rfl,oB,List.map_set]
theorem u3 {st:List D}{out:List Int}{k:Nat}(h:st[0]? = some (oB out))(hk:k<out.length):D.ld false 1 (.st st) (.loc 0 (k*1))=some (I (gt out k)):=by
 rw[Nat.mul_one]
 refine cj h ?_
 simp[gt,A0i,hk]

structure Next (n:Nat)(f fi:Nat)(cs:List D)(cap:Int→Int→List D)(nx:Int→Int→List (Int×Int)):Prop where
 cal:bu Tryz.prog f=true
 afa:bu Tryz.prog fi=true
 call:∀bs u a,aU Tryz.prog f (.st bs) ([I u,I a]++cs) (.fn fi [] (cap u a))
 iter:∀u a,-5000000≤a∧a≤5000000→∀(m0:Nat) (rec:Loop) (sl:List Nat) (cU:List D) (g:Nat→List D),(∀k (h:k<(nx u a).length),nI Tryz.prog (.yl m0 rec sl cU) (.st (g k)) [yD (nx u a)[k]] (.st (g (k+1)))) →
  bt Tryz.prog fi (.st (g 0)) ([.yl m0 rec sl cU]++cap u a) (.aM []) (.st (g (nx u a).length))
 ny:aT cs=true
 nyc:∀u a,aT (cap u a)=true

def st0 (n:Nat)(k:Nat)(b:Int):List D:=[oB ((List.replicate n inf).set k b),.bh 22 1 [.sl 0 0 n],HB [((k:Int),b)] [],.bh 250 1 [.sl 2 0 1],.bh 252 1 [.fq 248 (.loc 3 0)]]

variable {n:Nat} {nx:Int→Int→List (Int×Int)} {f fi:Nat} {cs:List D} {cap:Int→Int→List D}

theorem c81 (hn:1≤n∧n≤200)(N:Next n f fi cs cap nx){k0:Nat}{b0:Int}(Aq:k0<n){m:Nat}{cG:List D}(hr:Rn n (OS n nx) m (st0 n k0 b0) cG):bt Tryz.prog 81 (.st []) [In n,yD ((k0:Int),b0),.fn f [] cs] (.sl 0 0 n) (.st cG):=by
 have aG:=abx hn.2
 have Rk:D.cY (.st []) (.a_ (List.replicate n (I 0)))=some (.sl 0 0 n):=by simp[D.cY]
 have hv:∀out:List Int,([oB out,D.bh 22 1 [.sl 0 0 n]]:List D)[1]? = some (.bh 22 1 [.sl 0 0 n]):=fun _=>rfl
 have ho:∀out:List Int,([oB out,D.bh 22 1 [.sl 0 0 n]]:List D)[0]? = some (oB out):=fun _=>rfl
 refine acU.W rfl ?_
 unfold u81
 simp only[aP,bg,A0q,A0r]
 repeat' (first|(apply cw;rfl)|(apply bk;(·first|exact Qk rfl (Hw rfl aG) WZ|exact T4 rfl rfl (EY rfl (Hw rfl aG) Rk) rfl);simp only[az];rfl)|(apply bk;rfl;simp only[az];rfl)|refine aK ?_)
 refine dX (fun i=>[In i,.st [oB (fo n i),.bh 22 1 [.sl 0 0 n]]]) (fun _=>True) n rfl (fun _=>rfl) trivial (fun i hi hJ R hR=>?_) (fun hJ R=>?_)
 ·have iS:decide ((i:Int)<(n:Int))=true:=by simp;omega
  have hs:=xA (b:=inf) (ho (fo n i)) (k:=i) (by rw[NK (by omega)];exact hi)
  rw[TX hi] at hs
  repeat' (first|(apply eZ;simp only[az];rfl)|(apply bK;rfl;exact iS)|(apply kP;rfl;rfl;(·exact cj (hv _) rfl);simp only[az];rfl)|(apply bG;rfl;rfl;exact fy hi;simp only[az];rfl)|(apply kJ;rfl;rfl;rfl;exact hs;simp only[az];rfl)|(apply eT;rfl;omega;simp only[az];rfl)|(apply bk;rfl;simp only[az];rfl)|refine aK ?_|(apply aR;rfl;rfl)|refine aF ?_|refine kj rfl ?_)
  exact hR trivial
 ·have iS:decide ((n:Int)<(n:Int))=false:=by simp
  have hs:D.eY 1 (.st [oB (fo n n),.bh 22 1 [.sl 0 0 n]]) (.loc 0 (k0*1)) (I b0)=some (.st [oB ((List.replicate n inf).set k0 b0),.bh 22 1 [.sl 0 0 n]]):=by
   rw[xA (ho (fo n n)) (by rw[NK (by omega)];exact Aq),TY]
   rfl
  repeat' (first|(apply eZ;simp only[az];rfl)|(apply bL;rfl;exact iS)|(apply kP;rfl;rfl;(·exact cj (hv _) rfl);simp only[az];rfl)|(apply bG;rfl;rfl;exact fy Aq;simp only[az];rfl)|(apply kJ;rfl;rfl;rfl;exact hs;simp only[az];rfl)|(apply bk;rfl;simp only[az];rfl)|(apply aR;rfl;rfl)|refine aF ?_|(refine bJ (by decide) ?_)|refine kj rfl ?_)
  refine aK ?_
  refine uo (fun m ds=>∃st,ds=[.st st]∧Rn n (OS n nx) m st cG) rfl m ⟨_,rfl,hr⟩ ?_
  rintro m ds ⟨st,rfl,Dg⟩
  refine⟨rfl,fun R hR=>?_⟩
  cases Dg with
  | stop he=>
   obtain⟨j,e0,e1,e2⟩:=he
   repeat' (first
   |(apply eZ;simp only[az];rfl)
   |(apply bL;rfl;exact rfl)
   |(apply cw;rfl)
   |(apply kP;rfl;rfl;(·first|exact cj e2 rfl|exact cj e0 rfl);simp only[az];rfl)
   |(apply cm;rfl;exact bn;simp only[az];rfl)
   |(apply eT;rfl;omega;simp only[az];rfl)
   |(apply mR;rfl;rfl;omega;simp only[az];rfl)
   |(apply bk;rfl;simp only[az];rfl)
   |(apply bX;rfl;exact Kx (nA rfl rfl (cj e1 rfl)) rfl;exact Oe _;rfl;simp only[az];rfl)
   |refine aK ?_
   |(apply aR;rfl;rfl)
   |refine aF ?_
   |(refine bJ (by decide) ?_)
   |refine kj rfl ?_
   |(apply iz;rfl;all_goals (intro hz;(try simp only[gQ] at hz);first|(exact absurd hz (by decide))|(exfalso;omega)|skip))
   |exact aS rfl rfl
   |(apply aS;rfl;first|exact rfl|(refine oe ?_)|(refine oa ?_)|(refine oc ?_)))
  | step hT hn=>
   obtain⟨out,k,b,sa,m1,j,hk,K5,e3,e4,hw,a0,a1,lY,q9,XU⟩:=hT
   have ht:decide (((m1+1:Nat):Int) > 0)=true:=decide_eq_true (by omega)
   rcases XU with⟨hc,rfl⟩ | ⟨hc,g,g0,gN,gny,gI⟩
   ·have zb:decide (b > gt out k)=true:=decide_eq_true hc
    repeat' (first|(apply eZ;simp only[az];rfl)|(apply bK;rfl;(·first|exact ht|exact zb))|(apply cw;rfl)|(apply kP;rfl;rfl;(·first|exact cj e4 rfl|exact cj a1 rfl|exact u3 a0 (by omega));simp only[az];rfl)|(apply bG;rfl;rfl;exact fy hk;simp only[az];rfl)|(apply bk;rfl;simp only[az];rfl)|(apply bX;rfl;(·exact Kx (nA rfl rfl (cj e3 rfl)) rfl);exact Oe _;rfl;simp only[az];rfl)|(apply gL;rfl;rfl;exact hw;rfl;simp only[az];rfl)|refine aK ?_|(apply aR;rfl;rfl)|refine aF ?_|refine kj rfl ?_)
    exact hR _ _ (Nat.lt_succ_self _) ⟨_,rfl,hn⟩
   ·have zb:decide (b > gt out k)=false:=decide_eq_false hc
    repeat' (first|(apply eZ;simp only[az];rfl)|(apply bK;rfl;exact ht)|(apply bL;rfl;exact zb)|(apply cw;rfl)|(apply kP;rfl;rfl;(·first|exact cj e4 rfl|exact cj a1 rfl|exact u3 a0 (by omega));simp only[az];rfl)|(apply bG;rfl;rfl;exact fy hk;simp only[az];rfl)|(apply bk;rfl;simp only[az];rfl)|(apply bX;rfl;(·exact Kx (nA rfl rfl (cj e3 rfl)) rfl);exact Oe _;rfl;simp only[az];rfl)|(apply BO;rfl;exact N.cal;rfl;rfl;exact N.call _ _ _;rfl;simp only[az];rfl)|(apply gL;rfl;rfl;exact hw;rfl;simp only[az];rfl)|refine aK ?_)
    have aeG:=N.ny
    have TO:=N.nyc k b
    refine BN (.aM []) (.st (g (nx k b).length)) rfl N.afa rfl ?_ (by rw[gN];simpa[D.dG] using gny) (fun cU m0 rec rO=>?_) (by simp only[az];rfl) ?_
    ·repeat' (first|exact CS|((apply zB);(·first|rfl|exact EY rfl (Hw rfl aG) Rk);(·first|rfl|(simp[aT,D.dG,D.cells,aeG,TO];done))))
    ·have:=N.iter k b ⟨lY,q9⟩ m0 rec [0,1,2,7,9,12,13,14,15,16,17,23,25,27,28,30,31,32,33,34,35,36,37,39,40,42,43,44,45,46,48,50,51] cU g fun i hi=>?_
     ·rw[g0] at this
      exact this
     ·obtain⟨out,k',q1,q2,q3,q4,q5,q6,q7,q8⟩:=gI i hi
      generalize(nx k b)[i]=y at q1 q8 ⊢
      obtain⟨y1,b'⟩:=y
      simp only at q1 q8
      subst q1
      generalize g (i+1)=gA at q8 ⊢
      generalize g i=X at q4 q5 q6 q7 q8 ⊢
      refine rO _ _ _ (by simpa[D.dG] using q7) rfl rfl ?_
      have hX:4<X.length:=(A0a.1 q6).1
      obtain⟨Y,hY⟩:∃Y,Y=X++[yB ((k':Int),b')]:=⟨_,rfl⟩
      have r0:Y[0]? = some (oB out):=by rw[hY,A0j (by omega)];exact q4
      have r1:Y[1]? = some (.bh 22 1 [.sl 0 0 n]):=by rw[hY,A0j (by omega)];exact q5
      have r4:Y[4]? = some (.bh 252 1 [.fq 248 (.loc 3 0)]):=by rw[hY,A0j (by omega)];exact q6
      have rX:Y[X.length]? = some (.bh 196 2 [I k',I b']):=by rw[hY];exact List.getElem?_concat_length
      rcases q8 with⟨K_,hw3⟩ | ⟨K_,rfl⟩
      ·have RC:decide (b'<gt out k')=true:=decide_eq_true K_
       rw[←hY] at hw3
       have Df:=xA (b:=b') r0 (k:=k') (by omega)
       have t4:(Y.set 0 (oB (out.set k' b')))[4]? = some (.bh 252 1 [.fq 248 (.loc 3 0)]):=by rw[dZ (by omega)];exact r4
       have tX:(Y.set 0 (oB (out.set k' b')))[X.length]? = some (.bh 196 2 [I k',I b']):=by rw[dZ (by omega)];exact rX
       have hlX:D.ld true 2 (.st (Y.set 0 (oB (out.set k' b')))) (.loc X.length 0)=some (yD ((k':Int),b')):=PB tX (A0m 2)
       subst hY
       repeat' (first|(apply eZ;simp only[az];rfl)|(apply bK;rfl;exact RC)|(apply kP;rfl;rfl;(·first|exact cj rX rfl|exact cj r1 rfl|exact u3 r0 (by omega)|exact cj t4 rfl|exact hlX);simp only[az];rfl)|(apply bG;rfl;rfl;exact fy q2;simp only[az];rfl)|(apply kJ;rfl;rfl;rfl;(·first|exact mc rfl rfl rfl|exact Df);simp only[az];rfl)|(apply bk;rfl;simp only[az];rfl)|(apply gL;rfl;rfl;exact hw3;rfl;simp only[az];rfl)|refine aK ?_|(apply aR;rfl;rfl)|refine aF ?_|refine kj rfl ?_)
       rfl
      ·have RC:decide (b'<gt out k')=false:=decide_eq_false K_
       subst hY
       repeat' (first|(apply eZ;simp only[az];rfl)|(apply bL;rfl;exact RC)|(apply kP;rfl;rfl;(·first|exact cj rX rfl|exact cj r1 rfl|exact u3 r0 (by omega));simp only[az];rfl)|(apply bG;rfl;rfl;exact fy q2;simp only[az];rfl)|(apply kJ;rfl;rfl;rfl;exact mc rfl rfl rfl;simp only[az];rfl)|(apply bk;rfl;simp only[az];rfl)|refine aK ?_|(apply aR;rfl;rfl)|refine aF ?_|refine kj rfl ?_)
       rfl
    ·rw[gN]
     repeat' (first|(apply eZ;simp only[az];rfl)|(apply aR;rfl;rfl)|refine aF ?_|refine kj rfl ?_)
     exact hR _ _ (Nat.lt_succ_self _) ⟨_,rfl,hn⟩
end

section
open Go.Proofs Go.Am.Sc
set_option maxRecDepth 100000
set_option maxHeartbeats 4000000

variable {n:Nat} {nx:Int→Int→List (Int×Int)} {f fi:Nat} {cs:List D} {cap:Int→Int→List D}

theorem TQ {n k:Nat}{b v:Int}(hk:k<n)(h0:0≤v)(h1:v<n):gt ((List.replicate n inf).set k b) v=if v=k then b else inf:=by
 have h:=NB (out:=List.replicate n inf) (u:=k) (v:=v) (a:=b) (by rw[List.length_replicate];omega) h0
 rw[Int.toNat_natCast] at h
 rw[h]
 congr 1
 unfold gt
 rw[A0i,List.getElem?_replicate,if_pos (by omega)]
 rfl

theorem R9 {k:Nat}{b:Int}:Sr (st0 n k b) n ((List.replicate n inf).set k b) 2 [((k:Int),b)] []:=by
 refine⟨rfl,rfl,rfl,⟨rfl,rfl,by simp⟩,?_⟩
 simp only[st0,aT,Bool.and_true,A0g]
 exact⟨IF _,rfl,rfl,rfl,rfl⟩

theorem R_ {k:Nat}{b:Int}(hk:k<n)(hb:b≤100000):SQ n nx ((k:Int),b) ((List.replicate n inf).set k b) [((k:Int),b)]:=by
 have Tr:inf=9223372036854775807:=rfl
 have I8:b≤BE ((List.replicate n inf).set k b):=by unfold BE;omega
 have hg:∀v:Int,0≤v→v<n→gt ((List.replicate n inf).set k b) v=if v=k then b else inf:=fun v h0 h1=>TQ hk h0 h1
 refine⟨by simp,fun v h0 h1 h2=>?_,fun v h0 h1=>?_,fun y hy=>?_,?_,fun v h0 h1 h2=>?_,fun v h0 h1 h2=>?_,fun y hy=>by cases hy⟩
 ·rw[hg v h0 h1] at h2 ⊢
  split
  ·rename_i e;subst e;exact .base
  ·rename_i e;rw[if_neg e] at h2;omega
 ·rw[hg v h0 h1]
  split <;> omega
 ·simp only[List.mem_singleton] at hy
  subst hy
  refine⟨by simp only;omega,by simp only;omega,.base,?_,I8⟩
  rw[hg _ (by simp only;omega) (by simp only;omega),if_pos rfl]
  exact Int.le_refl _
 ·rw[hg _ (by simp only;omega) (by simp only;omega),if_pos rfl]
  exact Int.le_refl _
 ·rw[hg v h0 h1] at h2 ⊢
  by_cases e:v=k
  ·subst e
   rw[if_pos rfl]
   exact .inl (by simp)
  ·rw[if_neg e] at h2;omega
 ·rw[hg v h0 h1] at h2 ⊢
  by_cases e:v=k
  ·subst e
   rw[if_pos rfl]
   exact I8
  ·rw[if_neg e] at h2;omega

theorem VM {k:Nat}{b:Int}(H:Oz n nx ((k:Int),b))(N:Next n f fi cs cap nx):∃cG out,bt Tryz.prog 81 (.st []) [In n,yD ((k:Int),b),.fn f [] cs] (.sl 0 0 n) (.st cG)∧cG[0]? = some (oB out)∧out.length=n∧∀v:Int,0≤v→v<n→Lst nx ((k:Int),b) v (gt out v):=by
 obtain⟨h1,h2,h3,h4⟩:=H
 have hk:k<n:=by have:=h3.2;simp only at this;omega
 have hQ:SQ n nx ((k:Int),b) ((List.replicate n inf).set k b) [((k:Int),b)]:=R_ hk h4.2
 have hp:=LY (lo:=b) h4.1 ((List.replicate n inf).set k b)
 rw[List.length_set,List.length_replicate] at hp
 obtain⟨m,cG,r1,out,j',ys',r2,r3⟩:=outer ⟨h1,h2,h3,h4⟩ 2000000000 (A0m _) (R9 (k:=k) (b:=b)) hQ (by simp only[List.length_singleton];omega)
 exact⟨cG,out,c81 ⟨by omega,h2⟩ N hk r1,r2.o,r3.len,fun v h0 h1'=>SI.found h1 h3 h4.2 r3 h2 h0 h1'⟩

/-! ## both ways -/

variable {rs:List Rd}

theorem xR (rs:List Rd):aT (rs.map Rd.d)=true:=lC fun r _=>by simp[aT,D.dG,Rd.d,L8]
theorem xS (rs:List Rd):dH (rs.map Rd.d)=true:=lN (fun r=>by have:=lN (f:=cD) (fun c=>rfl) r.cls;simp only[dH,D.fO,Rd.d,Bool.true_and,Bool.and_true,this]) rs

def Qy (n:Nat)(rs:List Rd)(u a:Int):List D:=[RR n rs,.ptr [I u],.ptr [I a]]

theorem WW (h:kO n rs):Next n 82 83 [RR n rs] (Qy n rs) (Bc rs):=by
 have h1:=xR rs
 refine⟨by kernel_rfl,by kernel_rfl,fun bs u a=>c82 rs u a,fun u a ha m0 rec sl cU g hy=>c83 h.LS h.len ha g hy,?_,fun u a=>?_⟩ <;> simp[aT,D.dG,Qy,h1]

theorem Sz (h:kO n rs):Next n 182 183 [RR n rs] (Qy n rs) (Gm rs):=by
 have h1:=xR rs
 refine⟨by kernel_rfl,by kernel_rfl,fun bs u a=>afj rs u a,fun u a ha m0 rec sl cU g hy=>afi h.LS h.len ha g hy,?_,fun u a=>?_⟩ <;> simp[aT,D.dG,Qy,h1]

def Ao (g:Int→Int)(out:List Int)(i:Nat):List Int:=(out.take i).map g++out.drop i
theorem sO {g:Int→Int}{out:List Int}{i:Nat}:(Ao g out i).length=out.length:=by simp[Ao];omega
theorem B6 {g:Int→Int}{out:List Int}{i:Nat}(h:i<out.length):gt (Ao g out i) i=gt out i:=by
 unfold gt Ao
 rw[Int.toNat_natCast,A0i,A0i,A0l (by simp;omega)]
 simp
 congr 2
 omega
theorem B5 {g:Int→Int}{out:List Int}{i:Nat}(h:i<out.length):(Ao g out i).set i (g (gt out i))=Ao g out (i+1):=by
 have hg:gt out i=out[i]:=by simp[gt,A0i,h]
 rw[hg]
 unfold Ao
 have hl:((out.take i).map g).length=i:=by simp;omega
 rw[List.set_append_right _ _ (by omega),hl,Nat.sub_self,List.drop_eq_getElem_cons h,List.set_cons_zero,B0a h,List.map_append,B0b]
 rfl
theorem IB {g:Int→Int}{out:List Int}:Ao g out out.length=out.map g:=by simp[Ao]
theorem DL {g:Int→Int}{out:List Int}:Ao g out 0=out:=by simp[Ao]
theorem NC {g:Int→Int}{out:List Int}{v:Int}(h0:0≤v)(h1:v<out.length):gt (out.map g) v=g (gt out v):=by
 unfold gt
 rw[A0i,A0i,A0v,A0f (show v.toNat<out.length by omega)]
 rfl

theorem IK {f:D→Option D}(hf:∀a,f (I a)=some (I a)):∀l:List Int,jK f (l.map I)=some (l.map I)
 | []=>rfl
 | a :: l=>by simp only[List.map_cons,jK,hf,A0d,IK hf l,A0y]

theorem DV {s:List D}{b:Nat}{l:List Int}(h:s[b]? = some (oB l)):gW s 5 (.sl b 0 l.length)=some (Is l):=by
 rw[gW]
 simp only[h,oB]
 rw[if_pos (by simp)]
 simp only[Nat.mul_one,List.drop_zero]
 rw[show(List.map I l).take l.length=List.map I l from List.take_of_length_le (by simp),IK fun a=>by rw[gW]]
 simp

def jJ (a:Int):Int:=if a=inf then -1 else a


def Z4 (rs:List Rd)(s:Int×Int)(v a:Int):Prop:=(a=-1∧∀b,¬mQ (Bc rs) s v b)∨(0≤a∧a≤4000000∧mQ (Bc rs) s v a∧∀b,mQ (Bc rs) s v b→a≤b)

theorem c42 (h:kO n rs){k:Nat}{t:Int}(hk:k<n)(ht:0≤t∧t≤100000):∃out:List Int,out.length=n∧(∀v:Int,0≤v→v<n→Z4 rs ((k:Int),t) v (gt out v))∧∀bs,aU Tryz.prog 42 (.st bs) [Nt n rs,In k,I t] (Is out):=by
 have Tr:inf=9223372036854775807:=rfl
 obtain⟨cG,out,hw,h0,hl,hf⟩:=VM (k:=k) (b:=t) ⟨Gk h.LS,h.RN.2,⟨by simp only;omega,by simp only;omega⟩,⟨by simp only;omega,by simp only;omega⟩⟩ (WW h)
 refine⟨out.map jJ,by simp[hl],fun v v0 v1=>?_,fun bs=>?_⟩
 ·rw[NC v0 (by omega)]
  rcases hf v v0 v1 with⟨a1,a2⟩ | ⟨a1,a2,a3⟩
  ·exact .inl ⟨by rw[a1];rfl,a2⟩
  ·have:=mQ.ge (Gk h.LS) a2
   have e:jJ (gt out v)=gt out v:=by unfold jJ;rw[if_neg (by omega)]
   rw[e]
   exact .inr ⟨by simp only at this;omega,a1,a2,a3⟩
 ·have hst:0<cG.length:=(A0a.1 h0).1
  have hn:=h.RN
  have key:bt Tryz.prog 42 (.st []) [Nt n rs,In k,I t] (.sl 0 0 n) (.st (cG.set 0 (oB (out.map jJ)))):=by
   refine ac4.W rfl ?_
   unfold u42
   simp only[aP,bg,A0q,A0r]
   repeat' (first|(apply cw;rfl)|(apply bk;rfl;simp only[az];rfl)|(apply gL;rfl;rfl;exact hw;rfl;simp only[az];rfl)|refine aK ?_)
   refine dX (fun i=>[In i,.st (cG.set 0 (oB (Ao jJ out i)))]) (fun _=>True) out.length (by rw[DL,lI h0];rfl) (fun _=>rfl) trivial (fun i hi hJ R hR=>?_) (fun hJ R=>?_)
   ·have iS:decide ((i:Int)<(n:Int))=true:=by simp;omega
    have OO:(cG.set 0 (oB (Ao jJ out i)))[0]? = some (oB (Ao jJ out i)):=mg hst
    have OK:=u3 (k:=i) OO (by rw[sO];omega)
    rw[B6 (by omega)] at OK
    have lR:=xA (b:=-1) (k:=i) OO (by rw[sO];omega)
    rw[List.set_set] at lR
    cases hc:(gt out i==inf)
    ·have e:Ao jJ out (i+1)=Ao jJ out i:=by
      rw[←B5 (by omega)]
      have e1:jJ (gt out i)=gt out i:=by unfold jJ;rw[if_neg (by simpa using hc)]
      rw[e1,←B6 (g:=jJ) (out:=out) (i:=i) (by omega)]
      refine List.ext_getElem? fun j=>?_
      rw[A0x]
      split
      ·rename_i ej
       subst ej
       have:i<(Ao jJ out i).length:=by rw[sO];omega
       rw[if_pos this]
       simp[gt,A0i,this]
      ·rfl
     rw[e] at hR
     repeat' (first|(apply eZ;simp only[az];rfl)|(apply bK;rfl;exact iS)|(apply bL;rfl;exact hc)|(apply kP;rfl;rfl;exact OK;simp only[az];rfl)|(apply bG;rfl;rfl;(·exact fy (show i<n by omega));simp only[az];rfl)|(apply eT;rfl;omega;simp only[az];rfl)|(apply bk;rfl;simp only[az];rfl)|refine aK ?_|(apply aR;rfl;rfl)|refine aF ?_|refine kj rfl ?_)
     exact hR trivial
    ·have e1:jJ (gt out i)=-1:=by unfold jJ;rw[if_pos (by simpa using hc)]
     have e2:=B5 (g:=jJ) (out:=out) (i:=i) (by omega)
     rw[e1] at e2
     rw[e2] at lR
     repeat' (first|(apply eZ;simp only[az];rfl)|(apply bK;rfl;(·first|exact iS|exact hc))|(apply kP;rfl;rfl;exact OK;simp only[az];rfl)|(apply bG;rfl;rfl;(·exact fy (show i<n by omega));simp only[az];rfl)|(apply kJ;rfl;rfl;rfl;exact lR;simp only[az];rfl)|(apply eT;rfl;omega;simp only[az];rfl)|(apply bk;rfl;simp only[az];rfl)|refine aK ?_|(apply aR;rfl;rfl)|refine aF ?_|refine kj rfl ?_)
     exact hR trivial
   ·have iS:decide ((out.length:Int)<(n:Int))=false:=by simp;omega
    rw[IB]
    repeat' (first|(apply eZ;simp only[az];rfl)|(apply bL;rfl;exact iS)|(apply bk;rfl;simp only[az];rfl)|(apply aR;rfl;rfl)|refine aF ?_|(refine bJ (by decide) ?_)|refine kj rfl ?_|exact aS rfl rfl)
  have hm:=DV (s:=cG.set 0 (oB (out.map jJ))) (b:=0) (l:=out.map jJ) (mg hst)
  rw[List.length_map,hl] at hm
  exact key.gW (by have:=xS rs;simp only[dH,D.fO,Nt,Bool.true_and,Bool.and_true,this]) hm bs

def Ltt (rs:List Rd)(s:Int×Int)(v a:Int):Prop:=(a=-inf∧∀b,¬mQ (Gm rs) s v b)∨(-4000000≤a∧a≤-s.2∧mQ (Gm rs) s v (-a)∧∀b,mQ (Gm rs) s v b→b≥-a)

theorem afn (h:kO n rs){k:Nat}{t:Int}(hk:k<n)(ht:0≤t∧t≤200000):∃out:List Int,out.length=n∧(∀v:Int,0≤v→v<n→Ltt rs ((k:Int),-t) v (gt out v))∧∀bs,aU Tryz.prog 140 (.st bs) [Nt n rs,In k,I t] (Is out):=by
 have Tr:inf=9223372036854775807:=rfl
 obtain⟨cG,out,hw,h0,hl,hf⟩:=VM (k:=k) (b:=-t) ⟨Gl h.LS,h.RN.2,⟨by simp only;omega,by simp only;omega⟩,⟨by simp only;omega,by simp only;omega⟩⟩ (Sz h)
 refine⟨out.map (- ·),by simp[hl],fun v v0 v1=>?_,fun bs=>?_⟩
 ·rw[NC v0 (by omega)]
  rcases hf v v0 v1 with⟨a1,a2⟩ | ⟨a1,a2,a3⟩
  ·exact .inl ⟨by rw[a1],a2⟩
  ·have:=mQ.ge (Gl h.LS) a2
   refine .inr ⟨by omega,by simp only at this ⊢;omega,by rw[Int.neg_neg];exact a2,fun b hb=>by rw[Int.neg_neg];exact a3 b hb⟩
 ·have hst:0<cG.length:=(A0a.1 h0).1
  have hn:=h.RN
  have key:bt Tryz.prog 140 (.st []) [Nt n rs,In k,I t] (.sl 0 0 n) (.st (cG.set 0 (oB (out.map (- ·))))):=by
   refine Xo.W rfl ?_
   unfold Vu
   simp only[aP,bg,A0q,A0r]
   repeat' (first|(apply cw;rfl)|(apply bk;(·exact CR rfl (by omega));simp only[az];rfl)|(apply bk;rfl;simp only[az];rfl)|(apply gL;rfl;rfl;exact hw;rfl;simp only[az];rfl)|refine aK ?_)
   refine dX (fun i=>[In i,.st (cG.set 0 (oB (Ao (- ·) out i)))]) (fun _=>True) out.length (by rw[DL,lI h0];rfl) (fun _=>rfl) trivial (fun i hi hJ R hR=>?_) (fun hJ R=>?_)
   ·have iS:decide ((i:Int)<(n:Int))=true:=by simp;omega
    have OO:(cG.set 0 (oB (Ao (- ·) out i)))[0]? = some (oB (Ao (- ·) out i)):=mg hst
    have OK:=u3 (k:=i) OO (by rw[sO];omega)
    rw[B6 (by omega)] at OK
    have lR:=xA (b:=-(gt out i)) (k:=i) OO (by rw[sO];omega)
    rw[List.set_set] at lR
    have e2:=B5 (g:=(- ·)) (out:=out) (i:=i) (by omega)
    have e3:(Ao (- ·) out i).set i (-(gt out i))=Ao (- ·) out (i+1):=e2
    rw[e3] at lR
    have hbd:-9223372036854775808<gt out i∧gt out i≤9223372036854775808:=by
     rcases hf i (by omega) (by omega) with⟨a1,a2⟩ | ⟨a1,a2,a3⟩
     ·omega
     ·have:=mQ.ge (Gl h.LS) a2
      simp only at this
      omega
    repeat' (first|(apply eZ;simp only[az];rfl)|(apply bK;rfl;exact iS)|(apply kP;rfl;rfl;exact OK;simp only[az];rfl)|(apply bG;rfl;rfl;(·exact fy (show i<n by omega));simp only[az];rfl)|(apply kJ;rfl;rfl;rfl;exact lR;simp only[az];rfl)|(apply eT;rfl;omega;simp only[az];rfl)|(apply bk;exact CR rfl hbd;simp only[az];rfl)|(apply bk;rfl;simp only[az];rfl)|refine aK ?_|(apply aR;rfl;rfl)|refine aF ?_|refine kj rfl ?_)
    exact hR trivial
   ·have iS:decide ((out.length:Int)<(n:Int))=false:=by simp;omega
    rw[IB]
    repeat' (first|(apply eZ;simp only[az];rfl)|(apply bL;rfl;exact iS)|(apply bk;rfl;simp only[az];rfl)|(apply aR;rfl;rfl)|refine aF ?_|(refine bJ (by decide) ?_)|refine kj rfl ?_|exact aS rfl rfl)
  have hm:=DV (s:=cG.set 0 (oB (out.map (- ·)))) (b:=0) (l:=out.map (- ·)) (mg hst)
  rw[List.length_map,hl] at hm
  exact key.gW (by have:=xS rs;simp only[dH,D.fO,Nt,Bool.true_and,Bool.and_true,this]) hm bs

attribute [local irreducible] gY

theorem c16 (h:kO n rs){k:Nat}{t:Int}(hk:k<n)(ht:0≤t∧t≤100000):∃out:List Int,out.length=n∧(∀v:Int,0≤v→v<n→Z4 rs ((k:Int),t) v (gt out v))∧∀bs,aU Tryz.prog 16 (.st bs) [Nt n rs,In k,I t] (.aM [Is out,I 0]):=by
 obtain⟨out,h1,h2,h3⟩:=c42 h hk ht
 refine⟨out,h1,h2,fun bs=>?_⟩
 have hn:=h.RN
 have e1:(!((0:Int)==0)||!gY (k:Int) 0 ((n:Int)-1)||!gY t 0 100000)=false:=by
  rw[gq.2 (by omega),gq.2 ht];rfl
 refine ade.R rfl rfl ?_
 unfold u16
 simp only[aP,bg,A0q,A0r]
 repeat' (first|(apply eZ;simp only[az];rfl)|(apply bL;rfl;exact e1)|(apply cw;rfl)|(apply jl;rfl;rfl;omega;simp only[az];rfl)|(apply bk;rfl;simp only[az];rfl)|(apply bX;rfl;rfl;(·first|exact c40 h|exact Um _ _ _|exact h3 _);rfl;simp only[az];rfl)|(apply gm;rfl)|exact aS rfl rfl|(intro hz;(try simp only[gQ] at hz)))
end

section
section
variable {n:Nat} {rs:List Rd} {vs:List Vh} {z:Zn} {t s:Int} {v:Vh}

def Ou (a b:Int):Int:=((Oo .and .i64 a b).getD 0)
def abl (z:Zn)(v:Vh):Bool:=Ou v.C_ z.kL==z.kL

def CW (rs:List Rd)(z:Zn)(t:Int)(v:Vh):Prop:=v.lo≤t∧t<v.hi∧abl z v=true∧∃a,mQ (Bc rs) (v.pos,t) z.pos a∧a≤t+z.win
def Lb (rs:List Rd)(vs:List Vh)(z:Zn)(t:Int):Prop:=∃v∈vs,CW rs z t v

structure Kno (n:Nat)(rs:List Rd)(z:Zn)(t:Int)(la ar:Int→Int):Prop where
 lat:∀p:Int,0≤p→p<n→Ltt rs (z.pos,-(t+z.win)) p (la p)
 arr:∀p:Int,0≤p→p<n→Z4 rs (p,t) z.pos (ar p)

def fv (z:Zn)(t:Int)(la ar:Int→Int)(x:Int×Int×Bool)(v:Vh):Int×Int×Bool:=
 if !abl z v||decide (t≥v.hi) then x
 else if t<v.lo then(min x.1 v.lo,x.2)
 else if la v.pos≥t then(x.1,max x.2.1 (min (la v.pos+1) v.hi),true)
 else if ar v.pos≥0 then(min x.1 (max (t+1) (ar v.pos-z.win)),x.2)
 else x

structure Uy (rs:List Rd)(vs:List Vh)(z:Zn)(H t:Int)(ws:List Vh)(x:Int×Int×Bool):Prop where
 nx:t<x.1∧x.1≤H
 to:t≤x.2.1∧x.2.1≤5000000
 no:x.2.2=false→∀v∈ws,∀s,t≤s→s<x.1→¬CW rs z s v
 yes:x.2.2=true→t<x.2.1∧∀s,t≤s→s<x.2.1→Lb rs vs z s
 nto:x.2.2=false→x.2.1=t

variable {H:Int} {la ar:Int→Int} {ws:List Vh} {x:Int×Int×Bool}

theorem Uy.step (hN:kO n rs)(K:Kno n rs z t la ar)(h:Uy rs vs z H t ws x)(hv:v∈vs)(hp:0≤v.pos∧v.pos<n)(hh:v.hi≤100000)(ht:0≤t):Uy rs vs z H t (ws++[v]) (fv z t la ar x v):=by
 obtain⟨h1,h2,h3,h4,h5⟩:=h
 have hla:=K.lat v.pos hp.1 hp.2
 have har:=K.arr v.pos hp.1 hp.2
 have nov:∀(lim:Int),lim≤x.1→(∀s,t≤s→s<lim→¬CW rs z s v)→x.2.2=false→∀w∈ws++[v],∀s,t≤s→s<lim→¬CW rs z s w:=by
  intro lim hl hn hx w hw s hs jH
  rcases B0p.1 hw with hw | hw
  ·exact h3 hx w hw s hs (by omega)
  ·simp only[List.mem_singleton] at hw
   subst hw
   exact hn s hs jH
 unfold fv
 split
 ·rename_i hc
  refine⟨h1,h2,nov x.1 (Int.le_refl _) (fun s hs jH qB=>?_),h4,h5⟩
  obtain⟨c1,c2,c3,_⟩:=qB
  rw[c3] at hc
  simp only[Bool.not_true,Bool.false_or,decide_eq_true_eq] at hc
  omega
 ·rename_i hc
  simp only[Bool.or_eq_true,Bool.not_eq_true',decide_eq_true_eq,not_or,Bool.not_eq_false] at hc
  obtain⟨ha,hc⟩:=hc
  split
  ·rename_i hlo
   refine⟨⟨by simp only;omega,by simp only;omega⟩,h2,nov _ (by omega) (fun s hs jH qB=>?_),h4,h5⟩
   have:=qB.1
   omega
  ·rename_i hlo
   split
   ·rename_i adX
    rcases hla with⟨g1,_⟩ | ⟨g1,g2,g3,g4⟩
    ·have:inf=9223372036854775807:=rfl
     omega
    ·refine⟨h1,⟨by simp only;omega,by simp only;omega⟩,fun hx=>by simp at hx,fun _=>⟨by simp only;omega,fun s hs jH=>?_⟩,fun hx=>by simp at hx⟩
     simp only at jH
     by_cases hold:s<x.2.1
     ·cases hb:x.2.2
      ·have:=h5 hb;omega
      ·exact(h4 hb).2 s hs hold
     ·obtain⟨a,k1,k2⟩:=Qh hN.LS g3 s (by omega)
      exact⟨v,hv,by omega,by omega,ha,a,k1,by omega⟩
   ·rename_i adX
    have Rb:∀s,t≤s→CW rs z s v→∃a,mQ (Bc rs) (v.pos,t) z.pos a∧a≤s+z.win∧t<s:=by
     intro s hs qB
     obtain⟨_,_,_,a',k1,k2⟩:=qB
     obtain⟨a,k3,k4⟩:=mQ.later (Gk hN.LS) hs k1
     refine⟨a,k3,by omega,?_⟩
     by_cases e:t<s
     ·exact e
     ·exfalso
      have e:s=t:=by omega
      subst e
      obtain⟨b',k5,k6⟩:=QA hN.LS (z:=z.pos) (e:=-(s+z.win)) k3 (-(s+z.win)) .base (by omega)
      rcases hla with⟨g1,g2⟩ | ⟨g1,g2,g3,g4⟩
      ·exact g2 _ k5
      ·have:=g4 _ k5
       omega
    split
    ·rename_i aeo
     rcases har with⟨g1,_⟩ | ⟨g1,g2,g3,g4⟩
     ·omega
     ·refine⟨⟨by simp only;omega,by simp only;omega⟩,h2,nov _ (by omega) (fun s hs jH qB=>?_),h4,h5⟩
      obtain⟨a,k1,k2,k3⟩:=Rb s hs qB
      have:=g4 _ k1
      omega
    ·rename_i aeo
     rcases har with⟨g1,g2⟩ | ⟨g1,g2,g3,g4⟩
     ·refine⟨h1,h2,nov _ (Int.le_refl _) (fun s hs jH qB=>?_),h4,h5⟩
      obtain⟨a,k1,k2,k3⟩:=Rb s hs qB
      exact g2 _ k1
     ·omega

def Kr (z:Zn)(H t:Int)(la ar:Int→Int)(ws:List Vh):Int×Int×Bool:=ws.foldl (fv z t la ar) (H,t,false)

theorem EP (la ar:Int→Int)(ws:List Vh)(v:Vh):Kr z H t la ar (ws++[v])=fv z t la ar (Kr z H t la ar ws) v:=by
 unfold Kr
 rw[List.foldl_append]
 rfl

theorem YA (hN:kO n rs)(K:Kno n rs z t la ar)(hvs:∀v∈vs,0≤v.pos∧v.pos<n∧v.hi≤100000)(ht:0≤t∧t<H)(hH:H≤100000)(k:Nat):Uy rs vs z H t (vs.take k) (Kr z H t la ar (vs.take k)):=by
 induction k with
 | zero=>
  refine⟨⟨ht.2,Int.le_refl _⟩,⟨Int.le_refl _,by show t≤_;omega⟩,fun _ v hv=>(by simp at hv),fun h=>(by cases h),fun _=>rfl⟩
 | succ k ih=>
  by_cases hk:k<vs.length
  ·rw[B0a hk,EP]
   have hm:=List.getElem_mem hk
   obtain⟨v1,v2,v3⟩:=hvs _ hm
   exact ih.step hN K hm ⟨v1,v2⟩ v3 ht.1
  ·rw[List.take_of_length_le (by omega)]
   rw[List.take_of_length_le (by omega)] at ih
   exact ih

def OG (H t:Int)(x:Int×Int×Bool):Int:=min (if x.2.2=true then x.2.1 else max (t+1) x.1) H

theorem LX (h:Uy rs vs z H t vs x)(ht:t<H):t<OG H t x∧OG H t x≤H∧∀s,t≤s→s<OG H t x→(Lb rs vs z s↔x.2.2=true):=by
 obtain⟨h1,h2,h3,h4,h5⟩:=h
 unfold OG
 cases hb:x.2.2
 ·rw[if_neg (by decide)]
  refine⟨by omega,by omega,fun s hs jH=>⟨fun hc=>?_,fun h=>(by cases h)⟩⟩
  obtain⟨v,hv,hc⟩:=hc
  exact absurd hc (h3 hb v hv s hs (by omega))
 ·rw[if_pos rfl]
  obtain⟨h6,h7⟩:=h4 hb
  exact⟨by omega,by omega,fun s hs jH=>⟨fun _=>rfl,fun _=>h7 s hs (by omega)⟩⟩

def QW (X:Int→Int×Int×Bool)(H:Int):Nat→Int→List (Int×Int×Bool)
 | 0,_=>[]
 | m+1,t=>if t<H then(t,OG H t (X t),(X t).2.2) :: QW X H m (OG H t (X t)) else[]

inductive OC (C:Int→Prop) (H:Int):Int→List (Int×Int×Bool)→Prop
 | nil:OC C H H []
 | cons {t t':Int} {c:Bool} {l:List (Int×Int×Bool)} (h:t<t') (h2:t'≤H) (hc:∀s,t≤s→s<t'→(C s↔c=true)) (hl:OC C H t' l):OC C H t ((t,t',c) :: l)

theorem L0 {C:Int→Prop}{X:Int→Int×Int×Bool}(hX:∀t,0≤t→t<H→t<OG H t (X t)∧OG H t (X t)≤H∧∀s,t≤s→s<OG H t (X t)→(C s↔(X t).2.2=true)):∀(m:Nat) (t:Int),0≤t→t≤H→H-t≤m→OC C H t (QW X H m t)
 | 0,t,h0,h1,h2=>by
  have:t=H:=by omega
  subst this
  exact .nil
 | m+1,t,h0,h1,h2=>by
  unfold QW
  split
  ·rename_i h
   obtain⟨g1,g2,g3⟩:=hX t h0 h
   exact .cons g1 g2 g3 (L0 hX m _ (by omega) g2 (by omega))
  ·have:t=H:=by omega
   subst this
   exact .nil

/-! ## gaps -/

def gp (i:Int)(x:List (Int×Int×Int)×Bool)(p:Int×Int×Bool):List (Int×Int×Int)×Bool:=
 if p.2.2 then(x.1,false)
 else if x.2 then(x.1.set (x.1.length-1) ((x.1.getD (x.1.length-1) default).1,(x.1.getD (x.1.length-1) default).2.1,p.2.1),true)
 else(x.1++[(i,p.1,p.2.1)],true)

def Ko (i:Int)(x:List (Int×Int×Int)×Bool)(l:List (Int×Int×Bool)):List (Int×Int×Int)×Bool:=l.foldl (gp i) x

def J2 (gl:List (Int×Int×Int))(s:Int):Prop:=∃g∈gl,g.2.1≤s∧s<g.2.2

theorem CA {gl:List (Int×Int×Int)}{g:Int×Int×Int}{s:Int}:J2 (gl++[g]) s↔J2 gl s∨(g.2.1≤s∧s<g.2.2):=by
 unfold J2
 constructor
 ·rintro⟨x,hx,h⟩
  rcases B0p.1 hx with hx | hx
  ·exact .inl ⟨x,hx,h⟩
  ·simp only[List.mem_singleton] at hx
   exact .inr (hx ▸ h)
 ·rintro(⟨x,hx,h⟩ | h)
  ·exact⟨x,List.mem_append_left _ hx,h⟩
  ·exact⟨g,by simp,h⟩

theorem OC.inv {C:Int→Prop}{H t t0 t':Int}{c:Bool}{l:List (Int×Int×Bool)}(h:OC C H t ((t0,t',c) :: l)):t0=t∧t<t'∧t'≤H∧(∀s,t≤s→s<t'→(C s↔c=true))∧OC C H t' l:=by
 cases h with
 | cons h h2 hc hl=>exact⟨rfl,h,h2,hc,hl⟩

theorem CO {C : Int → Prop} {H i : Int} : ∀ {l : List (Int × Int × Bool)} {t : Int} {gl : List (Int × Int × Int)} {o : Bool}, OC C H t l → (o = true → ∃ Yz g, gl = Yz ++ [g] ∧ g.2.1 ≤ t ∧ g.2.2 = t) →
    ∀ s, J2 (Ko i (gl, o) l).1 s ↔ J2 gl s ∨ (t ≤ s ∧ s < H ∧ ¬ C s)
  | [], t, gl, o, hp, ho, s => by
    cases hp
    show J2 gl s ↔ _
    exact ⟨.inl, fun h => h.elim id fun h => by omega⟩
  | (t0, t', c) :: l, t, gl, o, hp, ho, s => by
    obtain ⟨Rj, h, h2, hc, hl⟩ := hp.inv
    subst Rj
    have e : Ko i (gl, o) ((t0, t', c) :: l) = Ko i (gp i (gl, o) (t0, t', c)) l := rfl
    rw [e]
    have hsp : (t0 ≤ s ∧ s < H ∧ ¬ C s) ↔ (t0 ≤ s ∧ s < t' ∧ ¬ C s) ∨ (t' ≤ s ∧ s < H ∧ ¬ C s) := by
      constructor
      · rintro ⟨a, b, d⟩
        by_cases g : s < t'
        · exact .inl ⟨a, g, d⟩
        · exact .inr ⟨by omega, b, d⟩
      · rintro (⟨a, b, d⟩ | ⟨a, b, d⟩)
        · exact ⟨a, by omega, d⟩
        · exact ⟨by omega, b, d⟩
    rw [hsp]
    cases c with
    | true =>
      have hno : ¬ (t0 ≤ s ∧ s < t' ∧ ¬ C s) := fun ⟨a, b, d⟩ => d ((hc s a b).2 rfl)
      rw [show gp i (gl, o) (t0, t', true) = (gl, false) from rfl, CO hl (fun h => by cases h) s]
      exact ⟨fun h => h.imp id .inr, fun h => h.imp id fun h => h.resolve_left hno⟩
    | false =>
      have hin : (t0 ≤ s ∧ s < t' ∧ ¬ C s) ↔ t0 ≤ s ∧ s < t' := ⟨fun ⟨a, b, _⟩ => ⟨a, b⟩, fun ⟨a, b⟩ => ⟨a, b, fun hC => by have := (hc s a b).1 hC; cases this⟩⟩
      rw [hin, ← or_assoc]
      cases o with
      | true =>
        obtain ⟨Yz, g, rfl, g1, g2⟩ := ho rfl
        have e2 : gp i (Yz ++ [g], true) (t0, t', false) = (Yz ++ [(g.1, g.2.1, t')], true) := by
          unfold gp
          simp [A0i]
        rw [e2, CO hl (fun _ => ⟨Yz, _, rfl, by simp only; omega, rfl⟩) s, CA, CA]
        simp only
        constructor
        · rintro ((h1 | h1) | h1)
          · exact .inl (.inl (.inl h1))
          · by_cases hs : s < t0
            · exact .inl (.inl (.inr ⟨h1.1, by omega⟩))
            · exact .inl (.inr ⟨by omega, h1.2⟩)
          · exact .inr h1
        · rintro (((h1 | h1) | h1) | h1)
          · exact .inl (.inl h1)
          · exact .inl (.inr ⟨h1.1, by omega⟩)
          · exact .inl (.inr ⟨by omega, h1.2⟩)
          · exact .inr h1
      | false =>
        have e2 : gp i (gl, false) (t0, t', false) = (gl ++ [(i, t0, t')], true) := rfl
        rw [e2, CO hl (fun _ => ⟨gl, _, rfl, by simp only; omega, rfl⟩) s, CA]

end
end

section
open Go.Proofs Go.Am.Sc
set_option maxRecDepth 100000
set_option maxHeartbeats 4000000

attribute [local irreducible] gY Gh Ou

variable {n:Nat} {rs:List Rd} {vs:List Vh} {z:Zn} {bs:List D}

theorem sj (a b:Int):D.bin .and .int (I a) (I b)=some (I (Ou a b)):=by unfold Ou;rfl
theorem yf (a b:Int):D.mm false (I a) (I b)=some (I (min a b)):=by
 simp only[D.mm,if_true,B0f,if_false]
 split
 ·rw[Int.min_eq_right (by omega)]
 ·rw[Int.min_eq_left (by omega)]
theorem Gr (a b:Int):D.mm true (I a) (I b)=some (I (max a b)):=by
 simp only[D.mm,if_true]
 split
 ·rw[Int.max_eq_right (by omega)]
 ·rw[Int.max_eq_left (by omega)]

theorem zG {out:List Int}{p:Int}(h0:0≤p)(h1:p<out.length):D.av 1 (Is out) (I p)=some (.ptr [I (gt out p)]):=by
 obtain⟨k,rfl⟩:∃k:Nat,p=k:=⟨p.toNat,by omega⟩
 have:=bR (xs:=out) (enc:=I) (sz:=1) (i:=k) (by omega) rfl
 have hg:gt out k=out[k]'(by omega):=by simp[gt,A0i,show k<out.length by omega]
 rw[hg]
 exact this

def V2 (n:Nat)(rs:List Rd)(vs:List Vh)(z:Zn)(H:Int):List D:=[.ptr [I H],RR n rs,.ptr [I z.pos,I z.kL,I z.win],.ptr [.a_ (vs.map Vh.d)]]
def pcD (p:Int×Int×Bool):D:=.agg [I p.1,I p.2.1,B p.2.2]

theorem c80 (H:Int):aU Tryz.prog 80 (.st bs) [Nt n rs,.a_ (vs.map Vh.d),z.d,I H] (.fn 139 [] (V2 n rs vs z H)):=by
 refine acV.R rfl rfl ?_
 unfold u80
 simp only[aP,bg,A0q,A0r]
 repeat' (first|(apply bk;rfl;simp only[az];rfl)|exact aS rfl rfl)

structure QH (n:Nat)(v:Vh):Prop where
 pos:0≤v.pos∧v.pos<n
 lo:0≤v.lo∧v.lo≤v.hi
 hi:v.hi≤100000
structure Oy (n:Nat)(z:Zn):Prop where
 pos:0≤z.pos∧z.pos<n
 win:0≤z.win∧z.win≤10000

theorem Ln {v:Vh}(h:Jo n v=true):QH n v:=by
 simp only[Jo,U6,Bool.not_eq_true',Bool.or_eq_false_iff,Bool.not_eq_false',decide_eq_false_iff_not] at h
 obtain⟨⟨⟨⟨h1,h2⟩,h3⟩,h4⟩,h5⟩:=h
 have:=gq.1 h1
 exact⟨by omega,by omega,by omega⟩
theorem Lf {z:Zn}(h:Jn n z=true):Oy n z:=by
 simp only[Jn,U4,Bool.not_eq_true',Bool.or_eq_false_iff,Bool.not_eq_false'] at h
 obtain⟨⟨h1,h2⟩,h3⟩:=h
 have:=gq.1 h1
 have:=gq.1 h3
 exact⟨by omega,by omega⟩

theorem Xu (hN:kO n rs)(hz:Oy n z)(H:Int)(hH:H≤100000):∃(LA:Int→List Int) (AL:Int→Int→List Int),∀t,0≤t→t<H →
  (LA t).length=n∧(∀p,(AL t p).length=n∨¬(0≤p∧p<n))∧Kno n rs z t (gt (LA t)) (fun p=>gt (AL t p) z.pos)∧(∀bs,aU Tryz.prog 140 (.st bs) [Nt n rs,I z.pos,I (t+z.win)] (Is (LA t)))∧∀p:Int,0≤p→p<n→∀bs,aU Tryz.prog 42 (.st bs) [Nt n rs,I p,I t] (Is (AL t p)):=by
 have hp:=hz.pos
 have hw:=hz.win
 obtain⟨zp,PF⟩:∃k:Nat,z.pos=k:=⟨z.pos.toNat,by omega⟩
 have hA:∀t:Int,∃la:List Int,0≤t→t<H→la.length=n∧(∀v:Int,0≤v→v<n→Ltt rs (z.pos,-(t+z.win)) v (gt la v))∧∀bs,aU Tryz.prog 140 (.st bs) [Nt n rs,I z.pos,I (t+z.win)] (Is la):=by
  intro t
  by_cases h:0≤t∧t<H
  ·obtain⟨la,h1,h2,h3⟩:=afn hN (k:=zp) (t:=t+z.win) (by omega) (by omega)
   rw[←PF] at h2
   exact⟨la,fun _ _=>⟨h1,h2,fun bs=>by rw[PF];exact h3 bs⟩⟩
  ·exact⟨[],fun h1 h2=>absurd ⟨h1,h2⟩ h⟩
 have hB:∀t p:Int,∃al:List Int,0≤t→t<H→0≤p→p<n→al.length=n∧(∀v:Int,0≤v→v<n→Z4 rs (p,t) v (gt al v))∧∀bs,aU Tryz.prog 42 (.st bs) [Nt n rs,I p,I t] (Is al):=by
  intro t p
  by_cases h:(0≤t∧t<H)∧0≤p∧p<n
  ·obtain⟨k,hk⟩:∃k:Nat,p=k:=⟨p.toNat,by omega⟩
   obtain⟨al,h1,h2,h3⟩:=c42 hN (k:=k) (t:=t) (by omega) (by omega)
   rw[←hk] at h2
   exact⟨al,fun _ _ _ _=>⟨h1,h2,fun bs=>by rw[hk];exact h3 bs⟩⟩
  ·exact⟨[],fun h1 h2 h3 h4=>absurd ⟨⟨h1,h2⟩,h3,h4⟩ h⟩
 obtain⟨LA,hLA⟩:=Classical.axiomOfChoice hA
 have hB':=fun t=>Classical.axiomOfChoice (hB t)
 obtain⟨AL,hAL⟩:=Classical.axiomOfChoice hB'
 refine⟨LA,AL,fun t h0 h1=>?_⟩
 obtain⟨k1,k2,k3⟩:=hLA t h0 h1
 refine⟨k1,fun p=>?_,⟨k2,fun p p0 p1=>?_⟩,k3,fun p p0 p1=>(hAL t p h0 h1 p0 p1).2.2⟩
 ·by_cases h:0≤p∧p<n
  ·exact .inl (hAL t p h0 h1 h.1 h.2).1
  ·exact .inr h
 ·exact(hAL t p h0 h1 p0 p1).2.1 z.pos hp.1 hp.2

theorem afo (hN:kO n rs)(hz:Oy n z)(hvs:∀v∈vs,QH n v)(hL:vs.length≤60){H:Int}(hH:0≤H∧H≤100000) :
  ∃ps,OC (Lb rs vs z) H 0 ps∧∀{m0:Nat} {rec:Loop} {sl:List Nat} {cU:List D} (g:Nat→List D),(∀k (h:k<ps.length),nI Tryz.prog (.yl m0 rec sl cU) (.st (g k)) [pcD ps[k]] (.st (g (k+1)))) →
   bt Tryz.prog 139 (.st (g 0)) ([.yl m0 rec sl cU]++V2 n rs vs z H) (.aM []) (.st (g ps.length)):=by
 obtain⟨LA,AL,hK⟩:=Xu (rs:=rs) hN hz H hH.2
 obtain⟨X,hX⟩:∃X,X=fun t=>Kr z H t (gt (LA t)) (fun p=>gt (AL t p) z.pos) vs:=⟨_,rfl⟩
 have adz:∀v∈vs,0≤v.pos∧v.pos<n∧v.hi≤100000:=fun v hv=>⟨(hvs v hv).pos.1,(hvs v hv).pos.2,(hvs v hv).hi⟩
 have hF:∀t,0≤t→t<H→∀k,Uy rs vs z H t (vs.take k) (Kr z H t (gt (LA t)) (fun p=>gt (AL t p) z.pos) (vs.take k)):=fun t h0 h1 k=>YA hN (hK t h0 h1).2.2.1 adz ⟨h0,h1⟩ hH.2 k
 have hXF:∀t,0≤t→t<H→Uy rs vs z H t vs (X t):=fun t h0 h1=>by
  have:=hF t h0 h1 vs.length
  rw[List.take_length] at this
  rw[hX]
  exact this
 refine⟨QW X H H.toNat 0,L0 (fun t h0 h1=>LX (hXF t h0 h1) h1) _ _ (Int.le_refl _) hH.1 (by omega),fun {m0 rec sl cU} g hy=>?_⟩
 generalize hps:QW X H H.toNat 0=ps at hy ⊢
 have PF:=hz.pos
 have hzw:=hz.win
 refine Xp.W rfl ?_
 unfold Vv
 simp only[aP,bg,A0q,A0r,V2]
 repeat' ((with_reducible refine aK ?_))
 refine uo (fun m ds=>∃t k,ds=[I t,.st (g k)]∧0≤t∧t≤H∧H-t≤m∧k≤ps.length∧ps.drop k=QW X H m t) rfl H.toNat ⟨0,0,rfl,Int.le_refl _,hH.1,by omega,Nat.zero_le _,hps.symm⟩ ?_
 rintro m ds ⟨t,k,rfl,Rj,htH,hm,hk,hd⟩
 refine⟨rfl,fun R hR=>?_⟩
 by_cases hlt:t<H
 ·obtain⟨m,rfl⟩:∃m',m=m'+1:=⟨m-1,by omega⟩
  have iS:decide (t<H)=true:=decide_eq_true hlt
  obtain⟨kl,ka,kk,Xy,k42⟩:=hK t Rj hlt
  have hFt:=hF t Rj hlt
  have hXt:=hXF t Rj hlt
  obtain⟨pt1,UF,_⟩:=LX hXt hlt
  rw[QW,if_pos hlt] at hd
  have I5:k<ps.length:=by
   rcases Nat.lt_or_ge k ps.length with h | h
   ·exact h
   ·rw[List.drop_eq_nil_of_le h] at hd;cases hd
  rw[List.drop_eq_getElem_cons I5] at hd
  injection hd with CK hd2
  have Ew:=hy k I5
  rw[CK] at Ew
  have hXe:X t=Kr z H t (gt (LA t)) (fun p=>gt (AL t p) z.pos) (vs.take vs.length):=by rw[List.take_length,hX]
  generalize LA t=la at kl kk Xy hFt hXe
  generalize AL t=al at ka kk k42 hFt hXe
  have key:∀i (hi:i<vs.length),Kr z H t (gt la) (fun p=>gt (al p) z.pos) (vs.take (i+1))=fv z t (gt la) (fun p=>gt (al p) z.pos) (Kr z H t (gt la) (fun p=>gt (al p) z.pos) (vs.take i)) vs[i]:=fun i hi=>by
   rw[B0a hi,EP]
  repeat' (first|(apply eZ;simp only[az];rfl)|(apply bK;rfl;exact iS)|(apply cw;rfl)|(apply cm;rfl;exact bn;simp only[az];rfl)|(apply mR;rfl;rfl;omega;simp only[az];rfl)|(apply bk;rfl;simp only[az];rfl)|(apply bX;rfl;rfl;exact Xy _;rfl;simp only[az];rfl)|refine aK ?_)
  refine dX (fun i=>[I (Kr z H t (gt la) (fun p=>gt (al p) z.pos) (vs.take i)).1,In i,I (Kr z H t (gt la) (fun p=>gt (al p) z.pos) (vs.take i)).2.1,B (Kr z H t (gt la) (fun p=>gt (al p) z.pos) (vs.take i)).2.2]) (fun _=>True) vs.length rfl (fun _=>rfl) trivial (fun i hi hJ R2 vM=>?_) (fun hJ R2=>?_)
  ·have wk:decide ((i:Int)<(vs.length:Int))=true:=by simp;omega
   have hI:=hFt i
   simp only[key i hi] at vM
   generalize Kr z H t (gt la) (fun p=>gt (al p) z.pos) (vs.take i)=x at hI vM ⊢
   obtain⟨nx,to,c⟩:=x
   obtain⟨⟨hn1,hn2⟩,⟨PN,ht2⟩,_,_,_⟩:=hI
   simp only at hn1 hn2 PN ht2
   have wm:=bR (xs:=vs) (enc:=Vh.d) (sz:=4) hi rfl
   have hv:=hvs _ (List.getElem_mem hi)
   generalize vs[i]=v at vM wm hv
   have MM:=hv.pos
   have hvl:=hv.lo
   have hvh:=hv.hi
   unfold fv at vM
   cases La:(!(Ou v.C_ z.kL==z.kL)||decide (t≥v.hi))
   ·rw[if_neg (by show¬(!(Ou v.C_ z.kL==z.kL)||decide (t≥v.hi))=true;rw[La];decide)] at vM
    by_cases zb:t<v.lo
    ·rw[if_pos zb] at vM
     repeat' (first|(apply eZ;simp only[az];rfl)|(apply bK;rfl;(·first|exact wk|exact decide_eq_true zb))|(apply bL;rfl;exact La)|(apply cw;rfl)|(apply bG;rfl;rfl;exact wm;simp only[az];rfl)|(apply jI;rfl;rfl;exact sj _ _;simp only[az];rfl)|(apply Ls;rfl;rfl;exact yf _ _;simp only[az];rfl)|(apply eT;rfl;omega;simp only[az];rfl)|(apply bk;rfl;simp only[az];rfl)|(apply gm;rfl)|refine aK ?_|(apply aR;rfl;rfl)|refine aF ?_|refine kj rfl ?_|exact aS rfl rfl|(intro hz;(try simp only[gQ] at hz)))
     exact vM trivial
    ·rw[if_neg zb] at vM
     have hla:=kk.lat v.pos MM.1 MM.2
     have T9:=zG (out:=la) MM.1 (by omega)
     by_cases K_:gt la v.pos≥t
     ·rw[if_pos K_] at vM
      have ajn:gt la v.pos≤200000:=by
       rcases hla with⟨g1,_⟩ | ⟨g1,g2,_⟩
       ·have:inf=9223372036854775807:=rfl
        omega
       ·simp only at g2;omega
      repeat' (first|(apply eZ;simp only[az];rfl)|(apply bK;rfl;(·first|exact wk|exact decide_eq_true K_))|(apply bL;rfl;(·first|exact La|exact decide_eq_false zb))|(apply cw;rfl)|(apply bG;rfl;rfl;(·first|exact wm|exact T9);simp only[az];rfl)|(apply jI;rfl;rfl;exact sj _ _;simp only[az];rfl)|(apply Ls;rfl;rfl;(·first|exact yf _ _|exact Gr _ _);simp only[az];rfl)|(apply eT;rfl;omega;simp only[az];rfl)|(apply mR;rfl;rfl;omega;simp only[az];rfl)|(apply bk;rfl;simp only[az];rfl)|(apply gm;rfl)|refine aK ?_|(apply aR;rfl;rfl)|refine aF ?_|refine kj rfl ?_|exact aS rfl rfl|(intro hz;(try simp only[gQ] at hz)))
      exact vM trivial
     ·rw[if_neg K_] at vM
      have har:=kk.arr v.pos MM.1 MM.2
      have YW:=zG (out:=al v.pos) (p:=z.pos) PF.1 (by have:=(ka v.pos).resolve_right (fun h=>h MM);omega)
      have h42:=k42 v.pos MM.1 MM.2
      by_cases RC:gt (al v.pos) z.pos≥0
      ·rw[if_pos RC] at vM
       have ajG:gt (al v.pos) z.pos≤4000000:=by
        rcases har with⟨g1,_⟩ | ⟨g1,g2,_⟩
        ·have:gt (al v.pos) z.pos=-1:=g1
         omega
        ·exact g2
       repeat' (first|(apply eZ;simp only[az];rfl)|(apply bK;rfl;(·first|exact wk|exact decide_eq_true RC))|(apply bL;rfl;(·first|exact La|exact decide_eq_false zb|exact decide_eq_false K_))|(apply cw;rfl)|(apply bG;rfl;rfl;(·first|exact wm|exact T9|exact YW);simp only[az];rfl)|(apply jI;rfl;rfl;exact sj _ _;simp only[az];rfl)|(apply Ls;rfl;rfl;(·first|exact yf _ _|exact Gr _ _);simp only[az];rfl)|(apply eT;rfl;omega;simp only[az];rfl)|(apply mR;rfl;rfl;omega;simp only[az];rfl)|(apply jl;rfl;rfl;omega;simp only[az];rfl)|(apply bk;rfl;simp only[az];rfl)|(apply bX;rfl;rfl;exact h42 _;rfl;simp only[az];rfl)|(apply gm;rfl)|refine aK ?_|(apply aR;rfl;rfl)|refine aF ?_|refine kj rfl ?_|exact aS rfl rfl|(intro hz;(try simp only[gQ] at hz)))
       exact vM trivial
      ·rw[if_neg RC] at vM
       repeat' (first|(apply eZ;simp only[az];rfl)|(apply bK;rfl;exact wk)|(apply bL;rfl;(·first|exact La|exact decide_eq_false zb|exact decide_eq_false K_|exact decide_eq_false RC))|(apply cw;rfl)|(apply bG;rfl;rfl;(·first|exact wm|exact T9|exact YW);simp only[az];rfl)|(apply jI;rfl;rfl;exact sj _ _;simp only[az];rfl)|(apply eT;rfl;omega;simp only[az];rfl)|(apply bk;rfl;simp only[az];rfl)|(apply bX;rfl;rfl;exact h42 _;rfl;simp only[az];rfl)|(apply gm;rfl)|refine aK ?_|(apply aR;rfl;rfl)|refine aF ?_|refine kj rfl ?_|exact aS rfl rfl|(intro hz;(try simp only[gQ] at hz)))
       exact vM trivial
   ·rw[if_pos (by exact La)] at vM
    repeat' (first|(apply eZ;simp only[az];rfl)|(apply bK;rfl;(·first|exact wk|exact La))|(apply cw;rfl)|(apply bG;rfl;rfl;exact wm;simp only[az];rfl)|(apply jI;rfl;rfl;exact sj _ _;simp only[az];rfl)|(apply eT;rfl;omega;simp only[az];rfl)|(apply bk;rfl;simp only[az];rfl)|(apply gm;rfl)|refine aK ?_|(apply aR;rfl;rfl)|refine aF ?_|refine kj rfl ?_|exact aS rfl rfl|(intro hz;(try simp only[gQ] at hz)))
    exact vM trivial
  ·have wk:decide ((vs.length:Int)<(vs.length:Int))=false:=by simp
   rw[←hXe]
   generalize X t=x at hXt Ew pt1 UF hd2 ⊢
   obtain⟨nx,to,c⟩:=x
   obtain⟨⟨hn1,hn2⟩,⟨PN,ht2⟩,_,_,_⟩:=hXt
   simp only at hn1 hn2 PN ht2
   unfold OG at Ew pt1 UF hd2
   cases c with
   | true=>
    simp only[if_true] at Ew pt1 UF hd2
    repeat' (first|(apply eZ;simp only[az];rfl)|(apply FU;rfl;rfl;rfl;(·exact⟨rfl,Ew⟩);rfl;simp only[az];rfl)|(apply bL;rfl;(·first|exact wk|exact rfl))|(apply Ls;rfl;rfl;exact yf _ _;simp only[az];rfl)|(apply bk;rfl;simp only[az];rfl)|refine aK ?_|(apply aR;rfl;rfl)|refine aF ?_|(refine bJ (by decide) ?_)|refine kj rfl ?_)
    exact hR _ _ (Nat.lt_succ_self _) ⟨_,_,rfl,by omega,UF,by omega,I5,hd2⟩
   | false=>
    simp only[B0f,if_false] at Ew pt1 UF hd2
    repeat' (first|(apply eZ;simp only[az];rfl)|(apply FU;rfl;rfl;rfl;(·exact⟨rfl,Ew⟩);rfl;simp only[az];rfl)|(apply bK;rfl;exact rfl)|(apply bL;rfl;(·first|exact wk|exact rfl))|(apply Ls;rfl;rfl;(·first|exact yf _ _|exact Gr _ _);simp only[az];rfl)|(apply mR;rfl;rfl;omega;simp only[az];rfl)|(apply bk;rfl;simp only[az];rfl)|refine aK ?_|(apply aR;rfl;rfl)|refine aF ?_|(refine bJ (by decide) ?_)|refine kj rfl ?_)
    exact hR _ _ (Nat.lt_succ_self _) ⟨_,_,rfl,by omega,UF,by omega,I5,hd2⟩
 ·have iS:decide (t<H)=false:=decide_eq_false hlt
  have hend:ps.drop k=[]:=by
   rw[hd]
   cases m with
   | zero=>rfl
   | succ m=>rw[QW,if_neg hlt]
  have hkk:k=ps.length:=by
   have:=List.drop_eq_nil_iff.1 hend
   omega
  subst hkk
  repeat' (first|(apply eZ;simp only[az];rfl)|(apply bL;rfl;exact iS)|(apply bk;rfl;simp only[az];rfl)|(apply aR;rfl;rfl)|refine aF ?_|(refine bJ (by decide) ?_)|refine kj rfl ?_|exact aS rfl rfl)
end

section
open Go.Proofs Go.Am.Sc
set_option maxRecDepth 100000
set_option maxHeartbeats 4000000

attribute [local irreducible] gY Gh Ou

abbrev Gp:=Int×Int×Int
def Kq (g:Gp):List D:=[I g.1,I g.2.1,I g.2.2]
def gD (g:Gp):D:=.agg (Kq g)
theorem wY (g:Gp):(Kq g).length=3:=rfl

abbrev pB (p:Int×Int×Bool):D:=.bh 193 3 [I p.1,I p.2.1,B p.2.2]

def PR (A1 A2:Nat)(i:Nat)(p:Int×Int×Bool)(st cG:List D):Prop:=
 (st++[pB p])[A1]? = some (.bh 3 1 [In i]) ∧
 ((p.2.2=true∧D.eY 1 (.st (st++[pB p])) (.loc A2 0) (B false)=some (.st cG)) ∨
  (p.2.2=false∧(st++[pB p])[A2]? = some (.bh 4 1 [B true])∧∃b m,m≤1000000000000∧(st++[pB p])[0]? = some (.bh 64 1 [.sl b 0 (m+1)])∧D.eY 1 (.st (st++[pB p])) (.loc b (m*3+2)) (I p.2.1)=some (.st cG)) ∨
  (p.2.2=false∧(st++[pB p])[A2]? = some (.bh 4 1 [B false])∧∃s ew s' gA,(st++[pB p])[0]? = some (.bh 64 1 [s])∧D.fC 68 3 24 (.st (st++[pB p])) s (.a_ [.agg [In i,I p.1,I p.2.1]])=some (.st ew)∧D.apps (.st (st++[pB p])) s (.a_ [.agg [In i,I p.1,I p.2.1]])=some s'∧D.eY 1 (.st ew) (.loc 0 0) s'=some (.st gA)∧D.eY 1 (.st gA) (.loc A2 0) (B true)=some (.st cG)))

structure PJ (b1:List D)(A1 A2:Nat)(i:Nat)(st:List D)(x:List Gp×Bool):Prop where
 out:o_ b1 0 64 68 3 Kq st x.1
 vi:st[A1]? = some (.bh 3 1 [In i])
 vo:st[A2]? = some (.bh 4 1 [B x.2])
 ne:x.2=true→x.1≠[]

section
variable {b1 st:List D} {A1 A2 i:Nat} {x:List Gp×Bool}

theorem o_.VQ (h:o_ b1 0 64 68 3 Kq st x.1){k:Nat}{cs:List D}(hk:st[k]? = some (.bh 4 1 cs))(hb:b1.length≤k)(h0:0<b1.length){c:Bool}:o_ b1 0 64 68 3 Kq (st.set k (.bh 4 1 [B c])) x.1:=by
 refine⟨by rw[List.length_set];exact h.len,fun j hj hj0=>by rw[B0l (by omega)];exact h.old j hj hj0,?_,fE _ _ _ h.ny rfl⟩
 obtain⟨s,s1,s2,s3⟩:=h.ov
 refine⟨s,by rw[B0l (by omega)];exact s1,s2.keep fun j hj=>?_,s3⟩
 rw[B0l]
 intro e
 subst e
 have:=s2.bh hj
 rw[hk] at this
 cases this

theorem o_.abq (h:o_ b1 0 64 68 3 Kq st x.1){b m:Nat}(hb:st[b]? = some (.bh 68 3 (x.1.flatMap Kq)))(h64:st[0]? = some (.bh 64 1 [.sl b 0 x.1.length]))(oY:b1.length≤b)(h0:0<b1.length){g:Gp}:o_ b1 0 64 68 3 Kq (st.set b (.bh 68 3 ((x.1.set m g).flatMap Kq))) (x.1.set m g):=by
 have hl:=(A0a.1 hb).1
 refine⟨by rw[List.length_set];exact h.len,fun j hj hj0=>by rw[B0l (by omega)];exact h.old j hj hj0,⟨_,by rw[B0l (by omega)];exact h64,.inr ⟨b,by rw[List.length_set],by rw[List.getElem?_set_self hl]⟩,fun k hk=>by cases hk;exact oY⟩,fE _ _ _ h.ny ?_⟩
 simp only[D.dG]
 have:∀l:List Gp,aT (l.flatMap Kq)=true:=fun l=>by
  induction l with
  | nil=>rfl
  | cons a l ih=>rw[List.flatMap_cons,e_,ih];rfl
 exact this _

theorem PJ.step (h:PJ b1 A1 A2 i st x)(h0:0<b1.length)(hA:b1.length≤A1∧b1.length≤A2∧A1≠A2)(hl:x.1.length≤100000000)(p:Int×Int×Bool):∃cG,PR A1 A2 i p st cG∧PJ b1 A1 A2 i cG (gp i x p):=by
 have hp:=h.out.push h0 (x:=pB p) rfl
 have hA1:=(A0a.1 h.vi).1
 have hA2:=(A0a.1 h.vo).1
 have v1:(st++[pB p])[A1]? = some (.bh 3 1 [In i]):=by rw[A0j hA1];exact h.vi
 have v2:(st++[pB p])[A2]? = some (.bh 4 1 [B x.2]):=by rw[A0j hA2];exact h.vo
 have hne:=h.ne
 obtain⟨gl,o⟩:=x
 simp only at hne v2 hp hl
 unfold gp PR
 generalize hst:st++[pB p]=s1 at hp v1 v2 ⊢
 have hs1:A2<s1.length:=(A0a.1 v2).1
 cases hc:p.2.2
 ·simp only[B0f,if_false,false_and,false_or,true_and]
  cases o with
  | true=>
   simp only[if_true]
   have I6:=hne rfl
   obtain⟨s,q1,q2,q3⟩:=hp.ov
   rcases q2 with⟨q4,_⟩ | ⟨b,rfl,q5⟩
   ·exact absurd q4 I6
   ·obtain⟨m,hm⟩:∃m,gl.length=m+1:=⟨gl.length-1,by have:=List.length_pos_iff.2 I6;omega⟩
    have hgm:gl[m]? = some (gl.getD m default):=by
     rw[A0i,A0f (by omega)]
     rfl
    have adH:=R7 (x':=((gl.getD m default).1,(gl.getD m default).2.1,p.2.1)) (o:=2) (d:=I p.2.1) q5 wY hgm (by decide) rfl rfl
    have hb:=q3 b rfl
    rw[hm,Nat.add_sub_cancel]
    refine⟨_,⟨v1,.inl ⟨v2,b,m,by omega,by rw[←hm];exact q1,adH⟩⟩,⟨o_.abq (x:=(gl,true)) hp q5 q1 hb h0,?_,?_,fun _ e=>?_⟩⟩
    ·rw[B0l]
     ·exact v1
     ·intro e
      subst e
      rw[q5] at v1
      cases v1
    ·rw[B0l]
     ·exact v2
     ·intro e
      subst e
      rw[q5] at v2
      cases v2
    ·have:=congrArg List.length e
     simp at this
     exact I6 this
  | false=>
   simp only[B0f,if_false]
   obtain⟨s,ew,gA,q1,q2,q3,q4,q5,q6,q7⟩:=hp.app h0 (bytes:=24) (x:=(((i:Int),p.1,p.2.1):Gp)) (y:=.agg [In i,I p.1,I p.2.1]) wY rfl rfl rfl (by omega) (by simp[maxLen];omega)
   have w1:=q7 _ _ _ _ v1 (by decide) (by omega)
   have w2:=q7 _ _ _ _ v2 (by decide) (by omega)
   have jH:=jq (d:=B true) w2 (show 0<1 by decide) rfl
   have hA3:=(A0a.1 w2).1
   refine⟨_,⟨v1,.inr ⟨v2,s,ew,_,gA,q1,q2,q3,q4,jH⟩⟩,⟨o_.VQ (x:=(gl++[((i:Int),p.1,p.2.1)],true)) q5 w2 (by omega) h0,?_,by rw[List.getElem?_set_self hA3];rfl,fun _=>by simp⟩⟩
   rw[B0l (Ne.symm hA.2.2)]
   exact w1
 ·simp only[if_true,true_and,Bool.true_eq_false,false_and,or_false]
  have jH:=jq (d:=B false) v2 (show 0<1 by decide) rfl
  refine⟨_,⟨v1,jH⟩,⟨o_.VQ (x:=(gl,false)) hp v2 (by omega) h0,?_,by rw[List.getElem?_set_self hs1];rfl,fun e=>by cases e⟩⟩
  rw[B0l (Ne.symm hA.2.2)]
  exact v1

theorem TR (i:Int)(x:List Gp×Bool)(p:Int×Int×Bool):(gp i x p).1.length≤x.1.length+1:=by
 unfold gp
 split
 ·exact Nat.le_succ _
 ·split
  ·simp
  ·simp

theorem SU (h:PJ b1 A1 A2 i st x)(h0:0<b1.length)(hA:b1.length≤A1∧b1.length≤A2∧A1≠A2)(ps:List (Int×Int×Bool))(hl:x.1.length+ps.length≤100000000) :
  ∃g:Nat→List D,g 0=st∧(∀k,k≤ps.length→∃y,PJ b1 A1 A2 i (g k) y)∧PJ b1 A1 A2 i (g ps.length) (Ko i x ps)∧(Ko i x ps).1.length≤x.1.length+ps.length∧∀k (hk:k<ps.length),PR A1 A2 i ps[k] (g k) (g (k+1)):=by
 obtain⟨g,g0,g1,g2⟩:=Iv (N:=ps.length) (s0:=st) (J:=fun k st=>PJ b1 A1 A2 i st (Ko i x (ps.take k))∧(Ko i x (ps.take k)).1.length≤x.1.length+k)
  (R:=fun k st cG=>∀hk:k<ps.length,PR A1 A2 i ps[k] st cG) ⟨h,A0m _⟩ (fun k st hk hJ=>by
   obtain⟨hJ,hlen⟩:=hJ
   obtain⟨cG,r1,r2⟩:=hJ.step h0 hA (by omega) ps[k]
   have e:Ko i x (ps.take (k+1))=gp i (Ko i x (ps.take k)) ps[k]:=by
    rw[B0a hk]
    unfold Ko
    rw[List.foldl_append]
    rfl
   refine⟨cG,fun _=>r1,?_,?_⟩
   ·rw[e];exact r2
   ·rw[e]
    have:=TR i (Ko i x (ps.take k)) ps[k]
    omega)
 have hend:=g1 _ (A0m _)
 rw[List.take_length] at hend
 exact⟨g,g0,fun k hk=>⟨_,(g1 k hk).1⟩,hend.1,hend.2,fun k hk=>g2 k hk hk⟩
end

theorem OC.len {C:Int→Prop}{H t:Int}{l:List (Int×Int×Bool)}(h:OC C H t l):t≤H∧(l.length:Int)≤H-t:=by
 induction h with
 | nil=>simp
 | cons h h2 hc hl ih=>
  simp only[List.length_cons]
  omega

variable {n:Nat} {rs:List Rd} {vs:List Vh} {zs:List Zn} {bs:List D}

def ZR (n:Nat)(rs:List Rd)(vs:List Vh)(H:Int)(i:Nat)(z:Zn)(st cG:List D):Prop:=
 ∃(ps:List (Int×Int×Bool)) (g:Nat→List D),g 0=st++[.bh 3 1 [In i]]++[.bh 4 1 [B false]]∧g ps.length=cG∧aT st=true∧st≠[]∧(∀k,k≤ps.length→aT (g k)=true) ∧
  (∀k (hk:k<ps.length),PR st.length (st++[D.bh 3 1 [In i]]).length i ps[k] (g k) (g (k+1))) ∧
  ∀{m0:Nat} {rec:Loop} {sl:List Nat} {cU:List D},(∀k (h:k<ps.length),nI Tryz.prog (.yl m0 rec sl cU) (.st (g k)) [pcD ps[k]] (.st (g (k+1))))→bt Tryz.prog 139 (.st (g 0)) ([.yl m0 rec sl cU]++V2 n rs vs z H) (.aM []) (.st (g ps.length))

theorem Sn (hN:kO n rs)(hz:∀z∈zs,Oy n z)(hvs:∀v∈vs,QH n v)(hL:vs.length≤60)(hZ:zs.length≤100){H:Int}(hH:0≤H∧H≤100000) :
  ∃(f:Nat→List D) (gl:List Gp),f 0=[.bh 64 1 [.cO]]∧o_ [.bh 64 1 [.cO]] 0 64 68 3 Kq (f zs.length) gl∧gl.length≤10000000∧(∀s,J2 gl s↔0≤s∧s<H∧∃z∈zs,¬Lb rs vs z s)∧∀i (hi:i<zs.length),ZR n rs vs H i zs[i] (f i) (f (i+1)):=by
 obtain⟨f,f0,f1,f2⟩:=Iv (N:=zs.length) (s0:=[D.bh 64 1 [.cO]])
  (J:=fun i st=>∃gl,o_ [.bh 64 1 [.cO]] 0 64 68 3 Kq st gl∧gl.length≤i*100000∧∀s,J2 gl s↔0≤s∧s<H∧∃z∈zs.take i,¬Lb rs vs z s)
  (R:=fun i st cG=>∀hi:i<zs.length,ZR n rs vs H i zs[i] st cG)
  ⟨[],⟨A0m _,fun _ _ _=>rfl,⟨.cO,rfl,.inl ⟨rfl,rfl⟩,fun b hb=>by cases hb⟩,rfl⟩,by simp,fun s=>by simp[J2]⟩ (fun i st hi hJ=>by
   obtain⟨gl,hO,hlen,hin⟩:=hJ
   have hzm:=List.getElem_mem hi
   obtain⟨ps,hP,hw⟩:=afo (rs:=rs) (vs:=vs) (z:=zs[i]) hN (hz _ hzm) hvs hL hH
   have qA:=hP.len
   have hO2:=(hO.push (by decide) (x:=D.bh 3 1 [In i]) rfl).push (by decide) (x:=D.bh 4 1 [B false]) rfl
   have K5:=hO.len
   simp only[List.length_cons,List.length_nil] at K5
   have hPJ:PJ [.bh 64 1 [.cO]] st.length (st++[D.bh 3 1 [In i]]).length i (st++[.bh 3 1 [In i]]++[.bh 4 1 [B false]]) (gl,false):=⟨hO2,by rw[A0j (by simp)];simp,by simp,fun e=>by cases e⟩
   obtain⟨g,g0,g1,g2,g3,g4⟩:=SU hPJ (by decide) ⟨by simp;omega,by simp,by simp⟩ ps (by simp only;omega)
   refine⟨g ps.length,fun _=>⟨ps,g,g0,rfl,hO.ny,fun e=>(by rw[e] at K5;simp at K5),fun k hk=>(g1 k hk).elim fun y hy=>hy.out.ny,g4,fun hy=>hw g hy⟩,(Ko i (gl,false) ps).1,g2.out,by simp only at g3;omega,fun s=>?_⟩
   rw[CO hP (fun e=>by cases e) s,hin s,B0a hi]
   constructor
   ·rintro(⟨a,b,z,uU,K2⟩ | ⟨a,b,c⟩)
    ·exact⟨a,b,z,List.mem_append_left _ uU,K2⟩
    ·exact⟨a,b,zs[i],List.mem_append_right _ (List.mem_singleton.2 rfl),c⟩
   ·rintro⟨a,b,z,uU,K2⟩
    rcases B0p.1 uU with h | h
    ·exact .inl ⟨a,b,z,h,K2⟩
    ·simp only[List.mem_singleton] at h
     subst h
     exact .inr ⟨a,b,K2⟩)
 obtain⟨gl,h1,h2,h3⟩:=f1 _ (A0m _)
 rw[List.take_length] at h3
 exact⟨f,gl,f0,h1,by omega,h3,fun i hi=>f2 i hi hi⟩

theorem Hz {b m:Nat}:D.av 3 (.sl b 0 (m+1)) (I (((m+1:Nat):Int)-1))=some (.loc b (m*3)):=by
 rw[show((m+1:Nat):Int)-1=(m:Int) by omega]
 exact fy (Nat.lt_succ_self m)

theorem c39 (hN:kO n rs)(hz:∀z∈zs,Oy n z)(hvs:∀v∈vs,QH n v)(hL:vs.length≤60)(hZ:zs.length≤100){H:Int}(hH:0≤H∧H≤100000) :
  ∃gl:List Gp,gl.length≤10000000∧(∀s,J2 gl s↔0≤s∧s<H∧∃z∈zs,¬Lb rs vs z s)∧∀bs,aU Tryz.prog 39 (.st bs) [Nt n rs,.a_ (vs.map Vh.d),.a_ (zs.map Zn.d),I H] (.a_ (gl.map gD)):=by
 obtain⟨f,gl,f0,hO,hlen,hin,hZR⟩:=Sn (rs:=rs) (vs:=vs) (zs:=zs) hN hz hvs hL hZ hH
 refine⟨gl,hlen,hin,fun bs=>?_⟩
 obtain⟨s,o1,o2,o3⟩:=hO.ov
 have y1:=xR rs
 have y2:aT (vs.map Vh.d)=true:=lC fun _ _=>rfl
 have y3:aT (zs.map Zn.d)=true:=lC fun _ _=>rfl
 have key:bt Tryz.prog 39 (.st []) [Nt n rs,.a_ (vs.map Vh.d),.a_ (zs.map Zn.d),I H] s (.st (f zs.length)):=by
  refine ac8.W rfl ?_
  unfold u39
  simp only[aP,bg,A0q,A0r]
  repeat' (first|(apply cw;rfl)|(apply cm;rfl;exact bn;simp only[az];rfl)|(apply bk;rfl;simp only[az];rfl)|refine aK ?_)
  refine dX (fun i=>[In i,.st (f i)]) (fun _=>True) zs.length (by rw[f0];rfl) (fun _=>rfl) trivial (fun i hi hJ R hR=>?_) (fun hJ R=>?_)
  ·have iS:decide ((i:Int)<(zs.length:Int))=true:=by simp;omega
   obtain⟨ps,g,g0,gN,hny,hne,gny,gR,hw⟩:=hZR i hi
   have wm:=bR (xs:=zs) (enc:=Zn.d) (sz:=3) hi rfl
   generalize zs[i]=z at wm hw
   generalize f i=st at g0 hny hne gR ⊢
   generalize f (i+1)=cG at gN hR
   repeat' (first|(apply eZ;simp only[az];rfl)|(apply bK;rfl;exact iS)|(apply cw;rfl)|(apply bG;rfl;rfl;exact wm;simp only[az];rfl)|(apply kJ;rfl;rfl;rfl;exact mc rfl rfl rfl;simp only[az];rfl)|(apply bk;rfl;simp only[az];rfl)|(apply bX;rfl;rfl;exact c80 H;rfl;simp only[az];rfl)|refine aK ?_)
   refine BN (.aM []) (.st (g ps.length)) rfl (by kernel_rfl) rfl ?_ ?_ (fun cU m0 rec rO=>?_) (by simp only[az];rfl) ?_
   ·repeat' (first|exact CS|((apply zB);rfl;(·first|rfl|(simp[aT,D.dG,D.cells,Zn.d,Nt,V2,y1,y2,y3];done))))
   ·simpa[D.dG] using gny _ (A0m _)
   ·have:=hw (m0:=m0) (rec:=rec) (cU:=cU) (sl:=[0,1,2,3,9,10,12,14,15,16,17,18,19,20,22,24,25]) fun k hk=>?_
    ·rw[g0] at this
     exact this
    ·have hgk:=gny k (by omega)
     have hPR:=gR k hk
     generalize ps[k]=p at hPR ⊢
     generalize g k=X at hPR hgk ⊢
     generalize g (k+1)=X' at hPR ⊢
     refine rO _ _ _ (by simpa[D.dG] using hgk) rfl rfl ?_
     obtain⟨t,t',c⟩:=p
     obtain⟨v1,XU⟩:=hPR
     simp only at v1 XU
     obtain⟨Y,hY⟩:∃Y,Y=X++[pB (t,t',c)]:=⟨_,rfl⟩
     have rX:Y[X.length]? = some (.bh 193 3 [I t,I t',B c]):=by rw[hY];exact List.getElem?_concat_length
     rw[←hY] at v1 XU
     rcases XU with⟨hc,hs⟩ | ⟨hc,v2,b,m,hm,q1,q2⟩ | ⟨hc,v2,s',ew,s2,gA,q1,q2,q3,q4,q5⟩
     ·subst hc
      subst hY
      repeat' (first|(apply eZ;simp only[az];rfl)|(apply bK;rfl;exact rfl)|(apply kP;rfl;rfl;exact cj rX rfl;simp only[az];rfl)|(apply kJ;rfl;rfl;rfl;(·first|exact mc rfl rfl rfl|exact hs);simp only[az];rfl)|(apply bk;rfl;simp only[az];rfl)|refine aK ?_|(apply aR;rfl;rfl)|refine aF ?_|refine kj rfl ?_)
      rfl
     ·subst hc
      have hbd:-9223372036854775808≤((m+1:Nat):Int)-1∧((m+1:Nat):Int)-1<9223372036854775808:=by omega
      subst hY
      repeat' (first|(apply eZ;simp only[az];rfl)|(apply bK;rfl;exact rfl)|(apply bL;rfl;exact rfl)|(apply cw;rfl)|(apply kP;rfl;rfl;(·first|exact cj rX rfl|exact cj v2 rfl|exact cj q1 rfl);simp only[az];rfl)|(apply bG;rfl;rfl;exact Hz;simp only[az];rfl)|(apply kJ;rfl;rfl;rfl;(·first|exact mc rfl rfl rfl|exact q2);simp only[az];rfl)|(apply jl;rfl;rfl;omega;simp only[az];rfl)|(apply bk;rfl;simp only[az];rfl)|refine aK ?_|(apply aR;rfl;rfl)|refine aF ?_|refine kj rfl ?_)
      rfl
     ·subst hc
      subst hY
      repeat' (first|(apply eZ;simp only[az];rfl)|(apply bL;rfl;exact rfl)|(apply FT;rfl;rfl;rfl;rfl;rfl;exact q3;exact q4;simp only[az];rfl)|(apply kP;rfl;rfl;(·first|exact cj rX rfl|exact cj v1 rfl|exact cj v2 rfl|exact cj q1 rfl);simp only[az];rfl)|(apply kJ;rfl;rfl;rfl;(·first|exact mc rfl rfl rfl|exact q5);simp only[az];rfl)|(apply FV;rfl;rfl;rfl;exact q2;simp only[az];rfl)|(apply bk;rfl;simp only[az];rfl)|refine aK ?_|(apply aR;rfl;rfl)|refine aF ?_|refine kj rfl ?_)
      rfl
   ·repeat' (first|(apply eZ;simp only[az];rfl)|(apply eT;rfl;omega;simp only[az];rfl)|(apply aR;rfl;rfl)|refine aF ?_|refine kj rfl ?_)
    rw[gN]
    exact hR trivial
  ·repeat' (first|(apply eZ;simp only[az];rfl)|(apply kP;rfl;rfl;exact cj o1 rfl;simp only[az];rfl)|(apply bk;rfl;simp only[az];rfl)|(apply aR;rfl;rfl)|refine aF ?_|(refine bJ (by decide) ?_)|refine kj rfl ?_|(apply iz;rfl;all_goals (intro hz;(try simp only[gQ] at hz);first|(exact absurd hz (by decide))|(exfalso;omega)|skip))|exact aS rfl rfl)
 have adj:∃bs',bt Tryz.prog 39 (.st []) [Nt n rs,.a_ (vs.map Vh.d),.a_ (zs.map Zn.d),I H] (.a_ (gl.map gD)) (.st bs'):=by
  rcases o2 with⟨rfl,rfl⟩ | ⟨b,rfl,hb⟩
  ·exact⟨_,key.TV⟩
  ·refine⟨_,key.Kt (es:=gl.map gD) hb (eF wY) (by simp) fun k x hx=>?_⟩
   rw[A0v] at hx
   obtain⟨r,hr,rfl⟩:=A0b.1 hx
   refine⟨rfl,fun q c hc=>?_⟩
   obtain⟨t,ht⟩:=nw wY hr
   have hc:(Kq r)[q]? = some c:=hc
   rw[←B0o,ht,A0j (A0a.1 hc).1]
   exact hc
 obtain⟨bs',hk⟩:=adj
 have n1:=xS rs
 have n2:=lN (f:=Vh.d) (fun _=>rfl) vs
 have n3:=lN (f:=Zn.d) (fun _=>rfl) zs
 exact hk.yy (by simp only[dH,D.fO,Nt,Bool.true_and,Bool.and_true,n1,n2,n3]) (lN (f:=gD) (fun _=>rfl) gl) bs

theorem c15 (hN:kO n rs)(hz:∀z∈zs,Jn n z=true)(hvs:∀v∈vs,Jo n v=true)(hL:vs.length≤60)(hZ:zs.length≤100){H:Int}(hH:0≤H∧H≤100000) :
  ∃gl:List Gp,gl.length≤10000000∧(∀s,J2 gl s↔0≤s∧s<H∧∃z∈zs,¬Lb rs vs z s)∧∀bs,aU Tryz.prog 15 (.st bs) [Nt n rs,.a_ (vs.map Vh.d),.a_ (zs.map Zn.d),I H] (.aM [.a_ (gl.map gD),I 0]):=by
 obtain⟨gl,h1,h2,h3⟩:=c39 (rs:=rs) hN (fun z h=>Lf (hz z h)) (fun v h=>Ln (hvs v h)) hL hZ hH
 refine⟨gl,h1,h2,fun bs=>?_⟩
 refine adf.R rfl rfl ?_
 unfold u15
 simp only[aP,bg,A0q,A0r]
 repeat' (first|(apply bL;rfl;exact rfl)|(apply cw;rfl)|(apply bk;rfl;simp only[az];rfl)|(apply bX;rfl;rfl;(·first|exact c38 hN hL hZ hvs hz hH|exact h3 _);rfl;simp only[az];rfl)|exact aS rfl rfl)
end

section
open Go.Proofs

def HA (n:Nat):UInt8:=if n<10 then(48+n).toUInt8 else(87+n).toUInt8

def dg:Nat→Nat→List UInt8
 | 0,_=>[]
 | k+1,n=>dg k (n / 16)++[HA (n % 16)]

theorem nD:∀k n,(dg k n).length=k
 | 0,_=>rfl
 | k+1,n=>by simp[dg,nD k]

theorem w7:∀k n,dg (k+1) n=HA ((n / 16 ^ k) % 16) :: dg k n
 | 0,n=>by simp[dg]
 | k+1,n=>by
  have h:=w7 k (n / 16)
  rw[dg,h,dg,Nat.div_div_eq_div_mul]
  simp[Nat.pow_succ,Nat.mul_comm]

theorem Jg {k n:Nat}(h:n<16 ^ k):∀r,dg (k+r) n=List.replicate r 48++dg k n
 | 0=>by simp
 | r+1=>by
  have h2:n / 16 ^ (k+r)=0:=Nat.div_eq_of_lt (A0s h (Nat.pow_le_pow_right (by omega) (by omega)))
  rw[←Nat.add_assoc,w7,h2,Jg h r,List.replicate_succ]
  rfl

def jn (n:Nat):Nat:=if h:n<16 then 0 else jn (n / 16)+1
termination_by n

theorem IT:∀(m n:Nat),n≤m→n / 16 ^ (jn n)<16
 | 0,n,h=>by
  have:n=0:=by omega
  subst this
  simp
 | m+1,n,h=>by
  rw[jn]
  split
  ·rename_i h1;simpa using h1
  ·rename_i h1
   have:=IT m (n / 16) (by omega)
   rw[Nat.div_div_eq_div_mul] at this
   rwa [Nat.pow_succ,Nat.mul_comm]

theorem MC:∀(m n:Nat),n≤m→∀j,j<jn n→16≤n / 16 ^ j
 | 0,n,h,j,hj=>by
  have:n=0:=by omega
  subst this
  rw[jn] at hj
  simp at hj
 | m+1,n,h,j,hj=>by
  rw[jn] at hj
  split at hj
  ·omega
  ·rename_i h1
   cases j with
   | zero=>simpa using h1
   | succ j=>
    have:=MC m (n / 16) (by omega) j (by omega)
    rw[Nat.div_div_eq_div_mul] at this
    rwa [Nat.pow_succ,Nat.mul_comm]

theorem MB {n k:Nat}(h:n<16 ^ (k+1)):jn n≤k:=by
 rcases Nat.lt_or_ge k (jn n) with h1 | h1
 ·have:=MC n n (A0m _) k h1
  have h2:n / 16 ^ k<16:=by
   rw[Nat.div_lt_iff_lt_mul (Nat.pow_pos (by omega))]
   rwa [Nat.pow_succ,Nat.mul_comm] at h
  omega
 ·exact h1

def tw (n:Nat):List UInt8:=dg (jn n+1) n

theorem Ni {n:Nat}(h:n<16 ^ 16):List.replicate (16-(tw n).length) 48++tw n=dg 16 n:=by
 have h1:jn n≤15:=MB h
 have h2:=IT n n (A0m _)
 have h3:n<16 ^ (jn n+1):=by
  rw[Nat.pow_succ,Nat.mul_comm]
  rwa [Nat.div_lt_iff_lt_mul (Nat.pow_pos (by omega))] at h2
 have h4:=Jg h3 (15-jn n)
 rw[show jn n+1+(15-jn n)=16 from by omega] at h4
 rw[h4,tw,nD,show 16-(jn n+1)=15-jn n from by omega]

theorem Lh (x:Int):∃n:Nat,IntKind.u64.wrap x=n∧n<18446744073709551616:=by
 rw[IntKind.wrap_u64]
 exact⟨(x % 18446744073709551616).toNat,by omega,by omega⟩

theorem Uq (m l:List UInt8):(⟨m.toArray⟩:ByteArray)++⟨l.toArray⟩=⟨(m++l).toArray⟩:=by
 apply ByteArray.ext
 simp

def qk (n:Nat):Nat→Nat
 | 0=>n
 | k+1=>qk n k / 16

theorem DI (n:Nat):∀k,qk n k=n / 16 ^ k
 | 0=>by simp[qk]
 | k+1=>by rw[qk,DI n k,Nat.div_div_eq_div_mul,Nat.pow_succ]

theorem Qr (n k:Nat):dg (k+1) n=HA (qk n k % 16) :: dg k n:=by rw[w7,DI]
end

section
open Go.Proofs
set_option maxRecDepth 100000

noncomputable def t41:T:=W' [v' (X' .geq y0 y1),g' y4 (X' .leq y0 y2),v' (.ite y4 y5 (kb false))] (R' y6 y3)
noncomputable def YX:=e' 41 Tryz.f41 true false [] [] [] [true,true,true] t41
theorem Po:ak Tryz.prog YX:=O' Tryz.func41

noncomputable def t68:T:=W' [v' (.nn y0),v' (p' 12 y4),v' (l' y3 y5),c' 128 y3 [y6,.const (.fn 129 [] [])] [true]] (R' y7 y3)
noncomputable def e68:=e' 68 Tryz.f68 true false [] [] [] [true,true,true] t68
theorem abW:ak Tryz.prog e68:=O' Tryz.func68

noncomputable def t47:T:=W' [c' 91 y1 [y0,ki 16] [true],v' (.fP y2),v' (M' (ki 16) y3),c' 92 y1 [Z' #[48],y4] [true],v' (.bin .add .str y5 y2)] (R' y6 y1)
noncomputable def e47:=e' 47 Tryz.f47 true false [] [] [] [true] t47
theorem ab_:ak Tryz.prog e47:=O' Tryz.func47

noncomputable def t28:T:=W' [v' (.bin .neq .ptr y0 (.const (.v (.pointer none)))),g' y2 (.nn y0),g' y2 (p' 30 y3),g' y2 (l' y1 y4),g' y2 (.bin .neq .ptr y5 (.const (.v (.pointer none)))),v' (.ite y2 y6 (kb false))] (R' y7 y1)
noncomputable def e28:=e' 28 Tryz.f28 true false [] [] [] [true] t28
theorem acm:ak Tryz.prog e28:=O' Tryz.func28

noncomputable def t92:T:=.join 0 4 (W' [v' (Q' y1 (ki 0))] (.ite y3 (R' (Z' #[]) y2) (W' [v' (Q' y1 (ki 1))] (.ite y4 (R' y0 y2) (J' 0 [y3,y3,y4,y4]))))) (W' [v' (X' .lss y1 (ki 0))] (.join 0 0 (.ite y7 (.dI (m' .td (.fq 9 (Z' #[115,116,114,105,110,103,115,58,32,110,101,103,97,116,105,118,101,32,82,101,112,101,97,116,32,99,111,117,110,116]))) y2 [] []) (J' 0 [])) (W' [v' (.fP y0),v' (.conv .u64 y8),v' (.conv .u64 y1),c' 147 y2 [y9,y10] [true,true],v' (X' .gtr (s' y11) (k' 0)),f' y12 (t' y11),f' y12 (X' .gtr y13 (k' 9223372036854775807)),v' (.ite y12 (kb true) y14)] (.join 0 0 (.ite y15 (.dI (m' .td (.fq 9 (Z' #[115,116,114,105,110,103,115,58,32,82,101,112,101,97,116,32,111,117,116,112,117,116,32,108,101,110,103,116,104,32,111,118,101,114,102,108,111,119]))) y2 [] []) (J' 0 [])) (W' [v' (.conv .i64 (t' y11)),v' (.fP y0),v' (Q' y17 (ki 0))] (.ite y18 (R' (Z' #[]) y2) (W' [v' (n' .kg y0 (ki 0))] (.join 0 2 (W' [v' (Q' y19 (K' 32))] (.join 1 1 (.ite y20 (J' 1 [y20]) (W' [v' (Q' y19 (K' 45))] (.join 2 1 (.ite y21 (J' 2 [y21]) (W' [v' (Q' y19 (K' 48))] (.join 3 1 (.ite y22 (J' 3 [y22]) (W' [v' (Q' y19 (K' 61))] (.join 4 1 (.ite y23 (J' 4 [y23]) (W' [v' (Q' y19 (K' 9))] (J' 4 [y24]))) (J' 3 [y24])))) (J' 2 [y23])))) (J' 1 [y22])))) (.join 1 0 (.ite y21 (.join 2 20 (W' [v' (X' .leq y16 (ki 128)),.call [(y22,true)] 148 y2 [Z' #[32,32,32,32,32,32,32,32,32,32,32,32,32,32,32,32,32,32,32,32,32,32,32,32,32,32,32,32,32,32,32,32,32,32,32,32,32,32,32,32,32,32,32,32,32,32,32,32,32,32,32,32,32,32,32,32,32,32,32,32,32,32,32,32,32,32,32,32,32,32,32,32,32,32,32,32,32,32,32,32,32,32,32,32,32,32,32,32,32,32,32,32,32,32,32,32,32,32,32,32,32,32,32,32,32,32,32,32,32,32,32,32,32,32,32,32,32,32,32,32,32,32,32,32,32,32,32,32],y0] [true],v' (.ite y22 y23 (kb false))] (.ite y24 (W' [v' (o' .mS (Z' #[32,32,32,32,32,32,32,32,32,32,32,32,32,32,32,32,32,32,32,32,32,32,32,32,32,32,32,32,32,32,32,32,32,32,32,32,32,32,32,32,32,32,32,32,32,32,32,32,32,32,32,32,32,32,32,32,32,32,32,32,32,32,32,32,32,32,32,32,32,32,32,32,32,32,32,32,32,32,32,32,32,32,32,32,32,32,32,32,32,32,32,32,32,32,32,32,32,32,32,32,32,32,32,32,32,32,32,32,32,32,32,32,32,32,32,32,32,32,32,32,32,32,32,32,32,32,32,32]) (ki 0) y16)] (R' y25 y2)) (W' [v' (X' .leq y16 (ki 128)),.call [(y25,true)] 148 y2 [Z' #[45,45,45,45,45,45,45,45,45,45,45,45,45,45,45,45,45,45,45,45,45,45,45,45,45,45,45,45,45,45,45,45,45,45,45,45,45,45,45,45,45,45,45,45,45,45,45,45,45,45,45,45,45,45,45,45,45,45,45,45,45,45,45,45,45,45,45,45,45,45,45,45,45,45,45,45,45,45,45,45,45,45,45,45,45,45,45,45,45,45,45,45,45,45,45,45,45,45,45,45,45,45,45,45,45,45,45,45,45,45,45,45,45,45,45,45,45,45,45,45,45,45,45,45,45,45,45,45],y0] [true],v' (.ite y25 y26 (kb false))] (.ite y27 (W' [v' (o' .mS (Z' #[45,45,45,45,45,45,45,45,45,45,45,45,45,45,45,45,45,45,45,45,45,45,45,45,45,45,45,45,45,45,45,45,45,45,45,45,45,45,45,45,45,45,45,45,45,45,45,45,45,45,45,45,45,45,45,45,45,45,45,45,45,45,45,45,45,45,45,45,45,45,45,45,45,45,45,45,45,45,45,45,45,45,45,45,45,45,45,45,45,45,45,45,45,45,45,45,45,45,45,45,45,45,45,45,45,45,45,45,45,45,45,45,45,45,45,45,45,45,45,45,45,45,45,45,45,45,45,45]) (ki 0) y16)] (R' y28 y2)) (W' [v' (X' .leq y16 (ki 64)),.call [(y28,true)] 148 y2 [Z' #[48,48,48,48,48,48,48,48,48,48,48,48,48,48,48,48,48,48,48,48,48,48,48,48,48,48,48,48,48,48,48,48,48,48,48,48,48,48,48,48,48,48,48,48,48,48,48,48,48,48,48,48,48,48,48,48,48,48,48,48,48,48,48,48],y0] [true],v' (.ite y28 y29 (kb false))] (.ite y30 (W' [v' (o' .mS (Z' #[48,48,48,48,48,48,48,48,48,48,48,48,48,48,48,48,48,48,48,48,48,48,48,48,48,48,48,48,48,48,48,48,48,48,48,48,48,48,48,48,48,48,48,48,48,48,48,48,48,48,48,48,48,48,48,48,48,48,48,48,48,48,48,48]) (ki 0) y16)] (R' y31 y2)) (W' [v' (X' .leq y16 (ki 128)),.call [(y31,true)] 148 y2 [Z' #[61,61,61,61,61,61,61,61,61,61,61,61,61,61,61,61,61,61,61,61,61,61,61,61,61,61,61,61,61,61,61,61,61,61,61,61,61,61,61,61,61,61,61,61,61,61,61,61,61,61,61,61,61,61,61,61,61,61,61,61,61,61,61,61,61,61,61,61,61,61,61,61,61,61,61,61,61,61,61,61,61,61,61,61,61,61,61,61,61,61,61,61,61,61,61,61,61,61,61,61,61,61,61,61,61,61,61,61,61,61,61,61,61,61,61,61,61,61,61,61,61,61,61,61,61,61,61,61],y0] [true],v' (.ite y31 y32 (kb false))] (.ite y33 (W' [v' (o' .mS (Z' #[61,61,61,61,61,61,61,61,61,61,61,61,61,61,61,61,61,61,61,61,61,61,61,61,61,61,61,61,61,61,61,61,61,61,61,61,61,61,61,61,61,61,61,61,61,61,61,61,61,61,61,61,61,61,61,61,61,61,61,61,61,61,61,61,61,61,61,61,61,61,61,61,61,61,61,61,61,61,61,61,61,61,61,61,61,61,61,61,61,61,61,61,61,61,61,61,61,61,61,61,61,61,61,61,61,61,61,61,61,61,61,61,61,61,61,61,61,61,61,61,61,61,61,61,61,61,61,61]) (ki 0) y16)] (R' y34 y2)) (W' [v' (X' .leq y16 (ki 64)),.call [(y34,true)] 148 y2 [Z' #[9,9,9,9,9,9,9,9,9,9,9,9,9,9,9,9,9,9,9,9,9,9,9,9,9,9,9,9,9,9,9,9,9,9,9,9,9,9,9,9,9,9,9,9,9,9,9,9,9,9,9,9,9,9,9,9,9,9,9,9,9,9,9,9],y0] [true],v' (.ite y34 y35 (kb false))] (.ite y36 (W' [v' (o' .mS (Z' #[9,9,9,9,9,9,9,9,9,9,9,9,9,9,9,9,9,9,9,9,9,9,9,9,9,9,9,9,9,9,9,9,9,9,9,9,9,9,9,9,9,9,9,9,9,9,9,9,9,9,9,9,9,9,9,9,9,9,9,9,9,9,9,9]) (ki 0) y16)] (R' y37 y2)) (J' 2 [y24,y22,y22,y24,y27,y25,y25,y27,y30,y28,y28,y30,y33,y31,y31,y33,y36,y34,y34,y36]))))))))))) (J' 1 [])) (J' 1 [])) (J' 0 [y21,y20])))) (W' [v' (X' .gtr y16 (ki 8192))] (.join 0 1 (.ite y22 (W' [v' (.fP y0),v' (X' .quo (ki 8192) y23),v' (.fP y0),v' (X' .mul y24 y25),v' (Q' y26 (ki 0))] (.join 1 1 (.ite y27 (W' [v' (.fP y0)] (J' 1 [y28])) (J' 1 [y26])) (J' 0 [y28]))) (J' 0 [y16])) (.ret (.deref .nil))))))))))))
noncomputable def e92:=e' 92 Tryz.f92 true false [] [] [] [true,true] t92
theorem V6:ak Tryz.prog e92:=O' Tryz.func92

noncomputable def t23:T:=W' [v' (.br 30 y0),c' 52 y1 [q' 8 y2] [true],c' 53 y1 [q' 9 y2] [true],c' 54 y1 [q' 10 y2] [true],c' 52 y1 [q' 16 y2] [true],c' 52 y1 [q' 22 y2] [true],c' 52 y1 [q' 23 y2] [true],c' 55 y1 [q' 25 y2] [true]] (R' (j' (q' 0 y2) (j' (q' 1 y2) (j' (q' 2 y2) (j' (q' 3 y2) (j' (q' 4 y2) (j' (q' 5 y2) (j' (q' 6 y2) (j' (q' 7 y2) (j' y3 (j' y4 (j' y5 (j' (q' 11 y2) (j' (q' 12 y2) (j' (q' 13 y2) (j' (q' 14 y2) (j' (q' 15 y2) (j' y6 (j' (q' 17 y2) (j' (q' 18 y2) (j' (q' 19 y2) (j' (q' 20 y2) (j' (q' 21 y2) (j' y7 (j' y8 (j' (q' 24 y2) (j' y9 (j' (q' 26 y2) (j' (q' 27 y2) (j' (q' 28 y2) (j' (q' 29 y2) .nil)))))))))))))))))))))))))))))) y1)
noncomputable def e23:=e' 23 Tryz.f23 true false [] [] [] [false] t23
theorem acr:ak Tryz.prog e23:=O' Tryz.func23

noncomputable def t129:T:=W' [v' (.br 3 y0)] (R' (q' 0 y2) y1)
noncomputable def ZA:=e' 129 Tryz.f129 true false [] [] [] [false] t129
theorem WN:ak Tryz.prog ZA:=O' Tryz.func129

noncomputable def t131:T:=W' [v' (.dL (j' (z' y1) .nil)),v' (.nn y0),v' (p' 14 y4),v' (l' y2 y5),v' (.dO 180 .ai (.ah y3 .ai)),c' 135 y2 [y6,y7] [true]] (R' y8 y2)
noncomputable def Zy:=e' 131 Tryz.f131 true false [] [] [] [true,true] t131
theorem WL:ak Tryz.prog Zy:=O' Tryz.func131

noncomputable def t102:T:=W' [c' 155 y2 [y0,y1] [true,true,true]] (R' (D' (s' y3) (t' y3) (.au 2 y3)) y2)
noncomputable def ZD:=e' 102 Tryz.f102 true false [] [] [] [true,true] t102
theorem WR:ak Tryz.prog ZD:=O' Tryz.func102

noncomputable def t55:T:=.jR y0 false (.ite y2 (R' (.const (.a_ [])) y1) (W' [v' (.const (.a_ [])),v' (.app 4 32 y3 y0)] (R' y4 y1)))
noncomputable def e55:=e' 55 Tryz.f55 true false [] [] [] [true] t55
theorem ab2:ak Tryz.prog e55:=O' Tryz.func55

noncomputable def t179:T:=W' [v' (.bD y0)] (.join 0 2 (.loop 1 [ki 0] (W' [v' (X' .lss y4 y3)] (.ite y5 (.join 2 3 (W' [v' (.av 3 y0 y4),v' (.ld true 3 y2 y6),.ey [] y1 y2 [y7] [true]] (.ite y8 (R' y4 y2) (J' 2 [y6,y7,y8]))) (W' [v' (P' y4 (ki 1))] (J' 1 [y9]))) (J' 0 [y4,y5])))) (R' (ki (-1)) y2))
noncomputable def Zh:=e' 179 Tryz.f179 true false [] [] [] [true,true] t179
theorem Wu:ak Tryz.prog Zh:=O' Tryz.func179

noncomputable def t156:T:=W' [v' (.br 2 y0),v' (.bD (q' 1 y3)),v' (X' .neq y4 y1)] (.join 0 0 (.ite y5 (.gV 157 y2 [ki 3] [] [] [] (J' 0 [])) (J' 0 [])) (W' [v' (.bD (q' 1 y3))] (.join 0 4 (.loop 1 [.const (.a_ []),ki 0,y2] (W' [v' (X' .lss y8 y6)] (.ite y10 (.join 2 17 (W' [v' (.av 1 (q' 1 y3) y8),v' (l' y9 y11),w' 197 y9 [y12] [true,true],v' (N' (t' (s' y13)))] (.join 3 0 (.ite y14 (.gV 157 (t' y13) [ki 3] [] [] [] (J' 3 [])) (J' 3 [])) (W' [v' (.bP (z' (s' (s' y13))) (.const (.a_ []))),v' (.app 1 8 y7 y15)] (J' 2 [y16,y12,s' (s' y13),t' (s' y13),y11,y12,C' (s' (s' y13)) (t' (s' y13)),y12,C' (s' (s' y13)) (t' (s' y13)),s' (s' y13),t' (s' y13),t' (s' y13),y14,s' (s' y13),y15,y16,t' y13])))) (W' [v' (P' y8 (ki 1))] (J' 1 [y11,y28,y27]))) (J' 0 [y7,y8,y10,y9])))) (R' y7 y10))))
noncomputable def Zk:=e' 156 Tryz.f156 false false [197] [] [] [false,true] t156
theorem Wx:ak Tryz.prog Zk:=O' Tryz.func156

noncomputable def t157:T:=W' [v' (X' .neq y0 (ki 0))] (.join 0 0 (.ite y2 (W' [v' (j' (z' y0) .nil)] (.dI (m' .td (.fq 156 y3)) y1 [] [])) (J' 0 [])) (R' .ai y1))
noncomputable def Zj:=e' 157 Tryz.f157 true false [] [] [] [true] t157
theorem Ww:ak Tryz.prog Zj:=O' Tryz.func157

noncomputable def t98:T:=W' [c' 97 y1 [y0,ki 0,ki 100000000] [true],v' (N' y2)] (R' y3 y1)
noncomputable def e98:=e' 98 Tryz.f98 true false [] [] [] [true] t98
theorem abB:ak Tryz.prog e98:=O' Tryz.func98

noncomputable def t198:T:=W' [v' (.br 4 y1),v' (Q' (q' 0 y3) (ki 3)),f' y4 (q' 0 y3),f' y4 (Q' y5 (ki 4)),v' (.ite y4 (kb true) y6),f' y7 (q' 0 y3),f' y7 (Q' y8 (ki 5)),v' (.ite y7 (kb true) y9),f' y10 (q' 0 y3),f' y10 (Q' y11 (ki 8)),v' (.ite y10 (kb true) y12),v' (Q' (q' 0 y3) (ki 8)),f' y14 (q' 0 y3),f' y14 (Q' y15 (ki 9)),v' (.ite y14 (kb true) y16),f' y17 (q' 0 y3),f' y17 (Q' y18 (ki 10)),v' (.ite y17 (kb true) y19),v' (X' .lss (q' 0 y3) (ki 1)),f' y21 (q' 0 y3),f' y21 (X' .gtr y22 (ki 10)),v' (.ite y21 (kb true) y23),f' y24 (q' 1 y3),.call [(y24,false)] 41 y2 [y25,ki 0,ki 100000] [true],f' y24 (N' y26),v' (.ite y24 (kb true) y27),f' y28 (N' y13),f' y28 (G' y29 (q' 2 y3)),f' y28 (G' y29 (X' .neq y30 (ki 0))),f' y28 (.ite y29 y31 (kb false)),v' (.ite y28 (kb true) y32),f' y33 (N' y20),f' y33 (G' y34 (q' 3 y3)),f' y33 (G' y34 (X' .neq y35 (ki 0))),f' y33 (.ite y34 y36 (kb false)),v' (.ite y33 (kb true) y37)] (.ite y38 (R' (kb false) y2) (W' [v' (.nn y0),v' (p' 0 y39),v' (p' 0 y40),v' (l' y2 y41),v' (M' y42 (ki 1)),c' 41 y2 [q' 2 y3,ki 0,y43] [true],g' y44 (q' 3 y3),g' y44 (.nn y0),g' y44 (p' 0 y46),g' y44 (p' 5 y47),g' y44 (l' y2 y48),g' y44 (M' y49 (ki 1)),.call [(y44,true)] 41 y2 [y45,ki 0,y50] [true],v' (.ite y44 y51 (kb false))] (R' y52 y2)))
noncomputable def Y8:=e' 198 Tryz.f198 true false [] [] [] [true,false] t198
theorem Wj:ak Tryz.prog Y8:=O' Tryz.func198

noncomputable def t142:T:=W' [v' (.bD y0)] (.join 0 2 (.loop 1 [ki 0] (W' [v' (X' .lss y4 y3)] (.ite y5 (.join 2 3 (W' [v' (.av 1 y0 y4),v' (l' y2 y6),.ey [] y1 y2 [y7] [true]] (.ite y8 (R' y4 y2) (J' 2 [y6,y7,y8]))) (W' [v' (P' y4 (ki 1))] (J' 1 [y9]))) (J' 0 [y4,y5])))) (R' (ki (-1)) y2))
noncomputable def Uc:=e' 142 Tryz.f142 true false [] [] [] [true,true] t142
theorem Q5:ak Tryz.prog Uc:=O' Tryz.func142

noncomputable def t261:T:=W' [v' (Q' y0 (k' 0))] (.ite y2 (R' (ki 64) y1) (W' [v' (.un .neg y0),v' (X' .and y0 y3),v' (X' .mul y4 (k' 285870213051353865)),v' (X' .shr y5 (k' 58)),v' (n' (.TT 5 64 1) y1 y6),v' (l' y1 y7),v' (.conv .i64 y8)] (R' y9 y1)))
noncomputable def T_:=e' 261 Tryz.f261 true false [] [] [] [true] t261
theorem Q0:ak Tryz.prog T_:=O' Tryz.func261

noncomputable def t24:T:=W' [v' (.br 6 y0),c' 41 y1 [q' 0 y2,ki 1,ki 60] [true],v' (N' y3),f' y4 (q' 1 y2),.call [(y4,false)] 41 y1 [y5,ki 1,ki 100000] [true],f' y4 (N' y6),v' (.ite y4 (kb true) y7),f' y8 (q' 2 y2),f' y8 (q' 0 y2),.call [(y8,false)] 41 y1 [y9,ki 1,y10] [true],f' y8 (N' y11),v' (.ite y8 (kb true) y12),f' y13 (q' 3 y2),.call [(y13,false)] 41 y1 [y14,ki 0,ki 100000] [true],f' y13 (N' y15),v' (.ite y13 (kb true) y16),f' y17 (q' 4 y2),.call [(y17,false)] 41 y1 [y18,ki 1,ki 100000] [true],f' y17 (N' y19),v' (.ite y17 (kb true) y20),f' y21 (q' 5 y2),.call [(y21,false)] 41 y1 [y22,ki 1,ki 200] [true],f' y21 (N' y23),v' (.ite y21 (kb true) y24)] (.ite y25 (R' (C' (.const (.v (.pointer none))) (ki 2)) y1) (W' [v' (.rep 24 (q' 0 y2) (.agg [.v (.bool false),.v (.int .i64 0),.v (.bool false)])),v' (.rep 24 (q' 0 y2) (.agg [.v (.bool false),.v (.int .i64 0),.v (.bool false)])),v' (.rep 32 (q' 5 y2) (.agg [.v (.bool false),.v (.int .i64 0),.v (.int .i64 0),.v (.bool false),.v (.bool false)])),v' (j' (.br 6 (pz 6 y2)) (j' (.const (.agg [.v (.bool false),.v (.int .i64 0),.v (.bool false),.v (.bool false),.v (.int .i64 0),.v (.bool false)])) (j' (kb false) (j' (kb false) (j' (kb false) .nil))))),v' (.nn (.aC (.dR 1000000000 5 (.dR 1000000000 3 (.dR 1000000000 3 y1 y26) y27) y28))),v' (p' 14 y30),v' (l' (.fK 1000000000 15 (.dR 1000000000 5 (.dR 1000000000 3 (.dR 1000000000 3 y1 y26) y27) y28) (j' (q' 0 y29) (j' (q' 1 y29) (j' (q' 2 y29) (j' (q' 3 y29) (j' (q' 4 y29) (j' (q' 5 y29) (j' (q' 6 y29) (j' (q' 7 y29) (j' (q' 8 y29) (j' (q' 9 y29) (j' (q' 10 y29) (j' (q' 11 y29) (j' (.cY y1 y26) (j' (.cY (.dR 1000000000 3 y1 y26) y27) (j' (.cY (.dR 1000000000 3 (.dR 1000000000 3 y1 y26) y27) y28) .nil)))))))))))))))) y31),v' (.bD y32)] (.join 0 3 (.loop 1 [ki 0,.fK 1000000000 15 (.dR 1000000000 5 (.dR 1000000000 3 (.dR 1000000000 3 y1 y26) y27) y28) (j' (q' 0 y29) (j' (q' 1 y29) (j' (q' 2 y29) (j' (q' 3 y29) (j' (q' 4 y29) (j' (q' 5 y29) (j' (q' 6 y29) (j' (q' 7 y29) (j' (q' 8 y29) (j' (q' 9 y29) (j' (q' 10 y29) (j' (q' 11 y29) (j' (.cY y1 y26) (j' (.cY (.dR 1000000000 3 y1 y26) y27) (j' (.cY (.dR 1000000000 3 (.dR 1000000000 3 y1 y26) y27) y28) .nil)))))))))))))))] (W' [v' (X' .lss y34 y33)] (.ite y36 (.join 2 6 (W' [v' (.nn (.aC (.dR 1000000000 5 (.dR 1000000000 3 (.dR 1000000000 3 y1 y26) y27) y28))),v' (p' 14 y37),v' (l' y35 y38),v' (.av 5 y39 y34),v' (p' 2 y40),v' (.eY 1 y35 y41 (ki (-1)))] (J' 2 [y37,y38,y39,y40,y41,y42])) (W' [v' (P' y34 (ki 1))] (J' 1 [y43,y42]))) (J' 0 [y34,y36,y35])))) (R' (C' (.aC (.dR 1000000000 5 (.dR 1000000000 3 (.dR 1000000000 3 y1 y26) y27) y28)) (ki 0)) y36))))
noncomputable def e24:=e' 24 Tryz.f24 false false [] [] [(4,1000045),(4,1000048),(4,1000051),(4,1000053)] [false] t24
theorem acq:ak Tryz.prog e24:=O' Tryz.func24

noncomputable def t8:T:=.join 0 5 (.loop 1 [y0,ki 0] (W' [v' (.bD y1),v' (X' .lss y4 y5)] (.ite y6 (.join 2 6 (W' [v' (.bin .add .str y3 (Z' #[32])),v' (.av 1 y1 y4),v' (l' y2 y8),c' 27 y2 [y9] [true],v' (.bin .add .str y7 y10)] (J' 2 [y11,y7,y8,y9,y10,y11])) (W' [v' (P' y4 (ki 1))] (J' 1 [y7,y13]))) (J' 0 [y3,y4,y4,y5,y6])))) (R' y3 y2)
noncomputable def e8:=e' 8 Tryz.f8 true false [] [] [] [true,true] t8
theorem ok8:ak Tryz.prog e8:=O' Tryz.func8

noncomputable def t17:T:=W' [c' 43 y2 [y0,ki 0,ki 1000000000000] [true],v' (N' y3),.call [(y4,false)] 44 y2 [y1] [true],f' y4 (N' y5),v' (.ite y4 (kb true) y6)] (.ite y7 (R' (C' (.const (.a_ [])) (ki 2)) y2) (W' [c' 45 y2 [y0,y1] [true]] (R' (C' y8 (ki 0)) y2)))
noncomputable def e17:=e' 17 Tryz.f17 true false [] [] [] [true,true] t17
theorem acz:ak Tryz.prog e17:=O' Tryz.func17

noncomputable def t16:T:=W' [v' (.br 2 y0),c' 40 y3 [pz 2 y4] [true],v' (X' .neq y5 (ki 0)),f' y6 (q' 0 y4),f' y6 (M' y7 (ki 1)),.call [(y6,false)] 41 y3 [y1,ki 0,y8] [true],f' y6 (N' y9),v' (.ite y6 (kb true) y10),.call [(y11,false)] 41 y3 [y2,ki 0,ki 100000] [true],f' y11 (N' y12),v' (.ite y11 (kb true) y13)] (.ite y14 (R' (C' (.const (.a_ [])) (ki 2)) y3) (W' [c' 42 y3 [pz 2 y4,y1,y2] [true]] (R' (C' y15 (ki 0)) y3)))
noncomputable def e16:=e' 16 Tryz.f16 true false [] [] [] [false,true,true] t16
theorem acA:ak Tryz.prog e16:=O' Tryz.func16

noncomputable def t18:T:=W' [v' (.bD y0)] (.join 0 4 (.loop 1 [k' 14695981039346656037,.const (.a_ []),ki 0] (W' [v' (X' .lss y5 y2)] (.ite y6 (.join 2 11 (W' [v' (.av 1 y0 y5),v' (l' y1 y7),c' 46 y1 [y3,y8] [true],c' 47 y1 [y9] [true],v' (.bP (z' y10) (.const (.a_ []))),v' (.app 1 16 y4 y11)] (J' 2 [y9,y12,y8,y7,y8,y8,y9,y9,y10,y11,y12])) (W' [v' (P' y5 (ki 1))] (J' 1 [y7,y8,y18]))) (J' 0 [y3,y4,y5,y6])))) (R' y4 y1))
noncomputable def e18:=e' 18 Tryz.f18 true false [] [] [] [true] t18
theorem acy:ak Tryz.prog e18:=O' Tryz.func18

noncomputable def t87:T:=W' [v' (.bD y0),v' (X' .lss y2 (ki 1))] (.join 0 0 (.ite y3 (.dI (m' .td (.fq 9 (Z' #[115,108,105,99,101,115,46,77,97,120,58,32,101,109,112,116,121,32,108,105,115,116]))) y1 [] []) (J' 0 [])) (W' [v' (.av 1 y0 (ki 0)),v' (l' y1 y4)] (.join 0 5 (.loop 1 [y5,ki 1] (W' [v' (.bD y0),v' (X' .lss y7 y8)] (.ite y9 (.join 2 4 (W' [v' (.av 1 y0 y7),v' (l' y1 y10),v' (.mm true y6 y11)] (J' 2 [y12,y10,y11,y12])) (W' [v' (P' y7 (ki 1))] (J' 1 [y10,y14]))) (J' 0 [y6,y7,y7,y8,y9])))) (R' y6 y1))))
noncomputable def e87:=e' 87 Tryz.f87 true false [] [] [] [true] t87
theorem abK:ak Tryz.prog e87:=O' Tryz.func87

noncomputable def t143:T:=W' [v' (.bD y0),w' 186 y2 [y0,y3,y1] []] (R' .ai (t' y4))
noncomputable def Zu:=e' 143 Tryz.f143 false false [143,186,218,219,259,278] [] [] [true,true] t143
theorem WH:ak Tryz.prog Zu:=O' Tryz.func143

noncomputable def t186:T:=.join 0 5 (.loop 1 [ki 0,ki 20,y3] (W' [v' (X' .leq y5 y1)] (.ite y7 (.join 2 3 (W' [w' 218 y6 [y0,y4,y5,y2] [],v' (P' y5 (ki 20))] (J' 2 [y9,y9,t' y8])) (J' 1 [y5,y8,y10])) (J' 0 [y4,y5,y5,y7,y6])))) (W' [w' 218 y8 [y0,y4,y1,y2] []] (.join 0 6 (.loop 1 [ki 20,y4,y5,t' y9] (W' [v' (X' .lss y10 y1)] (.ite y14 (.join 2 13 (W' [v' (X' .mul (ki 2) y10)] (.join 3 5 (.loop 4 [ki 0,y15,y13] (W' [v' (X' .leq y17 y1)] (.ite y19 (.join 5 5 (W' [v' (P' y16 y10),w' 219 y18 [y0,y16,y20,y17,y2] [],v' (X' .mul (ki 2) y10),v' (P' y17 y22)] (J' 5 [y23,y20,y22,y23,t' y21])) (J' 4 [y17,y20,y24])) (J' 3 [y16,y17,y17,y19,y18])))) (W' [v' (P' y16 y10),v' (X' .lss y21 y1)] (.join 3 1 (.ite y22 (W' [w' 219 y20 [y0,y16,y21,y1,y2] []] (J' 3 [t' y23])) (J' 3 [y20])) (W' [v' (X' .mul y10 (ki 2))] (J' 2 [y24,y16,y17,y21,y15,y18,y19,y16,y21,y21,y22,y24,y23])))))) (J' 1 [y15,y16,y17,y27])) (J' 0 [y10,y11,y12,y10,y14,y13])))) (R' .ai y15)))
noncomputable def Zd:=e' 186 Tryz.f186 false false [143,186,218,219,259,278] [] [] [true,true,true] t186
theorem Wq:ak Tryz.prog Zd:=O' Tryz.func186

noncomputable def t89:T:=W' [c' 90 y2 [y1,y0] [true]] (R' y3 y2)
noncomputable def e89:=e' 89 Tryz.f89 true false [] [] [] [true,true] t89
theorem abI:ak Tryz.prog e89:=O' Tryz.func89

noncomputable def t144:T:=W' [v' (l' y4 y2),v' (l' y4 y3),v' (.av 1 y6 y0),v' (l' y4 y7),v' (l' y4 y3),v' (.av 1 y9 y1),v' (l' y4 y10),.ey [] y5 y4 [y8,y11] [true]] (R' y12 y4)
noncomputable def Zt:=e' 144 Tryz.f144 true false [] [] [] [true,true,true,true] t144
theorem WG:ak Tryz.prog Zt:=O' Tryz.func144

noncomputable def t7:T:=W' [v' (j' (z' y1) (j' (z' (ki 100000)) (j' (z' y1) (j' (.const (.agg [.v (.int .i64 0)])) (j' (z' (ki 100000)) (j' (z' y0) .nil)))))),v' (M' y1 (ki 1)),v' (.dR 3 1 y2 (.rep 8 y4 (.v (.int .i64 0)))),v' (j' (z' y0) (j' (z' y1) (j' (z' (.cY y2 (.rep 8 y4 (.v (.int .i64 0))))) .nil))),v' (j' (z' (ki 1)) (j' (.const (.agg [.v (.int .i64 0)])) .nil)),v' (j' (z' (ki 3)) (j' (.const (.agg [.v (.int .i64 0)])) .nil)),v' (.bP (.br 2 y7) (.bP (.br 2 y8) (.const (.a_ [])))),v' (j' (z' (ki 2)) (j' (.const (.agg [.v (.int .i64 0)])) (j' (.const (.agg [.v (.int .i64 0)])) (j' (.const (.agg [.v (.bool false)])) .nil)))),v' (.bP (.br 4 y10) (.const (.a_ []))),v' (.bP (z' (ki 0)) (.const (.a_ []))),v' (.bP (z' (ki 10)) (.bP (z' (ki 8)) (.bP (z' (ki 6)) (.bP (z' (ki 5)) (.bP (z' (ki 4)) (.bP (z' (ki 3)) (.const (.a_ [])))))))),v' (.bP (z' (ki 2)) (.bP (z' (ki 1)) (.const (.a_ [])))),v' (j' (.const (.agg [.v (.int .i64 0)])) (j' (.const (.agg [.v (.int .i64 0)])) (j' (.const (.agg [.v (.int .i64 0)])) (j' (.const (.agg [.v (.int .i64 0)])) (j' (z' y12) (j' (.const (.agg [.v (.bool false)])) (j' (.const (.agg [.v (.int .i64 0)])) (j' (z' (ki 1)) (j' (z' (ki 100)) (j' (z' (ki 0)) (j' (z' y13) (j' (z' y14) .nil)))))))))))),v' (j' (z' y11) (j' (z' (ki 1)) (j' (.br 12 y15) .nil))),v' (j' (z' (ki 1)) (j' (.const (.agg [.v (.int .i64 0)])) (j' (.const (.agg [.v (.int .i64 0)])) (j' (z' (ki 36000000)) .nil)))),v' (.bP (.br 4 y17) (.const (.a_ []))),v' (j' (z' y0) (j' (z' y18) (j' (z' (ki 30)) (j' (z' (ki 60)) (j' (.const (.agg [.v (.int .i64 0)])) (j' (.const (.agg [.v (.int .i64 0)])) .nil)))))),v' (j' (.br 6 y3) (j' (.br 3 y6) (j' (z' y9) (j' (.br 14 y16) (j' (.br 6 y19) .nil))))),v' (.br 30 y20)] (R' (pz 30 y21) y5)
noncomputable def e7:=e' 7 Tryz.f7 false true [] [13] [] [true,true] t7
theorem ok7:ak Tryz.prog e7:=O' Tryz.func7
end

section
open Go.Proofs
set_option maxRecDepth 100000

noncomputable def t35:T:=W' [c' 66 y3 [y0] [true],v' (N' y4)] (.ite y5 (R' (C' (.const (.a_ [])) (ki 1)) y3) (W' [v' (.nn y0),v' (p' 0 y6),v' (p' 5 y7),v' (l' y3 y8),v' (M' y9 (ki 1)),c' 41 y3 [y1,ki 0,y10] [true],v' (N' y11),.call [(y12,false)] 41 y3 [y2,ki 0,ki 100000] [true],f' y12 (N' y13),v' (.ite y12 (kb true) y14)] (.ite y15 (R' (C' (.const (.a_ [])) (ki 2)) y3) (W' [v' (.dO 67 (.ah y0 .ai) .ai),v' (.dO 68 (.ah y0 .ai) .ai),v' (.dO 69 (.ah y0 .ai) .ai),v' (.dO 70 (.ah y0 .ai) .ai),v' (.dO 71 (.ah y0 .ai) .ai),v' (.dO 72 (.ah y0 .ai) .ai),v' (.dO 73 (.ah y0 .ai) .ai),v' (.dO 74 (.ah y0 .ai) .ai),v' (.bP (z' y16) (.bP (z' y17) (.bP (z' y18) (.bP (z' y19) (.bP (z' y20) (.bP (z' y21) (.bP (z' y22) (.bP (z' y23) (.const (.a_ [])))))))))),v' (.bD y24)] (.join 0 3 (.loop 1 [.const (.a_ []),ki 0] (W' [v' (X' .lss y27 y25)] (.ite y28 (.join 2 6 (W' [v' (.av 1 y24 y27),v' (l' y3 y29),.ey [] y30 y3 [y1,y2] [true]] (.join 3 1 (.ite y31 (W' [v' (P' (ki 1) y27),v' (.bP (z' y32) (.const (.a_ []))),v' (.app 1 8 y26 y33)] (J' 3 [y34])) (J' 3 [y26])) (J' 2 [y32,y30,y29,y30,y30,y31]))) (W' [v' (P' y27 (ki 1))] (J' 1 [y29,y35]))) (J' 0 [y26,y27,y28])))) (R' (C' y26 (ki 0)) y3))))))
noncomputable def e35:=e' 35 Tryz.f35 true false [] [] [] [true,true,true] t35
theorem aci:ak Tryz.prog e35:=O' Tryz.func35

noncomputable def t70:T:=W' [v' (.nn y0),v' (p' 6 y4),v' (n' (.iL 2 3) y5 (ki 1)),v' (p' 0 y6),v' (l' y3 y7),v' (N' y8)] (R' y9 y3)
noncomputable def e70:=e' 70 Tryz.f70 true false [] [] [] [true,true,true] t70
theorem abU:ak Tryz.prog e70:=O' Tryz.func70

noncomputable def t73:T:=W' [v' (.dL (j' (z' y0) .nil)),v' (.dL (j' (z' y2) .nil)),v' (l' y3 y4),v' (.dO 134 .ai (C' y5 y4)),c' 131 y3 [y6,y7] [true]] (R' y8 y3)
noncomputable def e73:=e' 73 Tryz.f73 true false [] [] [] [true,true,true] t73
theorem abR:ak Tryz.prog e73:=O' Tryz.func73

noncomputable def t74:T:=W' [v' (.nn y0),v' (p' 14 y4),v' (l' y3 y5),v' (.sub 5 y6 y1 (.bD y6)),c' 135 y3 [y7,.const (.fn 136 [] [])] [true]] (R' y8 y3)
noncomputable def e74:=e' 74 Tryz.f74 true false [] [] [] [true,true,true] t74
theorem abQ:ak Tryz.prog e74:=O' Tryz.func74

noncomputable def t90:T:=W' [c' 145 y2 [y0] [true],c' 145 y2 [y1] [true]] (.ite y3 (.ite y4 (R' (ki 0) y2) (R' (ki (-1)) y2)) (.ite y4 (R' (ki 1) y2) (W' [v' (X' .lss y0 y1)] (.ite y5 (R' (ki (-1)) y2) (W' [v' (X' .gtr y0 y1)] (.ite y6 (R' (ki 1) y2) (R' (ki 0) y2)))))))
noncomputable def e90:=e' 90 Tryz.f90 true false [] [] [] [true,true] t90
theorem abH:ak Tryz.prog e90:=O' Tryz.func90

noncomputable def t46:T:=W' [v' (.fP y1)] (.join 0 3 (.loop 1 [y0,ki 0] (W' [v' (X' .lss y5 y3)] (.ite y6 (.join 2 5 (W' [v' (n' .kg y1 y5),v' (.conv .u64 y7),v' (X' .xor y4 y8),v' (X' .mul y9 (k' 1099511628211))] (J' 2 [y10,y7,y8,y9,y10])) (W' [v' (P' y5 (ki 1))] (J' 1 [y7,y12]))) (J' 0 [y4,y5,y6])))) (W' [v' (X' .mul y4 (k' 1099511628211))] (R' y7 y2)))
noncomputable def e46:=e' 46 Tryz.f46 true false [] [] [] [true,true] t46
theorem acd:ak Tryz.prog e46:=O' Tryz.func46

noncomputable def t91:T:=W' [c' 146 y2 [y0,y1] [true]] (R' y3 y2)
noncomputable def e91:=e' 91 Tryz.f91 true false [] [] [] [true,true] t91
theorem abG:ak Tryz.prog e91:=O' Tryz.func91

noncomputable def t135:T:=W' [c' 181 y2 [y0,y1] [true],v' (X' .geq y3 (ki 0))] (R' y4 y2)
noncomputable def Zx:=e' 135 Tryz.f135 true false [] [] [] [true,true] t135
theorem WK:ak Tryz.prog Zx:=O' Tryz.func135

noncomputable def t48:T:=W' [v' (.br 14 y0),v' (.bD (q' 0 y2)),c' 93 y1 [y3,ki 1,ki 100] [true],v' (N' y4),f' y5 (q' 1 y2),.call [(y5,false)] 93 y1 [y6,ki 1,ki 20] [true],f' y5 (N' y7),v' (.ite y5 (kb true) y8),f' y9 (q' 0 y2),f' y9 (.av 4 y10 (ki 0)),f' y9 (p' 1 y11),f' y9 (l' y1 y12),f' y9 (X' .neq y13 (ki 0)),v' (.ite y9 (kb true) y14)] (.ite y15 (R' (ki 2) y1) (W' [v' (.bD (q' 0 y2))] (.join 0 2 (.loop 1 [ki 0] (W' [v' (X' .lss y17 y16)] (.ite y18 (.join 2 14 (W' [v' (.av 4 (q' 0 y2) y17),v' (.ld true 4 y1 y19),v' (.br 4 y20),v' (X' .gtr y17 (ki 0)),g' y22 (q' 1 y21),g' y22 (q' 0 y2),g' y22 (M' y17 (ki 1)),g' y22 (.av 4 y24 y25),g' y22 (p' 1 y26),g' y22 (l' y1 y27),g' y22 (M' y23 y28),.call [(y22,true)] 93 y1 [y29,ki 0,ki 1] [true],g' y22 (N' y30),v' (.ite y22 y31 (kb false)),f' y32 (q' 1 y21),f' y32 (X' .geq y33 (ki 6)),v' (.ite y32 (kb true) y34)] (.ite y35 (R' (ki 2) y1) (.join 3 2 (W' [v' (Q' (q' 0 y21) (ki 1))] (.join 4 0 (.ite y36 (W' [c' 93 y1 [q' 2 y21,ki 0,ki 1440] [true],v' (N' y37)] (.ite y38 (R' (ki 2) y1) (J' 4 []))) (W' [v' (Q' (q' 0 y21) (ki 2))] (.ite y37 (W' [v' (X' .neq (q' 2 y21) (ki 0)),f' y38 (q' 3 y21),v' (.ite y38 (kb true) y39)] (.ite y40 (R' (ki 2) y1) (J' 4 []))) (R' (ki 2) y1)))) (J' 3 [y36,y36]))) (J' 2 [y19,y20,y22,y22,y32,y32,y35,q' 0 y21,y36,y37,q' 0 y21,q' 1 y21,q' 2 y21,q' 3 y21])))) (W' [v' (P' y17 (ki 1))] (J' 1 [y33]))) (J' 0 [y17,y18])))) (W' [v' (.bP (z' (q' 2 y2)) (.bP (z' (q' 3 y2)) (.bP (z' (q' 8 y2)) (.const (.a_ []))))),c' 94 y1 [y19,ki 3,ki 3,ki 36000000] [true],v' (N' y20),f' y21 (q' 4 y2),f' y21 (q' 5 y2),f' y21 (.bP (z' y22) (.bP (z' y23) (.const (.a_ [])))),.call [(y21,false)] 94 y1 [y24,ki 2,ki 2,ki 1440] [true],f' y21 (N' y25),v' (.ite y21 (kb true) y26),f' y27 (q' 6 y2),.call [(y27,false)] 94 y1 [y28,ki 1,ki 10,ki 36000000] [true],f' y27 (N' y29),v' (.ite y27 (kb true) y30)] (.ite y31 (R' (ki 2) y1) (W' [v' (X' .lss (q' 9 y2) (ki 1)),f' y32 (q' 9 y2),f' y32 (X' .gtr y33 (ki 4)),v' (.ite y32 (kb true) y34),f' y35 (q' 10 y2),.call [(y35,false)] 93 y1 [y36,ki 100,ki 1000] [true],f' y35 (N' y37),v' (.ite y35 (kb true) y38),f' y39 (q' 12 y2),.call [(y39,false)] 94 y1 [y40,ki 0,ki 60,ki 1000] [true],f' y39 (N' y41),v' (.ite y39 (kb true) y42),f' y43 (q' 13 y2),.call [(y43,false)] 94 y1 [y44,ki 0,ki 60,ki 1000] [true],f' y43 (N' y45),v' (.ite y43 (kb true) y46)] (.ite y47 (R' (ki 2) y1) (W' [v' (.bD (q' 0 y2)),v' (M' y48 (ki 1)),c' 93 y1 [q' 11 y2,ki (-1),y49] [true],v' (N' y50),f' y51 (q' 11 y2),f' y51 (X' .geq y52 (ki 0)),f' y51 (G' y53 (q' 0 y2)),f' y51 (G' y53 (q' 11 y2)),f' y51 (G' y53 (.av 4 y54 y55)),f' y51 (G' y53 (p' 0 y56)),f' y51 (G' y53 (l' y1 y57)),f' y51 (G' y53 (X' .neq y58 (ki 2))),f' y51 (.ite y53 y59 (kb false)),v' (.ite y51 (kb true) y60)] (.ite y61 (R' (ki 2) y1) (R' (ki 0) y1))))))))))
noncomputable def e48:=e' 48 Tryz.f48 true false [] [] [] [false] t48
theorem ab9:ak Tryz.prog e48:=O' Tryz.func48

noncomputable def t43:T:=W' [v' (X' .geq y0 y1),g' y4 (X' .leq y0 y2),v' (.ite y4 y5 (kb false))] (R' y6 y3)
noncomputable def e43:=e' 43 Tryz.f43 true false [] [] [] [true,true,true] t43
theorem V9:ak Tryz.prog e43:=O' Tryz.func43

noncomputable def t51:T:=W' [c' 96 y2 [y0,y1] [true],v' (X' .geq y3 (ki 0))] (R' y4 y2)
noncomputable def e51:=e' 51 Tryz.f51 true false [] [] [] [true,true] t51
theorem ab6:ak Tryz.prog e51:=O' Tryz.func51

noncomputable def t56:T:=W' [v' (.br 3 y0),c' 97 y2 [q' 0 y3,ki 1,ki 200] [true],v' (N' y4),f' y5 (q' 1 y3),.call [(y5,false)] 97 y2 [y6,ki 2,ki 30] [true],f' y5 (N' y7),v' (.ite y5 (kb true) y8),f' y9 (q' 2 y3),f' y9 (.bD y10),f' y9 (q' 1 y3),f' y9 (M' y12 (ki 1)),f' y9 (X' .neq y11 y13),v' (.ite y9 (kb true) y14),f' y15 (.bD y1),f' y15 (X' .gtr y16 (ki 50)),v' (.ite y15 (kb true) y17)] (.ite y18 (R' (kb false) y2) (W' [c' 85 y2 [q' 2 y3,.const (.fn 98 [] [])] [true],v' (N' y19),.call [(y20,true)] 99 y2 [y1,.const (.fn 100 [] [])] [true],g' y20 (N' y21),v' (.ite y20 y22 (kb false))] (R' y23 y2)))
noncomputable def e56:=e' 56 Tryz.f56 true false [] [] [] [false,true] t56
theorem ab1:ak Tryz.prog e56:=O' Tryz.func56

noncomputable def t193:T:=W' [v' (.fP y0),v' (.fP y1),v' (X' .geq y3 y4),g' y5 (.fP y1),g' y5 (o' .mS y0 (ki 0) y6),g' y5 (.bin .eql .str y7 y1),v' (.ite y5 y8 (kb false))] (R' y9 y2)
noncomputable def Za:=e' 193 Tryz.f193 true false [] [] [] [true,true] t193
theorem Wn:ak Tryz.prog Za:=O' Tryz.func193

noncomputable def t181:T:=W' [v' (.bD y0)] (.join 0 2 (.loop 1 [ki 0] (W' [v' (X' .lss y4 y3)] (.ite y5 (.join 2 3 (W' [v' (.av 5 y0 y4),v' (.ld true 5 y2 y6),.ey [] y1 y2 [y7] [true]] (.ite y8 (R' y4 y2) (J' 2 [y6,y7,y8]))) (W' [v' (P' y4 (ki 1))] (J' 1 [y9]))) (J' 0 [y4,y5])))) (R' (ki (-1)) y2))
noncomputable def Zf:=e' 181 Tryz.f181 true false [] [] [] [true,true] t181
theorem Ws:ak Tryz.prog Zf:=O' Tryz.func181

noncomputable def t94:T:=W' [v' (.dL (j' (z' y3) .nil)),v' (.bD y0),c' 93 y4 [y6,y1,y2] [true],g' y7 (.dO 153 .ai (.ah y5 .ai)),.call [(y7,true)] 85 y4 [y0,y8] [true],g' y7 (N' y9),v' (.ite y7 y10 (kb false))] (R' y11 y4)
noncomputable def e94:=e' 94 Tryz.f94 true false [] [] [] [true,true,true,true] t94
theorem abE:ak Tryz.prog e94:=O' Tryz.func94

noncomputable def t155:T:=W' [c' 196 y2 [y0,y1] [true],v' (X' .geq y3 (ki 0))] (.ite y4 (W' [v' (o' .mS y0 (ki 0) y3),v' (.fP y1),v' (P' y3 y6),v' (o' .mS y0 y7 (.fP y0))] (R' (D' y5 y8 (kb true)) y2)) (R' (D' y0 (Z' #[]) (kb false)) y2))
noncomputable def Zl:=e' 155 Tryz.f155 true false [] [] [] [true,true] t155
theorem Wy:ak Tryz.prog Zl:=O' Tryz.func155

noncomputable def t223:T:=W' [v' (M' y0 (ki 1)),v' (X' .and y0 y2),v' (Q' y3 (ki 0))] (R' y4 y1)
noncomputable def Ub:=e' 223 Tryz.f223 true true [] [] [] [true] t223
theorem Q4:ak Tryz.prog Ub:=O' Tryz.func223

noncomputable def t227:T:=W' [v' (n' .UE y0 y1)] (R' y3 y2)
noncomputable def Y5:=e' 227 Tryz.f227 true false [] [] [] [true,true] t227
theorem Wg:ak Tryz.prog Y5:=O' Tryz.func227

noncomputable def t25:T:=W' [v' (.br 3 y0),c' 56 y2 [pz 3 y3,y1] [true],v' (N' y4)] (.ite y5 (R' (C' (.const (.v (.pointer none))) (ki 2)) y2) (W' [c' 52 y2 [q' 2 y3] [true],c' 53 (.const (.st [])) [m' .dH y1] [true],v' (m' .JN y2),v' (j' (.br 3 (j' (q' 0 y3) (j' (q' 1 y3) (j' y6 .nil)))) (j' (z' y7) (j' (z' (m' .gu y2)) .nil))),v' (.fK 150 5 y8 (.br 5 y9))] (R' (C' (.aC y8) (ki 0)) y10)))
noncomputable def e25:Entry:={ f:=25,kn:=.plain,cf:={ (aj false ([]++cI) cJ [19] [] Tryz.f25) with aN:=true,cE:=true,Px:=[53] },own:=false,aL:=[false,true],t:=t25 }
theorem acp:ak Tryz.prog e25:=O' Tryz.func25

noncomputable def t103:T:=W' [v' (.br 2 y1)] (.join 0 3 (W' [v' (.bin .eql .str (q' 0 y3) (Z' #[112,111,115,116]))] (.join 1 1 (.ite y4 (J' 1 [y4]) (W' [v' (.bin .eql .str (q' 0 y3) (Z' #[114,101,100]))] (.join 2 1 (.ite y5 (J' 2 [y5]) (W' [v' (.bin .eql .str (q' 0 y3) (Z' #[103,114,101,101,110]))] (J' 2 [y6]))) (J' 1 [y6])))) (.join 1 1 (.ite y5 (.fR 156 y2 [pz 2 y3,ki 2] [true] [] [] (W' [v' (m' .JN (t' y6)),v' (.m4 (.put .str) y7 (m' .gu (t' y6)) (Z' #[112,111,115,116]) (ki 3)),v' (.m4 (.put .str) y8 (m' .gu (t' y6)) (Z' #[114,101,100]) (ki 4)),v' (.m4 (.put .str) y9 (m' .gu (t' y6)) (Z' #[103,114,101,101,110]) (ki 5)),v' (.m4 (.get .str false) y10 (m' .gu (t' y6)) (q' 0 y3) (ki 0)),v' (.nn y0),v' (p' 30 y12),v' (l' y10 y13),v' (.av 1 (s' y6) (ki 0)),v' (l' y10 y15),v' (.av 1 (s' y6) (ki 1)),v' (l' y10 y17),v' (j' (z' y11) (j' (z' y18) (j' (z' y16) (j' (.const (.agg [.v (.int .i64 0)])) .nil)))),w' 158 y10 [y14,y19] [true]] (.gV 157 (t' y20) [s' y20] [] [] [] (J' 1 [t' y20])))) (.fR 156 y2 [pz 2 y3,ki 1] [true] [] [] (W' [v' (m' .JN (t' y6)),v' (.m4 (.put .str) y7 (m' .gu (t' y6)) (Z' #[111,112,101,110]) (ki 1)),v' (.m4 (.put .str) y8 (m' .gu (t' y6)) (Z' #[99,108,111,115,101]) (ki 2)),v' (.m4 (.put .str) y9 (m' .gu (t' y6)) (Z' #[99,111,118,101,114,101,100]) (ki 6)),v' (.m4 (.put .str) y10 (m' .gu (t' y6)) (Z' #[117,110,99,111,118,101,114,101,100]) (ki 7)),v' (.m4 (.get .str false) y11 (m' .gu (t' y6)) (q' 0 y3) (ki 0)),v' (.nn y0),v' (p' 30 y13),v' (l' y11 y14),v' (.av 1 (s' y6) (ki 0)),v' (l' y11 y16),v' (j' (z' y12) (j' (z' y17) (j' (.const (.agg [.v (.int .i64 0)])) (j' (.const (.agg [.v (.int .i64 0)])) .nil)))),w' 158 y11 [y15,y18] [true]] (.gV 157 (t' y19) [s' y19] [] [] [] (J' 1 [t' y19]))))) (J' 0 [y5,y4,y6])))) (R' .ai y6))
noncomputable def ZC:=e' 103 Tryz.f103 false false [156] [] [] [true,false] t103
theorem WQ:ak Tryz.prog ZC:=O' Tryz.func103

noncomputable def t52:T:=.jR y0 false (.ite y2 (R' (.const (.a_ [])) y1) (W' [v' (.const (.a_ [])),v' (.app 1 8 y3 y0)] (R' y4 y1)))
noncomputable def e52:=e' 52 Tryz.f52 true false [] [] [] [true] t52
theorem ab5:ak Tryz.prog e52:=O' Tryz.func52

noncomputable def t5:T:=W' [v' (.bP (z' (ki 1)) (.bP (z' (ki 1)) (.bP (z' (ki 1)) (.const (.a_ []))))),c' 17 y0 [ki 10,y1] [true,true],v' (j' (.const (.agg [.v (.int .i64 0)])) (j' (z' (ki 1)) (j' (z' (ki 7)) (j' (.const (.agg [.cO])) .nil)))),v' (.bP (.br 4 y3) (.const (.a_ []))),v' (j' (z' (ki 2)) (j' (z' y4) .nil)),c' 16 y0 [y5,ki 0,ki 3] [true,true],v' (.bP (z' (Z' #[111,112,101,110,32,48])) (.const (.a_ []))),c' 18 y0 [y7] [true],v' (Q' (t' y2) (ki 0)),g' y9 (t' y6),g' y9 (Q' y10 (ki 0)),v' (.ite y9 y11 (kb false)),g' y12 (s' y2),g' y12 (.bP (z' (ki 4)) (.bP (z' (ki 3)) (.bP (z' (ki 3)) (.const (.a_ []))))),.call [(y12,true)] 19 y0 [y13,y14] [true],v' (.ite y12 y15 (kb false)),g' y16 (s' y6),g' y16 (.bP (z' (ki 3)) (.bP (z' (ki 10)) (.const (.a_ [])))),.call [(y16,true)] 19 y0 [y17,y18] [true],v' (.ite y16 y19 (kb false)),g' y20 (.bP (z' (Z' #[111,112,101,110,32,48])) (.const (.a_ []))),.call [(y20,true)] 21 y0 [y21] [true],.call [(y20,true)] 20 y0 [y8,y22] [true],v' (.ite y20 y23 (kb false))] (R' y24 y0)
noncomputable def e5:=e' 5 Tryz.f5 true true [] [] [] [] t5
theorem ok5:ak Tryz.prog e5:=O' Tryz.func5

noncomputable def t45:T:=W' [v' (.bD y1)] (.join 0 3 (.loop 1 [ki 0,ki 0] (W' [v' (X' .lss y5 y3)] (.ite y6 (.join 2 6 (W' [v' (.av 1 y1 y5),v' (l' y2 y7),v' (P' y4 y8)] (J' 2 [y9,y8,y7,y8,y8,y9])) (W' [v' (P' y5 (ki 1))] (J' 1 [y7,y13]))) (J' 0 [y4,y5,y6])))) (W' [v' (.bD y1),v' (.rep 8 y7 (.v (.int .i64 0))),v' (.bD y1),v' (.rep 8 y9 (.v (.int .i64 0))),v' (.bD y1)] (.join 0 5 (.loop 1 [y0,ki 0,y8,y10] (W' [v' (X' .lss y13 y11)] (.ite y16 (.join 2 14 (W' [v' (.av 1 y1 y13),v' (l' y2 y17),v' (X' .mul y0 y18),v' (X' .quo y19 y4),v' (X' .mul y0 y18),v' (X' .rem y21 y4),v' (.idx y14 y13),v' (.set y14 y13 0 y20),v' (.idx y15 y13),v' (.set y15 y13 0 y22),v' (.idx y24 y13),v' (q' 0 (.idx y24 y13)),v' (M' y12 y28)] (J' 2 [y29,y18,y17,y18,y18,y19,y20,y18,y21,y22,y28,y29,y24,y26])) (W' [v' (P' y13 (ki 1))] (J' 1 [y17,y31,y29,y30]))) (J' 0 [y12,y13,y16,y14,y15])))) (W' [w' 88 y2 [y16,.const (.fn 89 [] [])] [true],v' (.sub 1 (s' y17) (ki 0) y12),v' (.bD y18)] (.join 0 3 (.loop 1 [ki 0,y15] (W' [v' (X' .lss y20 y19)] (.ite y22 (.join 2 7 (W' [v' (.av 1 y18 y20),v' (l' (t' y17) y23),v' (.idx y21 y24),v' (q' 0 (.idx y21 y24)),v' (P' y26 (ki 1)),v' (.idx y21 y24),v' (.set y21 y24 0 y27)] (J' 2 [y24,y23,y24,y24,y26,y27,y29])) (W' [v' (P' y20 (ki 1))] (J' 1 [y30,y29]))) (J' 0 [y20,y22,y21])))) (R' y22 (t' y17)))))))
noncomputable def e45:=e' 45 Tryz.f45 false true [88] [] [(15,30)] [true,true] t45
theorem ace:ak Tryz.prog e45:=O' Tryz.func45

noncomputable def t82:T:=W' [v' (.dL (j' (z' y0) .nil)),v' (.dL (j' (z' y1) .nil)),v' (.dO 83 .ai (D' y2 y4 y5))] (R' y6 y3)
noncomputable def e82:=e' 82 Tryz.f82 true false [] [] [] [true,true,true] t82
theorem abO:ak Tryz.prog e82:=O' Tryz.func82

noncomputable def t84:T:=W' [v' (.br 4 y0),v' (.bD (q' 3 y3))] (.join 0 3 (.loop 1 [y1,ki 0] (W' [v' (X' .lss y6 y4)] (.ite y7 (.join 2 10 (W' [v' (.av 2 (q' 3 y3) y6),v' (.ld true 2 y2 y8),v' (.br 2 y9),v' (P' y5 (q' 2 y3)),v' (X' .gtr y11 (q' 0 y10)),g' y12 (q' 1 y10),g' y12 (X' .lss y5 y13),v' (.ite y12 y14 (kb false))] (.join 3 1 (.ite y15 (J' 3 [q' 1 y10]) (J' 3 [y5])) (J' 2 [y16,y8,y9,y11,q' 0 y10,y12,y12,y15,q' 0 y10,q' 1 y10]))) (W' [v' (P' y6 (ki 1))] (J' 1 [y8,y18]))) (J' 0 [y5,y6,y7])))) (R' y5 y2))
noncomputable def e84:=e' 84 Tryz.f84 true false [] [] [] [false,true] t84
theorem abM:ak Tryz.prog e84:=O' Tryz.func84

noncomputable def t81:T:=W' [v' (.br 2 y1),v' (.dR 3 1 y3 (.rep 8 y0 (.v (.int .i64 0)))),v' (.fK 22 1 y5 (.const (.agg [.cO]))),v' (.eY 1 y6 (.aC y5) (.cY y3 (.rep 8 y0 (.v (.int .i64 0))))),v' (l' y7 (.aC y5)),v' (.bD y8)] (.join 0 3 (.loop 1 [ki 0,y7] (W' [v' (X' .lss y10 y9)] (.ite y12 (.join 2 3 (W' [v' (l' y11 (.aC y5)),v' (.av 1 y13 y10),v' (.eY 1 y11 y14 (ki 9223372036854775807))] (J' 2 [y13,y14,y15])) (W' [v' (P' y10 (ki 1))] (J' 1 [y16,y15]))) (J' 0 [y10,y12,y11])))) (W' [v' (l' y12 (.aC y5)),v' (.av 1 y13 (q' 0 y4)),v' (.eY 1 y12 y14 (q' 1 y4)),v' (.dR 196 2 y15 (.bP (.br 2 (pz 2 y4)) (.const (.a_ [])))),v' (.fK 250 1 y16 (j' (z' (.cY y15 (.bP (.br 2 (pz 2 y4)) (.const (.a_ []))))) .nil)),v' (.fK 252 1 y17 (.const (.agg [.v .nilIface]))),v' (.eY 1 y18 (.aC y17) (.fq 248 (.aC y16)))] (.join 0 4 (.loop 1 [y19] (W' [v' (l' y20 (.aC y17)),c' 299 y20 [l' y20 (m' (.ed 248) y21)] [true],v' (X' .gtr y22 (ki 0))] (.ite y23 (.join 2 11 (W' [v' (l' y20 (.aC y17)),w' 303 y20 [m' (.ed 248) y24] [false],v' (.br 2 (s' y25)),v' (l' (t' y25) (.aC y5)),v' (.av 1 y27 (q' 0 y26)),v' (l' (t' y25) y28),v' (X' .gtr (q' 1 y26) y29)] (.ite y30 (J' 2 [y24,s' y25,q' 1 y26,y27,q' 0 y26,y28,y29,y30,q' 0 y26,q' 1 y26,t' y25]) (W' [.ey [] y2 (t' y25) [q' 0 y26,q' 1 y26] [true]] (.join 3 1 (.lZ y31 (t' y25) [0,1,2,7,9,12,13,14,15,16,17,23,25,27,28,30,31,32,33,34,35,36,37,39,40,42,43,44,45,46,48,50,51] [y0,y1,y2,.aC y5,.aC y17,y0,.cY y3 (.rep 8 y0 (.v (.int .i64 0))),y8,y9,y10,y11,y13,q' 0 y4,q' 1 y4,y14,.cY y15 (.bP (.br 2 (pz 2 y4)) (.const (.a_ []))),.aC y16,.fq 248 (.aC y16),y21,y22,y23,y24,s' y25,q' 1 y26,y27,q' 0 y26,y28,y29,y30,y2,q' 0 y26,q' 1 y26,y31] 1 4 (W' [v' (.fK 196 2 y32 (.const (.agg [.v (.int .i64 0),.v (.int .i64 0)]))),v' (.eY 2 y34 (.aC y32) y33)] (.join 5 9 (W' [v' (p' 1 (.aC y32)),v' (l' y35 y36),v' (l' y35 (.aC y5)),v' (p' 0 (.aC y32)),v' (l' y35 y39),v' (.av 1 y38 y40),v' (l' y35 y41),v' (X' .lss y37 y42)] (.join 6 1 (.ite y43 (W' [v' (l' y35 (.aC y5)),v' (p' 0 (.aC y32)),v' (l' y35 y45),v' (p' 1 (.aC y32)),v' (l' y35 y47),v' (.av 1 y44 y46),v' (.eY 1 y35 y49 y48),v' (l' y50 (.aC y17)),v' (.ld true 2 y50 (.aC y32)),w' 141 y50 [y51,.fq 196 y52] []] (J' 6 [t' y53])) (J' 6 [y35])) (J' 5 [y36,y37,y38,y39,y40,y41,y42,y43,y44]))) (J' 4 [y44]))) (J' 3 [y32])) (J' 2 [y24,s' y25,q' 1 y26,y27,q' 0 y26,y28,y29,y30,q' 0 y26,q' 1 y26,y32]))))) (J' 1 [y34])) (J' 0 [y21,y22,y23,y20])))) (W' [v' (l' y23 (.aC y5))] (R' y24 y23)))))
noncomputable def e81:Entry:={ f:=81,kn:=.plain,cf:={ (aj false ([141,304,185,305,301,311,302,303]++cI) cJ [13,30,31] [] Tryz.f81) with aN:=true,cE:=true,yU:=[(34,248),(37,248)] },own:=false,aL:=[true,false,true],t:=t81 }
theorem abP:ak Tryz.prog e81:=O' Tryz.func81

noncomputable def t42:T:=W' [v' (.dL (.br 2 y0)),v' (p' 0 y4),v' (l' y3 y5),v' (j' (z' y1) (j' (z' y2) .nil)),v' (.dO 82 .ai (.ah y4 .ai)),w' 81 y3 [y6,y7,y8] [true],v' (.bD (s' y9))] (.join 0 3 (.loop 1 [ki 0,t' y9] (W' [v' (X' .lss y11 y10)] (.ite y13 (.join 2 6 (W' [v' (.av 1 (s' y9) y11),v' (l' y12 y14),v' (Q' y15 (ki 9223372036854775807))] (.join 3 1 (.ite y16 (W' [v' (.av 1 (s' y9) y11),v' (.eY 1 y12 y17 (ki (-1)))] (J' 3 [y18])) (J' 3 [y12])) (J' 2 [y15,y14,y15,y15,y16,y17]))) (W' [v' (P' y11 (ki 1))] (J' 1 [y20,y19]))) (J' 0 [y11,y13,y12])))) (R' (s' y9) y13))
noncomputable def e42:=e' 42 Tryz.f42 false true [81] [] [] [false,true,true] t42
theorem acg:ak Tryz.prog e42:=O' Tryz.func42

noncomputable def t185:T:=.join 0 11 (.loop 1 [y1,y2] (.join 2 11 (W' [v' (M' y3 (ki 1)),v' (X' .quo y5 (ki 2)),v' (Q' y6 y3),.call [(y7,false)] 300 y4 [l' y4 (m' (.ed 248) y0),y3,y6] [true],f' y7 (N' y8),v' (.ite y7 (kb true) y9)] (.ite y10 (J' 0 [y3,y6,y3,y5,y6,y6,y3,y7,y7,y10,y4]) (W' [w' 302 y4 [l' y4 (m' (.ed 248) y0),y6,y3] []] (J' 2 [y6,y6,y5,y6,y6,y7,y7,y10,y6,y6,t' y11])))) (J' 1 [y5,y15]))) (R' .ai y13)
noncomputable def Ze:Entry:={ f:=185,kn:=.plain,cf:={ (aj false ([141,304,185,305,301,311,302,303]++cI) cJ [] [] Tryz.f185) with aN:=true,cE:=true,yU:=[(15,248),(21,248)] },own:=false,aL:=[true,true],t:=t185 }
theorem Wr:ak Tryz.prog Ze:=O' Tryz.func185

noncomputable def t304:T:=W' [c' 299 y1 [l' y1 (m' (.ed 248) y0)] [true],v' (M' y2 (ki 1)),w' 302 y1 [l' y1 (m' (.ed 248) y0),ki 0,y3] [],w' 305 (t' y4) [y0,ki 0,y3] [true],w' 311 (t' y5) [m' (.ed 248) y0] [true]] (R' (s' y6) (t' y6))
noncomputable def Y0:Entry:={ f:=304,kn:=.plain,cf:={ (aj false ([141,304,185,305,301,311,302,303]++cI) cJ [] [] Tryz.f304) with aN:=true,cE:=true,yU:=[(5,248),(9,248),(14,248)] },own:=false,aL:=[true],t:=t304 }
theorem Wb:ak Tryz.prog Y0:=O' Tryz.func304
end

section
open Go.Proofs
set_option maxRecDepth 100000

noncomputable def t69:T:=W' [v' (.dL (j' (z' y0) .nil)),v' (.dL (j' (z' y2) .nil)),v' (l' y3 y4),v' (.nn y6),v' (p' 13 y7),v' (l' y3 y8),v' (.dO 130 .ai (C' y5 y4)),c' 128 y3 [y9,y10] [true]] (R' y11 y3)
noncomputable def e69:=e' 69 Tryz.f69 true false [] [] [] [true,true,true] t69
theorem abV:ak Tryz.prog e69:=O' Tryz.func69

noncomputable def t72:T:=W' [v' (.dL (j' (z' y0) .nil)),v' (.dL (j' (z' y2) .nil)),v' (l' y3 y4),v' (.dO 133 .ai (C' y4 y5)),c' 131 y3 [y6,y7] [true]] (R' y8 y3)
noncomputable def e72:=e' 72 Tryz.f72 true false [] [] [] [true,true,true] t72
theorem abS:ak Tryz.prog e72:=O' Tryz.func72

noncomputable def t147:T:=.ite (kb false) (W' [v' (.conv .u32 y0),v' (.conv .u32 y1),c' 191 y2 [y3,y4] [true,true],v' (.conv .u64 (s' y5)),v' (.conv .u64 (t' y5))] (R' (C' y6 y7) y2)) (W' [c' 192 y2 [y0,y1] [true,true]] (R' (C' (s' y3) (t' y3)) y2))
noncomputable def Zq:=e' 147 Tryz.f147 true false [] [] [] [true,true] t147
theorem WC:ak Tryz.prog Zq:=O' Tryz.func147

noncomputable def t148:T:=W' [c' 193 y2 [y0,y1] [true]] (R' y3 y2)
noncomputable def Zp:=e' 148 Tryz.f148 true false [] [] [] [true,true] t148
theorem WB:ak Tryz.prog Zp:=O' Tryz.func148

noncomputable def t130:T:=W' [v' (.br 3 y0),v' (N' (q' 2 y4)),f' y5 (l' y3 y1),f' y5 (q' 1 y4),f' y5 (M' y6 y7),f' y5 (l' y3 y2),f' y5 (.nn y9),f' y5 (p' 0 y10),f' y5 (p' 1 y11),f' y5 (l' y3 y12),f' y5 (X' .gtr y8 y13),v' (.ite y5 (kb true) y14)] (R' y15 y3)
noncomputable def Zz:=e' 130 Tryz.f130 true false [] [] [] [false,true,true] t130
theorem WM:ak Tryz.prog Zz:=O' Tryz.func130

noncomputable def t97:T:=W' [v' (X' .geq y0 y1),g' y4 (X' .leq y0 y2),v' (.ite y4 y5 (kb false))] (R' y6 y3)
noncomputable def e97:=e' 97 Tryz.f97 true false [] [] [] [true,true,true] t97
theorem abC:ak Tryz.prog e97:=O' Tryz.func97

noncomputable def t145:T:=W' [v' (X' .neq y0 y0)] (R' y2 y1)
noncomputable def Zs:=e' 145 Tryz.f145 true false [] [] [] [true] t145
theorem WE:ak Tryz.prog Zs:=O' Tryz.func145

noncomputable def t49:T:=W' [v' (.br 6 y0),c' 43 y1 [q' 0 y2,ki 1,ki 200] [true],v' (N' y3),f' y4 (q' 1 y2),f' y4 (.bD y5),.call [(y4,false)] 43 y1 [y6,ki 1,ki 500] [true],f' y4 (N' y7),v' (.ite y4 (kb true) y8),f' y9 (q' 2 y2),.call [(y9,false)] 43 y1 [y10,ki 0,ki 10000] [true],f' y9 (N' y11),v' (.ite y9 (kb true) y12),f' y13 (q' 3 y2),.call [(y13,false)] 43 y1 [y14,ki 0,ki 10000] [true],f' y13 (N' y15),v' (.ite y13 (kb true) y16),f' y17 (q' 4 y2),.call [(y17,false)] 43 y1 [y18,ki 0,ki 1000000000] [true],f' y17 (N' y19),v' (.ite y17 (kb true) y20),f' y21 (q' 5 y2),.call [(y21,false)] 43 y1 [y22,ki 0,ki 1000000000] [true],f' y21 (N' y23),v' (.ite y21 (kb true) y24)] (.ite y25 (R' (ki 2) y1) (W' [v' (.bD (q' 1 y2))] (.join 0 2 (.loop 1 [ki 0] (W' [v' (X' .lss y27 y26)] (.ite y28 (.join 2 16 (W' [v' (.av 4 (q' 1 y2) y27),v' (.ld true 4 y1 y29),v' (.br 4 y30),c' 43 y1 [q' 0 y31,ki 1,ki 10000] [true],v' (N' y32),f' y33 (q' 1 y31),.call [(y33,false)] 43 y1 [y34,ki 0,ki 10000000] [true],f' y33 (N' y35),v' (.ite y33 (kb true) y36),f' y37 (q' 2 y31),f' y37 (q' 3 y31),.call [(y37,false)] 43 y1 [y38,ki 0,y39] [true],f' y37 (N' y40),v' (.ite y37 (kb true) y41),f' y42 (q' 3 y31),f' y42 (X' .gtr y43 (ki 36000000)),v' (.ite y42 (kb true) y44)] (.ite y45 (R' (ki 2) y1) (W' [v' (X' .gtr y27 (ki 0))] (.join 3 0 (.ite y46 (W' [v' (M' y27 (ki 1)),v' (.av 4 (q' 1 y2) y47),v' (.ld true 4 y1 y48),v' (.br 4 y49),c' 90 y1 [q' 0 y50,q' 0 y31] [true],c' 90 y1 [q' 1 y50,q' 1 y31] [true],v' (.bP (z' y51) (.bP (z' y52) (.const (.a_ [])))),c' 95 y1 [y53] [true],v' (X' .geq y54 (ki 0))] (.ite y55 (R' (ki 2) y1) (J' 3 []))) (J' 3 [])) (J' 2 [y29,y30,q' 0 y31,y32,y33,y33,y37,y37,y42,y42,y45,y46,q' 0 y31,q' 1 y31,q' 2 y31,q' 3 y31]))))) (W' [v' (P' y27 (ki 1))] (J' 1 [y45]))) (J' 0 [y27,y28])))) (R' (ki 0) y1))))
noncomputable def e49:=e' 49 Tryz.f49 true false [] [] [] [false] t49
theorem ab8:ak Tryz.prog e49:=O' Tryz.func49

noncomputable def t53:T:=.jR y0 false (.ite y2 (R' (.const (.a_ [])) y1) (W' [v' (.const (.a_ [])),v' (.app 2 16 y3 y0)] (R' y4 y1)))
noncomputable def e53:=e' 53 Tryz.f53 true false [] [] [] [true] t53
theorem ab4:ak Tryz.prog e53:=O' Tryz.func53

noncomputable def t190:T:=W' [v' (X' .lss y2 (ki 2)),f' y6 (Q' y2 (ki 10)),v' (.ite y6 (kb true) y7),f' y8 (X' .gtr y2 (ki 36)),v' (.ite y8 (kb true) y9)] (.join 0 0 (.ite y10 (.dI (m' .td (.fq 9 (Z' #[115,116,114,99,111,110,118,58,32,105,108,108,101,103,97,108,32,65,112,112,101,110,100,73,110,116,47,70,111,114,109,97,116,73,110,116,32,98,97,115,101]))) y5 [] []) (J' 0 [])) (W' [v' (.fK 346 65 y5 (.const (.agg [.v (.int .u8 0),.v (.int .u8 0),.v (.int .u8 0),.v (.int .u8 0),.v (.int .u8 0),.v (.int .u8 0),.v (.int .u8 0),.v (.int .u8 0),.v (.int .u8 0),.v (.int .u8 0),.v (.int .u8 0),.v (.int .u8 0),.v (.int .u8 0),.v (.int .u8 0),.v (.int .u8 0),.v (.int .u8 0),.v (.int .u8 0),.v (.int .u8 0),.v (.int .u8 0),.v (.int .u8 0),.v (.int .u8 0),.v (.int .u8 0),.v (.int .u8 0),.v (.int .u8 0),.v (.int .u8 0),.v (.int .u8 0),.v (.int .u8 0),.v (.int .u8 0),.v (.int .u8 0),.v (.int .u8 0),.v (.int .u8 0),.v (.int .u8 0),.v (.int .u8 0),.v (.int .u8 0),.v (.int .u8 0),.v (.int .u8 0),.v (.int .u8 0),.v (.int .u8 0),.v (.int .u8 0),.v (.int .u8 0),.v (.int .u8 0),.v (.int .u8 0),.v (.int .u8 0),.v (.int .u8 0),.v (.int .u8 0),.v (.int .u8 0),.v (.int .u8 0),.v (.int .u8 0),.v (.int .u8 0),.v (.int .u8 0),.v (.int .u8 0),.v (.int .u8 0),.v (.int .u8 0),.v (.int .u8 0),.v (.int .u8 0),.v (.int .u8 0),.v (.int .u8 0),.v (.int .u8 0),.v (.int .u8 0),.v (.int .u8 0),.v (.int .u8 0),.v (.int .u8 0),.v (.int .u8 0),.v (.int .u8 0),.v (.int .u8 0)])))] (.join 0 1 (.ite y3 (W' [v' (.un .neg y1)] (J' 0 [y12])) (J' 0 [y1])) (W' [c' 223 y11 [y2] [true]] (.join 0 3 (.ite y13 (W' [v' (.conv .u64 y2),c' 224 y11 [y14] [true],v' (.conv .u64 y15),v' (.conv .u64 y2),v' (.conv .u64 y2),v' (M' y18 (k' 1))] (.join 1 5 (.loop 2 [y12,ki 65,y11] (W' [v' (X' .geq y20 y17)] (.ite y23 (.join 3 9 (W' [v' (M' y21 (ki 1)),v' (X' .and y20 y19),v' (n' .kg (Z' #[48,49,50,51,52,53,54,55,56,57,97,98,99,100,101,102,103,104,105,106,107,108,109,110,111,112,113,114,115,116,117,118,119,120,121,122]) y25),v' (n' (.iL 65 1) (.aC y5) y24),v' (.eY 1 y22 y27 y26),v' (X' .shr y20 y16)] (J' 3 [y29,y24,y24,y24,y25,y26,y27,y29,y28])) (J' 2 [y24,y25,y32])) (J' 1 [y20,y21,y20,y23,y22])))) (W' [v' (M' y21 (ki 1)),v' (n' .kg (Z' #[48,49,50,51,52,53,54,55,56,57,97,98,99,100,101,102,103,104,105,106,107,108,109,110,111,112,113,114,115,116,117,118,119,120,121,122]) y20),v' (n' (.iL 65 1) (.aC y5) y25),v' (.eY 1 y24 y27 y26)] (J' 0 [y20,y25,y28])))) (W' [v' (.conv .u64 y2)] (.join 1 5 (.loop 2 [y12,ki 65,y11] (W' [v' (X' .geq y15 y14)] (.ite y18 (.join 3 13 (W' [v' (M' y16 (ki 1)),v' (X' .quo y15 y14),v' (X' .mul y20 y14),v' (M' y15 y21),v' (n' .kg (Z' #[48,49,50,51,52,53,54,55,56,57,97,98,99,100,101,102,103,104,105,106,107,108,109,110,111,112,113,114,115,116,117,118,119,120,121,122]) y22),v' (n' (.iL 65 1) (.aC y5) y19),v' (.eY 1 y17 y24 y23)] (J' 3 [y20,y19,y20,y19,y20,y19,y20,y21,y22,y23,y24,y20,y25])) (J' 2 [y19,y20,y31])) (J' 1 [y15,y16,y15,y18,y17])))) (W' [v' (M' y16 (ki 1)),v' (n' .kg (Z' #[48,49,50,51,52,53,54,55,56,57,97,98,99,100,101,102,103,104,105,106,107,108,109,110,111,112,113,114,115,116,117,118,119,120,121,122]) y15),v' (n' (.iL 65 1) (.aC y5) y20),v' (.eY 1 y19 y22 y21)] (J' 0 [y15,y20,y23]))))) (.join 0 2 (.ite y3 (W' [v' (M' y15 (ki 1)),v' (n' (.iL 65 1) (.aC y5) y17),v' (.eY 1 y16 y18 (K' 45))] (J' 0 [y17,y19])) (J' 0 [y15,y16])) (.ite y4 (W' [v' (n' (.Om 65 1) (.aC y5) y17),v' (.fC 5 1 1 y18 y0 y19)] (R' (C' (.apps y18 y0 y19) (Z' #[])) y20)) (W' [v' (n' (.Om 65 1) (.aC y5) y17),v' (n' .ru y18 y19)] (R' (C' (.const (.a_ [])) y20) y18)))))))))
noncomputable def Zc:=e' 190 Tryz.f190 false true [] [12,101] [] [true,true,true,true,true] t190
theorem Wp:ak Tryz.prog Zc:=O' Tryz.func190

noncomputable def t192:T:=W' [v' (X' .and y0 (k' 4294967295)),v' (X' .shr y0 (k' 32)),v' (X' .and y1 (k' 4294967295)),v' (X' .shr y1 (k' 32)),v' (X' .mul y3 y5),v' (X' .mul y4 y5),v' (X' .shr y7 (k' 32)),v' (P' y8 y9),v' (X' .and y10 (k' 4294967295)),v' (X' .shr y10 (k' 32)),v' (X' .mul y3 y6),v' (P' y11 y13),v' (X' .mul y4 y6),v' (P' y15 y12),v' (X' .shr y14 (k' 32)),v' (P' y16 y17),v' (X' .mul y0 y1)] (R' (C' y18 y19) y2)
noncomputable def Zb:=e' 192 Tryz.f192 true false [] [] [] [true,true] t192
theorem Wo:ak Tryz.prog Zb:=O' Tryz.func192

noncomputable def t180:T:=W' [v' (.br 5 y0),g' (q' 0 y3) (l' y2 y1),.ey [((q' 0 y3),true)] y4 y2 [pz 5 y3] [true],v' (.ite (q' 0 y3) y5 (kb false))] (R' y6 y2)
noncomputable def Zg:=e' 180 Tryz.f180 true false [] [] [] [false,true] t180
theorem Wt:ak Tryz.prog Zg:=O' Tryz.func180

noncomputable def t85:T:=W' [c' 142 y2 [y0,y1] [true],v' (X' .geq y3 (ki 0))] (R' y4 y2)
noncomputable def e85:=e' 85 Tryz.f85 true false [] [] [] [true,true] t85
theorem V7:ak Tryz.prog e85:=O' Tryz.func85

noncomputable def t224:T:=.ite (kb false) (W' [v' (.conv .u32 y0),c' 260 y1 [y2] [true]] (R' y3 y1)) (W' [c' 261 y1 [y0] [true]] (R' y2 y1))
noncomputable def Ua:=e' 224 Tryz.f224 true true [] [] [] [true] t224
theorem Q3:ak Tryz.prog Ua:=O' Tryz.func224

noncomputable def t153:T:=W' [v' (l' y2 y1),c' 93 y2 [y0,ki 0,y3] [true],v' (N' y4)] (R' y5 y2)
noncomputable def Zo:=e' 153 Tryz.f153 true false [] [] [] [true,true] t153
theorem WA:ak Tryz.prog Zo:=O' Tryz.func153

noncomputable def t196:T:=W' [v' (.fP y1),v' (Q' y3 (ki 0)),f' y4 (.bin .eql .str y1 y0),v' (.ite y4 (kb true) y5)] (.ite y6 (R' (ki 0) y2) (W' [v' (Q' y3 (ki 1))] (.ite y7 (W' [v' (n' .kg y1 (ki 0)),c' 227 y2 [y0,y8] [true]] (R' y9 y2)) (W' [v' (.fP y0),v' (X' .geq y3 y8)] (.ite y9 (R' (ki (-1)) y2) (.ret (.deref .nil)))))))
noncomputable def Y_:=e' 196 Tryz.f196 true false [] [] [] [true,true] t196
theorem Wm:ak Tryz.prog Y_:=O' Tryz.func196

noncomputable def t197:T:=W' [v' (n' .Jv y1 y0)] (.join 0 4 (.loop 1 [ki 0,y2] (W' [v' (n' .VN y4 (.aC y1)),v' (s' (n' .O7 y4 (.aC y1)))] (.ite y6 (.join 2 14 (W' [v' (.au 2 (n' .O7 y4 (.aC y1))),v' (X' .lss y7 (.const (.v (.int .i32 48)))),f' y8 (X' .gtr y7 (.const (.v (.int .i32 57)))),v' (.ite y8 (kb true) y9),f' y10 (X' .gtr y3 (ki 1000000000000000)),v' (.ite y10 (kb true) y11)] (.ite y12 (R' (C' (ki 0) (kb false)) y5) (W' [v' (X' .mul (ki 10) y3),v' (M' y7 (.const (.v (.int .i32 48)))),v' (.conv .i64 y14),v' (P' y13 y15)] (J' 2 [y16,y7,y7,y7,y8,y8,y10,y10,y12,y13,y7,y14,y15,y16])))) (J' 1 [y7,y5])) (J' 0 [y3,n' .O7 y4 (.aC y1),y6,y5])))) (W' [v' (.bin .neq .str y0 (Z' #[])),g' y7 (X' .leq y3 (ki 1000000000000000)),v' (.ite y7 y8 (kb false)),g' y9 (n' .kg y0 (ki 0)),g' y9 (X' .neq y10 (K' 48)),g' y9 (F' y11 (.fP y0)),g' y9 (F' y11 (Q' y12 (ki 1))),g' y9 (.ite y11 (kb true) y13),v' (.ite y9 y14 (kb false))] (R' (C' y3 y15) y6)))
noncomputable def Y9:=e' 197 Tryz.f197 false false [] [] [] [true] t197
theorem Wl:ak Tryz.prog Y9:=O' Tryz.func197

noncomputable def t154:T:=W' [v' (.bD y0)] (.join 0 2 (.loop 1 [ki 0] (W' [v' (X' .lss y4 y3)] (.ite y5 (.join 2 3 (W' [v' (.av 2 y0 y4),v' (.ld true 2 y2 y6),.ey [] y1 y2 [y7] [true]] (.ite y8 (R' y4 y2) (J' 2 [y6,y7,y8]))) (W' [v' (P' y4 (ki 1))] (J' 1 [y9]))) (J' 0 [y4,y5])))) (R' (ki (-1)) y2))
noncomputable def Zm:=e' 154 Tryz.f154 true false [] [] [] [true,true] t154
theorem Wz:ak Tryz.prog Zm:=O' Tryz.func154

noncomputable def t26:T:=W' [v' (.br 6 y0),c' 49 y1 [pz 6 y2] [true],v' (X' .neq y3 (ki 0))] (.ite y4 (R' (C' (.const (.v (.pointer none))) y3) y1) (W' [c' 55 y1 [q' 1 y2] [true],v' (j' (.br 6 (j' (q' 0 y2) (j' y5 (j' (q' 2 y2) (j' (q' 3 y2) (j' (q' 4 y2) (j' (q' 5 y2) .nil))))))) (j' (z' (kb true)) (j' (.const (.agg [.cO])) (j' (.const (.agg [.cO])) .nil)))),v' (.fK 154 9 y1 (.br 9 y6))] (R' (C' (.aC y1) (ki 0)) y7)))
noncomputable def e26:=e' 26 Tryz.f26 false false [] [16] [] [false] t26
theorem aco:ak Tryz.prog e26:=O' Tryz.func26

noncomputable def t101:T:=.loop 0 [y2] (.join 1 16 (W' [v' (l' y3 y1),c' 102 y3 [y4,Z' #[32]] [true,true,true],.dA [] y0 y3 [s' y5] [true],v' (N' (s' y6)),f' y7 (.au 2 y5),f' y7 (N' y8),v' (.ite y7 (kb true) y9)] (.ite y10 (R' .ai (t' y6)) (W' [v' (.eY 1 (t' y6) y1 (t' y5))] (J' 1 [s' y5,t' y5,.au 2 y5,D' (s' y5) (t' y5) (.au 2 y5),y4,D' (s' y5) (t' y5) (.au 2 y5),s' y5,t' y5,.au 2 y5,s' y5,s' y6,y7,y7,y10,t' y5,y11])))) (J' 0 [y19]))
noncomputable def ZE:=e' 101 Tryz.f101 false false [1000014] [] [] [true,true] t101
theorem WS:ak Tryz.prog ZE:=O' Tryz.func101

noncomputable def t200:T:=W' [v' (.nn y0),v' (p' 2 y5),v' (l' y4 y6),v' (N' y7),f' y8 (.nn y0),f' y8 (p' 1 y9),f' y8 (l' y4 y10),f' y8 (X' .gtr y2 y11),v' (.ite y8 (kb true) y12),f' y13 (.nn y0),f' y13 (p' 1 y14),f' y13 (l' y4 y15),f' y13 (Q' y2 y16),f' y13 (G' y17 (.bin .eql .bool y1 y3)),f' y13 (.ite y17 y18 (kb false)),v' (.ite y13 (kb true) y19)] (.join 0 1 (.ite y20 (W' [v' (.nn y0),v' (p' 0 y21),v' (.eY 1 y4 y22 y1)] (J' 0 [y23])) (J' 0 [y4])) (W' [v' (.nn y0),v' (p' 1 y22),v' (l' y21 y23),v' (.mm true y24 y2),v' (.nn y0),v' (p' 1 y26),v' (.eY 1 y21 y27 y25),v' (.nn y0),v' (p' 2 y29),v' (.eY 1 y28 y30 (kb true))] (R' .ai y31)))
noncomputable def Y7:=e' 200 Tryz.f200 false false [] [] [] [true,true,true,true] t200
theorem Wi:ak Tryz.prog Y7:=O' Tryz.func200

noncomputable def t6:T:=W' [v' (.br 30 y0),c' 22 y1 [pz 30 y2] [true],v' (X' .neq y3 (ki 0))] (.ite y4 (R' (C' (.const (.v (.pointer none))) y3) y1) (W' [c' 23 y1 [pz 30 y2] [false],v' (j' (.br 30 y5) (j' (.const (.agg [.v (.pointer none)])) (j' (.const (.agg [.v (.pointer none)])) (j' (.const (.agg [.v (.pointer none)])) (j' (.const (.agg [.cO])) (j' (.const (.agg [.cO])) .nil)))))),v' (.fK 90 35 y1 (.br 35 y6)),v' (.nn (.aC y1)),v' (p' 0 y8),v' (p' 0 y9),v' (.ld true 6 y7 y10),w' 24 y7 [y11] [true,true],v' (.nn (.aC y1)),v' (p' 30 y13),v' (.eY 1 (t' y12) y14 (s' (s' y12))),v' (.nn (.aC y1)),v' (p' 0 y16),v' (p' 6 y17),v' (.ld true 3 y15 y18),v' (.nn (.aC y1)),v' (p' 0 y20),v' (p' 9 y21),v' (l' y15 y22),w' 25 y15 [y19,y23] [true,true],v' (.nn (.aC y1)),v' (p' 31 y25),v' (.eY 1 (t' y24) y26 (s' (s' y24))),v' (.nn (.aC y1)),v' (p' 0 y28),v' (p' 24 y29),v' (.ld true 6 y27 y30),w' 26 y27 [y31] [true,true],v' (.nn (.aC y1)),v' (p' 32 y33),v' (.eY 1 (t' y32) y34 (s' (s' y32))),v' (.nn (.aC y1)),v' (p' 0 y36),v' (p' 10 y37),v' (p' 0 y38),v' (l' y35 y39),v' (.bD y40),v' (.nn (.aC y1)),v' (p' 0 y42),v' (p' 6 y43),v' (p' 0 y44),v' (l' y35 y45)] (.join 0 3 (.loop 1 [ki 0,y35] (W' [v' (X' .lss y47 y46)] (.ite y49 (.join 2 27 (W' [v' (.nn (.aC y1)),v' (p' 0 y50),v' (p' 10 y51),v' (p' 0 y52),v' (l' y48 y53),v' (M' y41 (ki 1)),v' (.av 4 y54 y55),v' (p' 1 y56),v' (l' y48 y57),v' (P' y58 (ki 1)),v' (.rep 8 y59 (.v (.int .i64 0))),v' (.rep 32 y41 (.agg [.v (.int .i64 0),.v (.int .i64 0),.v (.bool false),.v (.int .i64 0)])),v' (.bD y61)] (.join 3 3 (.loop 4 [ki 0,y61] (W' [v' (X' .lss y63 y62)] (.ite y65 (.join 5 1 (W' [v' (.idx y64 y63),v' (.set y64 y63 3 (ki 2))] (J' 5 [y67])) (W' [v' (P' y63 (ki 1))] (J' 4 [y67,y66]))) (J' 3 [y63,y65,y64])))) (W' [v' (.nn (.aC y1)),v' (p' 33 y66),v' (l' (.dR 1000000000 4 (.dR 1000000000 1 y48 y60) y65) y67),v' (.bP (.br 3 (j' (ki 0) (j' (.cY y48 y60) (j' (.cY (.dR 1000000000 1 y48 y60) y65) .nil)))) (.const (.a_ []))),v' (.fC 102 3 56 (.dR 1000000000 4 (.dR 1000000000 1 y48 y60) y65) y68 y69),v' (.nn (.aC y1)),v' (p' 33 y71),v' (.eY 1 y70 y72 (.apps (.dR 1000000000 4 (.dR 1000000000 1 y48 y60) y65) y68 y69))] (J' 2 [y50,y51,y52,y53,y54,y55,y56,y57,y58,y59,.cY y48 y60,.cY (.dR 1000000000 1 y48 y60) y65,.cY (.dR 1000000000 1 y48 y60) y65,y62,y63,y64,y66,y67,y68,j' (ki 0) (j' (.cY y48 y60) (j' (.cY (.dR 1000000000 1 y48 y60) y65) .nil)),y69,.apps (.dR 1000000000 4 (.dR 1000000000 1 y48 y60) y65) y68 y69,y71,y72,.cY y48 y60,.cY (.dR 1000000000 1 y48 y60) y65,y73])))) (W' [v' (P' y47 (ki 1))] (J' 1 [y77,y76]))) (J' 0 [y47,y49,y48])))) (R' (C' (.aC y1) (ki 0)) y49))))
noncomputable def e6:=e' 6 Tryz.f6 false false [24,25,26] [17] [(17,1000086),(17,1000088)] [false] t6
theorem ok6:ak Tryz.prog e6:=O' Tryz.func6

noncomputable def t31:T:=W' [v' (.fK 25 1 y2 (.const (.agg [.v (.int .i64 0)])))] (.E5 57 [4] [.aC y2] (l' y1 y0) (W' [v' (.fP y1),v' (X' .gtr y4 (ki 200))] (.ite y5 (W' [v' (.eY 1 y3 (.aC y2) (ki 4))] (R' (.ah (.aC y2) .ai) y6)) (W' [v' (.fK 45 1 y3 (.const (.agg [.cO]))),w' 58 y6 [y1] [true]] (.join 0 1 (.lZ (s' y7) (t' y7) [0,1,4,5,10,11,12,13,14] [y0,y1,.aC y2,.aC y3,y1,y4,y5,y1,s' y7] 1 1 (.join 2 4 (W' [v' (l' y8 (.aC y3)),v' (.bP (z' y9) (.const (.a_ []))),v' (.fC 9 1 16 y8 y10 y11),v' (.eY 1 y12 (.aC y3) (.apps y8 y10 y11))] (J' 2 [y10,y11,.apps y8 y10 y11,y13])) (J' 1 [y13])) (J' 0 [y8])) (W' [w' 59 y8 [y0] [true],v' (l' (t' y9) (.aC y3)),v' (.av 1 y10 (ki 0)),v' (l' (t' y9) y11),v' (.m4 (.NF .str) (t' y9) (s' y9) y12 (.const (.v .nilFunc))),v' (n' .same (l' (t' y9) (.aC y3)) (l' y8 (.aC y3))),v' (n' .same (l' (t' y9) y11) (l' y8 y11)),v' (N' (t' y13))] (.ite y16 (W' [v' (.eY 1 (t' y9) (.aC y2) (ki 3))] (R' (.ah (.aC y2) .ai) y17)) (W' [v' (l' (t' y9) (.aC y3)),v' (.av 1 y17 (ki 0)),v' (l' (t' y9) y18),v' (l' (t' y9) (.aC y3)),v' (.sub 1 y20 (ki 1) (.bD y20)),v' (j' (z' y19) (j' (z' y21) .nil))] (.e9 (s' y13) (t' y9) [y22] [] [4] [.aC y2] (W' [v' (.eY 1 (t' y23) (.aC y2) (ki 0))] (R' (.ah (.aC y2) .ai) y24)))))))))))
noncomputable def e31:Entry:={ f:=31,kn:=(.defers [4]),cf:={ (aj false ([58]++cI) cJ [] [] Tryz.f31) with aN:=true,cE:=true },own:=false,aL:=[true,true],t:=t31 }
theorem ack:ak Tryz.prog e31:=ak.L6 Tryz.func31 (by kernel_rfl) (by kernel_rfl)

noncomputable def t57:T:=W' [v' (m' (.IY true) y2)] (.join 0 1 (.ite y3 (W' [v' (n' (.BQ 156) y2 (.const (.agg [.v (.int .i64 0)]))),v' (.br 1 (s' y4)),v' (N' (t' y4))] (.join 1 0 (.ite y6 (.dI (m' .td y2) y1 [] []) (J' 1 [])) (W' [v' (.eY 1 y1 y0 (q' 0 y5))] (J' 0 [y7])))) (J' 0 [y1])) (R' .ai y4))
noncomputable def e57:Entry:={ f:=57,kn:=.gC,cf:={ (aj false ([]++cI) cJ [] [] Tryz.f57) with aN:=true,cE:=true },own:=false,aL:=[true],t:=t57 }
theorem ab0:ak Tryz.prog e57:=ak.Gj Tryz.func57 (by kernel_rfl) (by kernel_rfl)

noncomputable def t27:T:=.join 0 4 (.loop 1 [y0,Z' #[]] (W' [v' (X' .gtr y2 (ki 9))] (.ite y4 (.join 2 8 (W' [v' (X' .rem y2 (ki 10)),v' (X' .rem y2 (ki 10)),v' (P' y6 (ki 1)),v' (o' .mS (Z' #[48,49,50,51,52,53,54,55,56,57]) y5 y7),v' (.bin .add .str y8 y3),v' (X' .quo y2 (ki 10))] (J' 2 [y10,y9,y5,y6,y7,y8,y9,y10])) (J' 1 [y5,y6])) (J' 0 [y2,y3,y2,y4])))) (W' [v' (P' y2 (ki 1)),v' (o' .mS (Z' #[48,49,50,51,52,53,54,55,56,57]) y2 y6),v' (.bin .add .str y7 y3)] (R' y8 y1))
noncomputable def e27:=e' 27 Tryz.f27 true false [] [] [] [true] t27
theorem acn:ak Tryz.prog e27:=O' Tryz.func27

noncomputable def t86:T:=W' [c' 43 y1 [y0,ki 0,ki 1000000] [true],v' (N' y2)] (R' y3 y1)
noncomputable def e86:=e' 86 Tryz.f86 true false [] [] [] [true] t86
theorem abL:ak Tryz.prog e86:=O' Tryz.func86

noncomputable def t218:T:=W' [v' (P' y1 (ki 1))] (.join 0 4 (.loop 1 [y5,y4] (W' [v' (X' .lss y6 y2)] (.ite y8 (.join 2 6 (.join 3 6 (.loop 4 [y6,y7] (W' [v' (X' .gtr y9 y1),g' y11 (.av 1 y0 y9),g' y11 (l' y10 y12),g' y11 (M' y9 (ki 1)),g' y11 (.av 1 y0 y14),g' y11 (l' y10 y15),.ey [(y11,true)] y3 y10 [y13,y16] [true],g' y11 (X' .lss y17 (ki 0)),v' (.ite y11 y18 (kb false))] (.ite y19 (.join 5 9 (W' [v' (M' y9 (ki 1)),v' (M' y9 (ki 1)),v' (.av 1 y0 y21),v' (l' y10 y22),v' (.av 1 y0 y9),v' (l' y10 y24),v' (.av 1 y0 y9),v' (.eY 1 y10 y26 y23),v' (.av 1 y0 y20),v' (.eY 1 y27 y28 y25)] (J' 5 [y20,y21,y22,y23,y24,y25,y26,y28,y29])) (W' [v' (M' y9 (ki 1))] (J' 4 [y29,y28]))) (J' 3 [y9,y9,y11,y11,y19,y10])))) (J' 2 [y9,y10,y11,y12,y13,y14])) (W' [v' (P' y6 (ki 1))] (J' 1 [y15,y14]))) (J' 0 [y6,y6,y8,y7])))) (R' .ai y9))
noncomputable def Y6:=e' 218 Tryz.f218 false false [143,186,218,219,259,278] [] [] [true,true,true,true] t218
theorem Wh:ak Tryz.prog Y6:=O' Tryz.func218

noncomputable def t141:T:=W' [w' 301 y2 [m' (.ed 248) y0,y1] [],c' 299 (t' y3) [l' (t' y3) (m' (.ed 248) y0)] [true],v' (M' y4 (ki 1)),w' 185 (t' y3) [y0,y5] []] (R' .ai (t' y6))
noncomputable def Zv:Entry:={ f:=141,kn:=.plain,cf:={ (aj false ([141,304,185,305,301,311,302,303]++cI) cJ [] [] Tryz.f141) with aN:=true,cE:=true,yU:=[(6,248),(9,248)] },own:=false,aL:=[true,true],t:=t141 }
theorem WI:ak Tryz.prog Zv:=O' Tryz.func141

noncomputable def t303:T:=W' [w' 304 y1 [.fq 248 y0] [true],v' (m' (.ed 196) (s' y2)),v' (.br 2 y3)] (R' (pz 2 y4) (t' y2))
noncomputable def Y1:=e' 303 Tryz.f303 false false [141,304,185,305,301,311,302,303] [] [] [true] t303
theorem Wc:ak Tryz.prog Y1:=O' Tryz.func303

noncomputable def t299:T:=W' [v' (.bD y0)] (R' y2 y1)
noncomputable def Y4:=e' 299 Tryz.f299 true false [] [] [] [true] t299
theorem Wf:ak Tryz.prog Y4:=O' Tryz.func299
end

section
open Go.Proofs
set_option maxRecDepth 100000
def YL:Fact:=⟨223,[i 16],b true⟩
noncomputable def NR:ug:=[Ub]
theorem T2:∀e,e∈NR→ak Tryz.prog e:=o1' Q4<|o0'
theorem T3:(YL:Fact).ok Tryz.prog b0:=w5 (l:=[]) trivial (gw (b0:=b0) (l:=[]) trivial) YL 200 40 (by kernel_rfl) z8 (by kernel_rfl) T2 (by kernel_rfl)

def YH:Fact:=⟨224,[.v (.int .u64 16)],i 4⟩
noncomputable def NP:ug:=[Ua,T_]
theorem T0:∀e,e∈NP→ak Tryz.prog e:=o1' Q3<|o1' Q0<|o0'
theorem T1:(YH:Fact).ok Tryz.prog b0:=w5 (l:=[]) trivial (gw (b0:=b0) (l:=[]) trivial) YH 200 40 (by kernel_rfl) z8 (by kernel_rfl) T0 (by kernel_rfl)
end
end Go.Am.To
