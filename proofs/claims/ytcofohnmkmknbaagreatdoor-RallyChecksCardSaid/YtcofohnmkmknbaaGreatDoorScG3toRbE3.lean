/-
  Several texts, one behind the other.
-/
import Derived.Test.YtcofohnmkmknbaaGreatDoorRbC1toScG2
import Derived.Test.YtcofohnmkmknbaaGreatDoorAmApp
import Derived.Test.YtcofohnmkmknbaaGreatDoorAmFntoAmTabK
import Derived.Test.YtcofohnmkmknbaaGreatDoorRbBasetoRbP1
set_option linter.unusedSimpArgs false
set_option linter.unusedVariables false
namespace Go.Am.Sc
section
theorem vw {α:Type}{enc:α→List D}{sz:Nat}(hsz:∀x,(enc x).length=sz):∀xs:List α,chunks sz xs.length (xs.flatMap enc)=xs.map enc
 | []=>rfl
 | x :: xs=>by
  rw[List.length_cons,chunks,List.flatMap_cons,List.take_append_of_le_length (by rw[hsz];exact Nat.le_refl _),List.drop_append_of_le_length (by rw[hsz];exact Nat.le_refl _)]
  rw[List.take_of_length_le (by rw[hsz];exact Nat.le_refl _),List.drop_eq_nil_of_le (by rw[hsz];exact Nat.le_refl _),List.nil_append,vw hsz xs,List.map_cons]

theorem sY {f:D→Option D}:∀{a a' b b':List D},dK f a=some a'→dK f b=some b'→dK f (a++b)=some (a'++b')
 | [],_,b,b',h,h2=>by cases h;exact h2
 | x :: a,_,b,b',h,h2=>by
  simp only[dK,Option.bind_eq_some_iff,Option.map_eq_some_iff] at h
  obtain⟨y,h3,r,h4,rfl⟩:=h
  simp only[List.cons_append,dK,h3,sY h4 h2,Option.bind_some,Option.map_some]

theorem sX {α:Type}{enc:α→List D}{f:D→Option D}(h:∀x,dK f (enc x)=some (enc x)):∀xs:List α,dK f (xs.flatMap enc)=some (xs.flatMap enc)
 | []=>rfl
 | x :: xs=>by
  rw[List.flatMap_cons]
  exact sY (h x) (sX h xs)

variable {bs:List D} {n:Nat}

def iX (A:List aS)(c:aS)(B:List aS)(s:D):List D:=A.flatMap aS.cs++(I c.cls :: Is c.dH :: s :: B.flatMap aS.cs)

variable {A Bc:List aS} {c:aS} {s s':D}

theorem zz (c:aS):c.cs.length=3:=rfl
theorem uI (x:gL):x.cs.length=4:=rfl

theorem nH:(A.flatMap aS.cs).length=A.length*3:=h_ zz

theorem v_:(iX A c Bc s)[A.length*3+2]? = some s:=by
 unfold iX
 rw[List.getElem?_append_right (by rw[nH];omega),nH]
 simp
end
end Go.Am.Sc

namespace Go.Am.Rb
section
open Go.Proofs Go.Am.Sc
set_option maxRecDepth 100000
set_option maxHeartbeats 4000000

variable {bs:List D}

abbrev ln0:D:=.agg [I 0,I 0,B false,I 0]
abbrev lnm:D:=.agg [I 0,I 0,B false,I 2]
def lns (n i:Nat):List D:=List.replicate i lnm++List.replicate (n-i) ln0

theorem ayQ {n i:Nat}(h:i<n):D.idx (.bq (lns n i)) (In i)=some ln0:=by
 have:(lns n i)[i]? = some ln0:=by
  rw[lns,List.getElem?_append_right (by simp),List.getElem?_replicate]
  simp;omega
 simp[D.idx,this]
theorem ayP {n i:Nat}(h:i<n):D.set (.bq (lns n i)) (In i) 3 (I 2)=some (.bq (lns n (i+1))):=by
 have h1:(lns n i)[i]? = some ln0:=by
  rw[lns,List.getElem?_append_right (by simp),List.getElem?_replicate]
  simp;omega
 have h2:(lns n i).set i lnm=lns n (i+1):=by
  have e:n-i=(n-(i+1))+1:=by omega
  rw[lns,lns,List.set_append_right _ _ (by simp),List.length_replicate,Nat.sub_self,e,List.replicate_succ,List.set_cons_zero,List.replicate_succ',List.append_assoc]
  rfl
 have h3:D.putAt ln0 3 (I 2)=some lnm:=rfl
 simp[D.set,h1,h3,h2]
theorem atj (n i:Nat)(h:i≤n):(lns n i).length=n:=by simp[lns];omega
theorem aBa (n:Nat):lns n n=List.replicate n lnm:=by simp[lns]
theorem axb (n:Nat):lns n 0=List.replicate n ln0:=by simp[lns]

def HH (L:Nat):D:=.aE 1000000000 1 (Qrj (List.replicate L (I 0)))
def lnB (n:Nat):D:=.aE 1000000000 4 (Qrj (List.replicate n lnm))
def crd (m L n j:Nat):List D:=[I 0,.sl (m+3*j) 0 L,.sl (m+3*j+1) 0 n]
def tB (L n:Nat):Nat→List D
 | 0=>[]
 | k+1=>tB L n k++[HH L,lnB n,.bh []]
def kB (m L n:Nat):Nat→List D
 | 0=>[]
 | k+1=>tB L n k++[HH L,lnB n,.aE 66 3 ((List.range (k+1)).flatMap (crd m L n))]
def kS (m:Nat):Nat→D
 | 0=>.cq
 | k+1=>.sl (m+3*k+2) 0 (k+1)

variable {m L n k:Nat} {A:List D}

theorem ay7 (j:Nat):(crd m L n j).length=3:=rfl
theorem an6:∀k,(tB L n k).length=3*k
 | 0=>rfl
 | k+1=>by simp[tB,an6 k];omega
theorem av5:∀k,(kB m L n k).length=3*k
 | 0=>rfl
 | k+1=>by simp[kB,an6 k];omega

theorem ayL:D.a_ 1000000000 1 (.st bs) (.bq (List.replicate L (I 0)))=some (.st (bs++[HH L])):=by
 have a1:bK 1 (List.replicate L (I 0))=true:=by simp[bK,D.cells]
 have a2:(Qrj (List.replicate L (I 0))).all (·.one)=true:=by
  rw[Qrj,List.all_flatMap,List.all_eq_true]
  intro x hx
  rw[List.eq_of_mem_replicate hx]
  rfl
 simp only[D.a_,a1,a2,and_self,if_true,HH]
theorem ayM:D.a_ 1000000000 4 (.st bs) (.bq (lns n n))=some (.st (bs++[lnB n])):=by
 rw[aBa]
 exact asd rfl rfl

theorem aAe (hm:A.length=m)(hk:k<1000):D.fU 66 3 56 (.st (A++kB m L n k++[HH L]++[lnB n])) (kS m k) (.bq [.agg (crd m L n k)])=some (.st (A++kB m L n (k+1))):=by
 have h1:bK 3 [D.agg (crd m L n k)]=true:=rfl
 have h2:(Qrj [D.agg (crd m L n k)]).all (·.one)=true:=rfl
 cases k with
 | zero=>
  simp only[kS,kB,D.fU,D.JN,h1,h2]
  rw[if_neg (by simp),if_pos (by refine⟨?_,?_,trivial,trivial⟩ <;> simp[maxLen])]
  simp[tB,Qrj,D.cells]
 | succ k=>
  have hi:(A++kB m L n (k+1)++[HH L]++[lnB n])[m+3*k+2]? = some (.aE 66 3 ((List.range (k+1)).flatMap (crd m L n))):=by
   rw[List.append_assoc,List.getElem?_append_left (by simp[av5];omega),List.getElem?_append_right (by omega),kB,List.getElem?_append_right (by rw[an6];omega),an6,show m+3*k+2-A.length-3*k=2 by omega]
   rfl
  have hfl:=h_ (enc:=crd m L n) ay7 (xs:=List.range (k+1))
  rw[List.length_range] at hfl
  simp only[kS,D.fU,D.JN,D.gF,hi,Option.bind_some,h1,h2]
  rw[if_neg (by simp),if_pos (by
   refine⟨trivial,trivial,trivial,hfl,?_,?_,trivial,trivial⟩
   ·simp only[List.length_cons,List.length_nil];omega
   ·have:maxLen=9223372036854775807:=rfl
    simp only[List.length_cons,List.length_nil];omega)]
  congr 2
  have hs:(A++kB m L n (k+1)++[HH L]++[lnB n]).set (m+3*k+2) (.bh [])=A++tB L n (k+1)++[HH L,lnB n]:=by
   rw[kB,tB,List.append_assoc,List.append_assoc,List.set_append_right _ _ (by omega),List.append_assoc,List.set_append_right _ _ (by rw[an6];omega),an6,show m+3*k+2-A.length-3*k=2 by omega]
   simp
  rw[hs,kB,List.range_succ (n:=k+1),List.flatMap_append]
  simp[Qrj,D.cells]

theorem av4 (hm:A.length=m){d:D}:D.apps (.st (A++kB m L n k++[HH L]++[lnB n])) (kS m k) (.bq [d])=some (kS m (k+1)):=by
 have hl:(A++kB m L n k++[HH L]++[lnB n]).length=m+3*k+2:=by simp[av5];omega
 cases k with
 | zero=>simp only[kS,D.apps,D.cnt,hl];simp
 | succ k=>simp only[kS,D.apps,D.cnt,hl];simp

/-! ## what Qiw cards bD to -/

theorem aBH (hm:A.length=m)(h:0<k):(A++kB m L n k)[m+3*(k-1)+2]? = some (.aE 66 3 ((List.range k).flatMap (crd m L n))):=by
 obtain⟨k,rfl⟩:∃j,k=j+1:=⟨k-1,by omega⟩
 rw[List.getElem?_append_right (by omega),kB,List.getElem?_append_right (by rw[an6];omega),an6,show m+3*(k+1-1)+2-A.length-3*k=2 by omega]
 rfl

theorem azU:∀{k j:Nat},j<k→(tB L n k)[3*j]? = some (HH L)∧(tB L n k)[3*j+1]? = some (lnB n)
 | 0,j,h=>by omega
 | k+1,j,h=>by
  rcases Nat.lt_or_ge j k with h1 | h1
  ·obtain⟨h2,h3⟩:=azU h1
   rw[tB,List.getElem?_append_left (by rw[an6];omega),List.getElem?_append_left (by rw[an6];omega)]
   exact⟨h2,h3⟩
  ·obtain rfl:j=k:=by omega
   rw[tB,List.getElem?_append_right (by rw[an6];omega),List.getElem?_append_right (by rw[an6];omega),an6,Nat.sub_self,show 3*j+1-3*j=1 by omega]
   exact⟨rfl,rfl⟩

theorem aE5 (hm:A.length=m){j:Nat}(h:j<k):(A++kB m L n k)[m+3*j]? = some (HH L)∧(A++kB m L n k)[m+3*j+1]? = some (lnB n):=by
 obtain⟨k,rfl⟩:∃i,k=i+1:=⟨k-1,by omega⟩
 rw[List.getElem?_append_right (by omega),List.getElem?_append_right (by omega),show m+3*j-A.length=3*j by omega,show m+3*j+1-A.length=3*j+1 by omega,kB]
 rcases Nat.lt_or_ge j k with h1 | h1
 ·obtain⟨h2,h3⟩:=azU (L:=L) (n:=n) h1
  rw[List.getElem?_append_left (by rw[an6];omega),List.getElem?_append_left (by rw[an6];omega)]
  exact⟨h2,h3⟩
 ·obtain rfl:j=k:=by omega
  rw[List.getElem?_append_right (by rw[an6];omega),List.getElem?_append_right (by rw[an6];omega),an6,Nat.sub_self,show 3*j+1-3*j=1 by omega]
  exact⟨rfl,rfl⟩
end

section
open Go.Proofs Go.Am.Sc
set_option maxRecDepth 100000
set_option maxHeartbeats 4000000

attribute [local irreducible] Qrk fV

variable {bs:List D}

section
variable {env:List D} {h l x y:E} {dh dl dx dy d:D}
theorem auy {e:TypeId}{n b:Nat}(hh:h.eval env=some dh)(hl:l.eval env=some dl)(hx:x.eval env=some dx)(hd:D.fU e n b dh dl dx=some d):(E.fU e n b h l x).eval env=some d:=by simp only[E.eval,hh,hl,hx,Option.bind_some,hd]
theorem abW {n:Nat}(hh:h.eval env=some dh)(hl:l.eval env=some dl)(hx:x.eval env=some dx)(hd:D.gQ n dh dl dx=some d):(E.gQ n h l x).eval env=some d:=by simp only[E.eval,hh,hl,hx,Option.bind_some,hd]
theorem aAr {n:Nat}{cs:List D}(hh:h.eval env=some (.agg cs))(hn:cs.length=n):(E.bB n h).eval env=some (.agg cs):=by simp only[E.eval,hh,Option.bind_some,D.bB,hn,if_true]
theorem axO {l':List D}(hh:h.eval env=some dh)(hl:l.eval env=some (.bq l'))(ht:D.bz dh (.bq l')=some d):(E.bz h l).eval env=some d:=by simp only[E.eval,hh,hl,Option.bind_some,ht]
end

abbrev N0:D:=.v (.pointer none)
def eC (s:Setup)(a b c d:D):List D:=s.cs++[a,b,c,d,.cq]
def oS (bs:List D)(s:Setup)(a b c d:D)(R:List D):List D:=bs++.aE 75 35 (eC s a b c d) :: R

section
variable {s:Setup} {a b c d x:D} {R K:List D}
theorem av3:(oS bs s a b c d R).length=bs.length+1+R.length:=by simp[oS];omega
theorem apj:(oS bs s a b c d R)[bs.length]? = some (.aE 75 35 (eC s a b c d)):=by simp[oS]
theorem aqm:oS bs s a b c d R++K=oS bs s a b c d (R++K):=by simp[oS]
theorem av1:(oS bs s a b c d R).set bs.length (.aE 75 35 K)=bs++.aE 75 35 K :: R:=by simp[oS]
theorem aEC (hx:x.one=true):D.gQ 1 (.st (oS bs s a b c d R)) (.loc bs.length 30) x=some (.st (oS bs s x b c d R)):=by
 rw[mr apj (by simp[eC,Setup.cs]) hx,av1]
 rfl
theorem aEB (hx:x.one=true):D.gQ 1 (.st (oS bs s a b c d R)) (.loc bs.length 31) x=some (.st (oS bs s a x c d R)):=by
 rw[mr apj (by simp[eC,Setup.cs]) hx,av1]
 rfl
theorem aEA (hx:x.one=true):D.gQ 1 (.st (oS bs s a b c d R)) (.loc bs.length 32) x=some (.st (oS bs s a b x d R)):=by
 rw[mr apj (by simp[eC,Setup.cs]) hx,av1]
 rfl
theorem aEz (hx:x.one=true):D.gQ 1 (.st (oS bs s a b c d R)) (.loc bs.length 33) x=some (.st (oS bs s a b c x R)):=by
 rw[mr apj (by simp[eC,Setup.cs]) hx,av1]
 rfl
end

theorem Setup.nV {s:Setup}(h:s.ok=true):aq1 s.g=true∧Qty s.f s.s=true∧s.p.ok=true∧aoF s.c=true∧s.g.Qtq=s.f.Qtq∧s.c.Qtq=s.f.Qtq∧s.g.Qtj=s.f.places:=by
 simp only[Setup.ok,Bool.and_eq_true,beq_iff_eq] at h
 exact⟨h.1,h.2.1,h.2.2.1,h.2.2.2.1,h.2.2.2.2.1,h.2.2.2.2.2.1,h.2.2.2.2.2.2.1⟩

theorem aGe {s:Setup}(h:s.Ok)(ho:s.ok=false):bk Tryz.prog 6 (.st bs) [s.d] (.bh [N0,I 2]) (.st bs):=by
 have h8:=c8 h bs
 rw[if_neg (by simp[ho])] at h8
 refine ku6.W rfl ?_
 unfold u6
 simp only[aC,aG,List.cons_append,List.nil_append]
 repeat' (first|(apply aH;rfl;exact rfl)|(apply aN;rfl)|(apply aD;rfl;simp only[ai];rfl)|(apply aF;rfl;rfl;exact h8;rfl;simp only[ai];rfl)|exact aq rfl rfl)

def rB (m:Nat)(s:Setup):List D:=gB (m+1) s.g s.g.Qtq.toNat++lB (m+5) s.f s.s++cB s.c
def evS (bs:List D)(s:Setup)(k:Nat):List D:=oS bs s (.loc (bs.length+4) 0) (.loc (bs.length+6) 0) (.loc (bs.length+7) 0) (kS (bs.length+8) k) (rB bs.length s)

theorem av7 {s:Setup}{k:Nat}:(evS bs s k).length=bs.length+8:=by
 simp only[evS,av3,rB,gB,lB,cB,List.length_append,List.length_cons,List.length_nil]

theorem c6 {s:Setup}(h:s.Ok)(ho:s.ok=true):bk Tryz.prog 6 (.st bs) [s.d] (.bh [.loc bs.length 0,I 0]) (.st (evS bs s s.f.Qtq.toNat++kB (bs.length+8) s.p.js.toNat s.p.items.length s.f.Qtq.toNat)):=by
 obtain⟨hg,hf,hp,hc,e1,e2,e3⟩:=Setup.nV ho
 have h8:=c8 h bs
 rw[if_pos ho] at h8
 have hfl:=atz h.places hf
 have dG:=axS hc
 have hph:=aL.gi hp
 have hpn:s.p.items.length=s.p.n:=rfl
 have Zx:=aL.yK hp
 have hpr:=(aL.nV hp).2.2.1
 have hpt:=(aL.nV hp).2.2.2.2
 simp only[aL.iZ,aL.uA,fV,Bool.and_eq_true] at hpr hpt
 have hj:=iG hpr.2.2.2.2.2.2
 have hq1:=iG hpt.1.2
 have hq2:=iG hpt.2.2
 have pZ:=ZT (bs:=bs) (s:=s) (by omega) (by omega) (by omega) (by omega) (by omega) (by omega) (by omega)
 have h17:=c17 (bs:=oS bs s N0 N0 N0 .cq []) hg
 rw[gSt,aqm,av3] at h17
 have wR:=c18 (bs:=oS bs s (.loc (bs.length+4) 0) N0 N0 .cq (gB (bs.length+1) s.g s.g.Qtq.toNat)) h.places hf
 rw[aqm,av3] at wR
 have Qfx:=c19 (bs:=oS bs s (.loc (bs.length+4) 0) (.loc (bs.length+6) 0) N0 .cq (gB (bs.length+1) s.g s.g.Qtq.toNat++lB (bs.length+5) s.f s.s)) hc
 rw[aqm,av3] at Qfx
 have aBV:s.f.Qtq=(s.f.Qtq.toNat:Int)∧s.f.Qtq.toNat≤200:=by
  have:=(apK hg).2
  omega
 have l1:D.ld true 6 (.st (oS bs s N0 N0 N0 .cq [])) (.loc bs.length 0)=some s.g.d:=by
  rw[XZ apj (by simp[eC,Setup.cs])]
  rfl
 have l2:D.ld true 3 (.st (oS bs s (.loc (bs.length+4) 0) N0 N0 .cq (gB (bs.length+1) s.g s.g.Qtq.toNat))) (.loc bs.length 6)=some s.f.d:=by
  rw[XZ apj (by simp[eC,Setup.cs])]
  rfl
 have l3:D.ld false 1 (.st (oS bs s (.loc (bs.length+4) 0) N0 N0 .cq (gB (bs.length+1) s.g s.g.Qtq.toNat))) (.loc bs.length 9)=some (axV s.s):=gX apj rfl
 have l4:D.ld true 6 (.st (oS bs s (.loc (bs.length+4) 0) (.loc (bs.length+6) 0) N0 .cq (gB (bs.length+1) s.g s.g.Qtq.toNat++lB (bs.length+5) s.f s.s))) (.loc bs.length 24)=some s.c.d:=by
  rw[XZ apj (by simp[eC,Setup.cs])]
  rfl
 have l5:D.ld false 1 (.st (evS bs s 0)) (.loc bs.length 10)=some (.bq (s.p.items.map Sc.Item.d)):=gX apj rfl
 have l6:D.ld false 1 (.st (evS bs s 0)) (.loc bs.length 6)=some (I s.f.Qtq):=gX apj rfl
 refine ku6.W rfl ?_
 unfold u6
 simp only[aC,aG,List.cons_append,List.nil_append]
 repeat' (first|(apply aK;rfl;exact rfl)|(apply aN;rfl)|(apply jI;rfl;rfl;(·first|exact l1|exact l2|exact l3|exact l4|exact l5|exact l6);simp only[ai];rfl)|(apply kT;rfl;rfl;rfl;(·first|exact aEC rfl|exact aEB rfl|exact aEA rfl);simp only[ai];rfl)|(apply Qex;rfl;exact ak;simp only[ai];rfl)|(apply aD;rfl;simp only[ai];rfl)|(apply aF;rfl;rfl;(·first|exact h8|exact pZ);rfl;simp only[ai];rfl)|(apply eZ;rfl;rfl;(·first|exact h17|exact wR|exact Qfx);rfl;simp only[ai];rfl)|refine au ?_)
 refine bf (fun k=>[In k,.st (evS bs s k++kB (bs.length+8) s.p.js.toNat s.p.items.length k)]) (fun _=>True) s.f.Qtq.toNat (by simp only[kB,List.append_nil];rfl) (fun _=>rfl) trivial (fun k hk _ R hR=>?_) (fun _ R=>?_)
 ·have gH:decide ((k:Int)<s.f.Qtq)=true:=by rw[decide_eq_true_eq];omega
  have hE:(evS bs s k++kB (bs.length+8) s.p.js.toNat s.p.items.length k)[bs.length]? = some (.aE 75 35 (eC s (.loc (bs.length+4) 0) (.loc (bs.length+6) 0) (.loc (bs.length+7) 0) (kS (bs.length+8) k))):=by rw[evS,aqm,apj]
  have m5:D.ld false 1 (.st (evS bs s k++kB (bs.length+8) s.p.js.toNat s.p.items.length k)) (.loc bs.length 10)=some (.bq (s.p.items.map Sc.Item.d)):=gX hE rfl
  have aNw:0≤(s.p.it (s.p.items.length-1)).iy∧(s.p.it (s.p.items.length-1)).iy≤5:=aL.qR hp (i:=s.p.n-1) (by omega)
  have Li:D.rep 8 (I ((s.p.it (s.p.items.length-1)).iy+1)) (I 0)=some (.bq (List.replicate s.p.js.toNat (I 0))):=as1 (by rw[show(s.p.it (s.p.items.length-1)).iy+1=s.p.js from rfl];omega) (by omega) (by omega)
  have CD:D.rep 32 (In s.p.items.length) ln0=some (.bq (lns s.p.items.length 0)):=by rw[axb];exact as1 rfl (by omega) (by omega)
  have uY:D.aR (.bq (lns s.p.items.length 0))=some (In s.p.items.length):=by rw[D.aR,atj _ _ (Nat.zero_le _)]
  repeat' (first|(apply bp;simp only[ai];rfl)|(apply aH;rfl;exact gH)|(apply aN;rfl)|(apply jI;rfl;rfl;exact m5;simp only[ai];rfl)|(apply aA;rfl;rfl;(·exact dR (by omega));simp only[ai];rfl)|(apply Qex;rfl;exact uY;simp only[ai];rfl)|(apply F9;rfl;(·first|exact Li|exact CD);simp only[ai];rfl)|(apply bZ;rfl;omega;simp only[ai];rfl)|(apply bM;rfl;rfl;omega;simp only[ai];rfl)|(apply aD;rfl;simp only[ai];rfl)|refine au ?_)
  refine bf (fun i=>[In i,.bq (lns s.p.items.length i)]) (fun _=>True) s.p.items.length (by rfl) (fun _=>rfl) trivial (fun i hi _ R2 k_=>?_) (fun _ R2=>?_)
  ·have aCL:decide ((i:Int)<(s.p.items.length:Int))=true:=by simp;omega
   repeat' (first|(apply bp;simp only[ai];rfl)|(apply aH;rfl;exact aCL)|(apply Bd;rfl;rfl;exact ayQ hi;simp only[ai];rfl)|(apply Ba;rfl;rfl;rfl;exact ayP hi;simp only[ai];rfl)|(apply aW;rfl;omega;simp only[ai];rfl)|(apply aD;rfl;simp only[ai];rfl)|refine au ?_|(apply av;rfl;rfl)|refine Qav ?_|refine kj rfl ?_)
   exact k_ trivial
  ·have hlf:decide ((s.p.items.length:Int)<(s.p.items.length:Int))=false:=by simp
   repeat' (first|(apply bp;simp only[ai];rfl)|(apply aK;rfl;exact hlf)|(apply aN;rfl)|(apply aD;rfl;simp only[ai];rfl)|(apply av;rfl;rfl)|refine Qav ?_|(refine aB (by decide) ?_)|refine kj rfl ?_)
   have hAl:(evS bs s k).length=bs.length+8:=av7
   have hKl:(evS bs s k++kB (bs.length+8) s.p.js.toNat s.p.items.length k).length=bs.length+8+3*k:=by rw[List.length_append,hAl,av5]
   have n1:=ayL (bs:=evS bs s k++kB (bs.length+8) s.p.js.toNat s.p.items.length k) (L:=s.p.js.toNat)
   have n2:=ayM (bs:=evS bs s k++kB (bs.length+8) s.p.js.toNat s.p.items.length k++[HH s.p.js.toNat]) (n:=s.p.items.length)
   have hnv:∀{env:List D},(E.sym 33).eval env=some (.st (evS bs s k++kB (bs.length+8) s.p.js.toNat s.p.items.length k))→(E.sym 41).eval env=some (.bq (List.replicate s.p.js.toNat (I 0)))→(E.sym 46).eval env=some (.bq (lns s.p.items.length s.p.items.length))→(E.a_ 1000000000 4 (.a_ 1000000000 1 (.sym 33) (.sym 41)) (.sym 46)).eval env=some (.st (evS bs s k++kB (bs.length+8) s.p.js.toNat s.p.items.length k++[HH s.p.js.toNat]++[lnB s.p.items.length])):=fun a b c=>anA (anA a b n1) c n2
   have hs1:∀{env:List D},(E.sym 33).eval env=some (.st (evS bs s k++kB (bs.length+8) s.p.js.toNat s.p.items.length k))→(E.sym 41).eval env=some (.bq (List.replicate s.p.js.toNat (I 0)))→(E.bO (.sym 33) (.sym 41)).eval env=some (.sl (bs.length+8+3*k) 0 s.p.js.toNat):=fun a b=>apM a b (by simp only[D.bO,hKl,List.length_replicate])
   have fX:∀{env:List D},(E.sym 33).eval env=some (.st (evS bs s k++kB (bs.length+8) s.p.js.toNat s.p.items.length k))→(E.sym 41).eval env=some (.bq (List.replicate s.p.js.toNat (I 0)))→(E.sym 46).eval env=some (.bq (lns s.p.items.length s.p.items.length))→(E.bO (.a_ 1000000000 1 (.sym 33) (.sym 41)) (.sym 46)).eval env=some (.sl (bs.length+8+3*k+1) 0 s.p.items.length):=fun a b c=>apM (anA a b n1) c (by simp only[D.bO,List.length_append (bs:=[HH s.p.js.toNat]),hKl,atj _ _ (Nat.le_refl _),List.length_cons,List.length_nil])
   have IU:∀{env:List D},(E.sym 33).eval env=some (.st (evS bs s k++kB (bs.length+8) s.p.js.toNat s.p.items.length k))→(E.sym 41).eval env=some (.bq (List.replicate s.p.js.toNat (I 0)))→(E.sym 46).eval env=some (.bq (lns s.p.items.length s.p.items.length))→(E.cons (ki 0) (.cons (.bO (.sym 33) (.sym 41)) (.cons (.bO (.a_ 1000000000 1 (.sym 33) (.sym 41)) (.sym 46)) .nil))).eval env=some (.agg (crd (bs.length+8) s.p.js.toNat s.p.items.length k)):=fun a b c=>Qtw rfl (Qtw (hs1 a b) (Qtw (fX a b c) rfl rfl) rfl) rfl
   have hE2:(evS bs s k++kB (bs.length+8) s.p.js.toNat s.p.items.length k++[HH s.p.js.toNat]++[lnB s.p.items.length])[bs.length]? = some (.aE 75 35 (eC s (.loc (bs.length+4) 0) (.loc (bs.length+6) 0) (.loc (bs.length+7) 0) (kS (bs.length+8) k))):=by rw[evS,aqm,aqm,aqm,apj]
   have h33:D.ld false 1 (.st (evS bs s k++kB (bs.length+8) s.p.js.toNat s.p.items.length k++[HH s.p.js.toNat]++[lnB s.p.items.length])) (.loc bs.length 33)=some (kS (bs.length+8) k):=gX hE2 rfl
   have hst:D.gQ 1 (.st (evS bs s k++kB (bs.length+8) s.p.js.toNat s.p.items.length (k+1))) (.loc bs.length 33) (kS (bs.length+8) (k+1))=some (.st (evS bs s (k+1)++kB (bs.length+8) s.p.js.toNat s.p.items.length (k+1))):=by
    rw[evS,aqm,aEz rfl,evS,aqm]
   repeat' (first|(apply aN;rfl)|(apply aD;(·first|exact agH (hnv rfl rfl rfl) rfl h33|exact axO (aAr (IU rfl rfl rfl) rfl) rfl rfl|exact auy (hnv rfl rfl rfl) rfl rfl (aAe hAl (by omega))|exact abW rfl rfl (mN (hnv rfl rfl rfl) rfl rfl (av4 hAl)) hst);simp only[ai];rfl)|(apply aD;rfl;simp only[ai];rfl))
   refine av (xY (hs1 rfl rfl) (xY (fX rfl rfl rfl) (xY (fX rfl rfl rfl) (xY (IU rfl rfl rfl) (xY (mN (hnv rfl rfl rfl) rfl rfl (av4 hAl)) (xY (hs1 rfl rfl) (xY (fX rfl rfl rfl) V0))))))) rfl ?_
   repeat' (first|(apply bp;simp only[ai];rfl)|(apply aW;rfl;omega;simp only[ai];rfl)|(apply av;rfl;rfl)|refine Qav ?_|refine kj rfl ?_)
   exact hR trivial
 ·have hlf:decide ((s.f.Qtq.toNat:Int)<s.f.Qtq)=false:=by rw[decide_eq_false_iff_not];omega
  repeat' (first|(apply bp;simp only[ai];rfl)|(apply aK;rfl;exact hlf)|(apply aD;rfl;simp only[ai];rfl)|(apply av;rfl;rfl)|refine Qav ?_|(refine aB (by decide) ?_)|refine kj rfl ?_|exact aq rfl rfl)
end

section
open Go.Proofs

noncomputable def aEq:U:=aI [.nk y0 false] (.ite y2 (.ret (C' (.const (.bq [])) y1)) (aI [.ev (.app 2 32 (.const (.bq [])) y0)] (.ret (C' y3 y1))))
theorem aE2:cm Tryz.prog 29 .plain (E' Tryz.f29 true [] [] []) [true] aEq:=U' Tryz.func29

noncomputable def aEm:U:=aI [.nk y0 false] (.ite y2 (.ret (C' (.const (.bq [])) y1)) (aI [.ev (.a_ 3 1 y1 (.const (.bq []))),.ev (.fU 3 1 8 y3 (.bO y1 (.const (.bq []))) y0)] (.ret (C' (.apps y3 (.bO y1 (.const (.bq []))) y0) y4))))
theorem aE0:cm Tryz.prog 36 .plain (E' Tryz.f36 false [] [5,7] []) [true] aEm:=U' Tryz.func36

noncomputable def aEa:U:=aI [.nk y0 false] (.ite y2 (.ret (C' (.const (.bq [])) y1)) (aI [.ev (.a_ 69 4 y1 (.const (.bq []))),.ev (.fU 69 4 32 y3 (.bO y1 (.const (.bq []))) y0)] (.ret (C' (.apps y3 (.bO y1 (.const (.bq []))) y0) y4))))
theorem aEZ:cm Tryz.prog 53 .plain (E' Tryz.f53 false [] [5,7] []) [true] aEa:=U' Tryz.func53
end
end Go.Am.Rb

namespace Go.Am.Sc
section
def Mv (s:List D):Prop:=∀(i:Nat) (x:D),s[i]? = some x→x=.bh []∨∃e sz cs,x=.aE e sz cs∧∀c,c∈cs→∃v,c=.v v

theorem Mv.set {s:List D}(h:Mv s){i:Nat}{x:D}(hx:x=.bh []∨∃e sz cs,x=.aE e sz cs∧∀c,c∈cs→∃v,c=.v v):Mv (s.set i x):=by
 intro j y hy
 rw[List.getElem?_set] at hy
 split at hy
 ·split at hy
  ·cases hy;exact hx
  ·cases hy
 ·exact h j y hy

inductive SS:D→Prop
 | sl (i off n:Nat):SS (.sl i off n)
 | cq:SS .cq

theorem SS.rd {d:D}(hd:SS d){w:World}{S S':Sets}{v:Value}(h:bU w S v d)(h1:S'.loc=S.loc)(h2:S'.n=S.n)(h3:S'.cap=S.cap):bU w S' v d:=by
 cases hd with
 | sl i off n=>
  cases h with
  | sl a1 a2 a3 a4=>
   have e:S.loc i=S'.loc i:=by rw[h1]
   rw[e]
   exact .sl (by rw[h2];exact a1) a2 a3 (by rw[h3];exact a4)
 | cq=>cases h with | cq=>exact .cq

theorem TI {w:World}{S S':Sets}{aJ:Nat→Prop}{s:List D}(h:dF w S aJ s)(hd:Mv s)(h1:S'.loc=S.loc)(h2:S'.n=S.n)(h3:S'.cap=S.cap)(hm:∀b o,S' b o→S b o):dF w S' aJ s where
 n:=by rw[h2];exact h.n
 cells i e sz cs hi:=by
  obtain⟨a1,vs,a2,a3,a4,a5,a6,a7⟩:=h.cells i e sz cs hi
  rw[h1,h3]
  refine⟨a1,vs,a2,a3,a4,a5,fun j v d hv fz=>?_,fun off ho=>a7 off (hm _ _ ho)⟩
  rcases hd i _ hi with h0 | ⟨_,_,_,h0,h4⟩
  ·cases h0
  ·cases h0
   obtain⟨x,rfl⟩:=h4 d (List.mem_of_getElem? fz)
   have:=a6 j v _ hv fz
   cases this with | v hp=>exact .v hp
 Cw b off hf ho:=h.Cw b off hf (hm _ _ ho)
 maps i dL hi:=by
  rcases hd i _ hi with h0 | ⟨_,_,_,h0,_⟩ <;> cases h0
 inj i j x y hi hj hx hy e:=h.inj i j x y hi hj hx hy (by rw[h1] at e;exact e)
 FJ i z hi hz:=by
  rcases hd i _ hi with h0 | ⟨_,_,_,h0,_⟩
  ·subst h0;cases hz
  ·subst h0;cases hz

theorem Xe {P:Program}{f:FuncId}{ds ds':List D}{bs s:List D}{n m:Nat}{d d':D}(h:bk P f (.st []) ds' d (.st s))(hm:dK (bD bs n) ds=some ds')(alU:Mv s)(hd:SS d)(hm2:bD s m d=some d'):aP P f (.st bs) ds d':=by
 intro w S aJ rp vs hb hst dP hfl hS hvl hrd
 cases hb
 let S0:Sets:={ mem:=(S.or fun b _=>aJ b).mem,loc:=fun _=>0,n:=0,cap:=fun _=>0 }
 have IL:dF w S0 (fun _=>False) []:=⟨rfl,fun i e sz cs hi=>by simp at hi,fun b off hf=>hf.elim,fun i dL hi=>by simp at hi,fun i j x y hi=>by simp at hi,fun i z hi=>by simp at hi⟩
 have hS0:∀b o,S0 b o→b<w.heap.size:=fun b o h=>by
  rcases h with h | h
  ·exact hS b o h
  ·exact hfl b h
 obtain⟨hl,hg⟩:=jk hm
 refine(h w S0 (fun _=>False) [] vs rfl IL (fun l rec hl=>by cases hl) (fun _ hf=>hf.elim) hS0 (by rw[hvl,hl]) fun i v x' hv hx'=>?_).mono ?_
 ·obtain⟨x,hx,MB⟩:=hg i x' hx'
  exact(yR hst n n (Nat.le_refl _) (hrd i v x hv hx) MB).free (fun _ _ h=>h) (pe MB)
 ·rintro e w' ⟨v,S',bV,ia,gj,oh,fp,hK,hle,hos,BD,hout,hsz,hold,hft,hnew,hlt⟩
  cases oh
  let S1:Sets:={ S' with mem:=S.mem }
  have RN:dF w' S1 bV s:=TI fp alU rfl rfl rfl fun b o h=>hle.mem b o (.inl h)
  have Li:bU w' S1 v d:=hd.rd gj.2 rfl rfl rfl
  refine⟨v,{ S with mem:=(S1.or fun b _=>bV b).mem },⟨gj.1,(yR RN m m (Nat.le_refl _) Li hm2).free (fun _ _ h=>h) (pe hm2)⟩,⟨⟨hos,BD.tape,hout,hsz,fun b hb=>hold b hb fun hf=>hf⟩,BD.dr⟩,⟨fun b o h=>.inl h,Nat.le_refl _,fun _ _=>rfl,fun _ _=>rfl,rfl,fun _ _=>rfl⟩,rfl,fun b o hs=>?_,fun b o hs=>?_⟩
  ·rcases hs with hs | hs
   ·exact .inl hs
   ·exact .inr ((hft b hs).1.elim (fun h=>h.elim) id)
  ·rcases hs with hs | hs
   ·exact Nat.lt_of_lt_of_le (hS b o hs) hsz
   ·exact(hft b hs).2
end
end Go.Am.Sc

namespace Go.Am.Rb
section
open Go.Proofs Go.Am.Sc
set_option maxRecDepth 100000
set_option maxHeartbeats 4000000

variable {bs:List D}

theorem aAZ {P:Program}{x:E}{u:U}{env:List D}{Q:iD→Prop}{neg:Bool}(hx:x.eval env=some .cq)(k:wv P u (env++[.v (.bool (true != neg))]) Q):bu P (.nk x neg u) env Q:=⟨_,_,hx,rfl,fun b hb=>by simp at hb;subst hb;exact k⟩

theorem c29:aP Tryz.prog 29 (.st bs) [.cq] (.bq []):=by
 refine aE2.R rfl rfl ?_
 unfold aEq
 simp only[aC,aG,List.cons_append,List.nil_append]
 refine aAZ rfl ?_
 repeat' (first|(apply bp;simp only[ai];rfl)|(apply aX;rfl;all_goals (intro hz;(try simp only[bA] at hz);first|(exact absurd hz (by decide))|(exfalso;omega)|skip))|exact aq rfl rfl)

theorem c28 {j:Nat}{s:Setup}{i o:Nat}{b c d:D}(hE:bs[j]? = some (.aE 75 35 (eC s (.loc i o) b c d))):aP Tryz.prog 28 (.st bs) [.loc j 0] (B true):=by
 have l1:D.ld false 1 (.st bs) (.loc j 30)=some (.loc i o):=gX hE rfl
 refine akI.R rfl rfl ?_
 unfold u28
 simp only[aC,aG,List.cons_append,List.nil_append]
 repeat' (first|(apply bp;simp only[ai];rfl)|(apply aN;rfl)|(apply jI;rfl;rfl;exact l1;simp only[ai];rfl)|(apply aD;rfl;simp only[ai];rfl)|(apply bg;rfl)|exact aq rfl rfl|(intro hz;(try simp only[bA] at hz)))

theorem c9 {j:Nat}{s:Setup}{i o:Nat}{b c d:D}(hE:bs[j]? = some (.aE 75 35 (eC s (.loc i o) b c d))):aP Tryz.prog 9 (.st bs) [.loc j 0] (.bq []):=by
 have l1:D.ld false 1 (.st bs) (.loc j 34)=some .cq:=gX hE rfl
 refine ku9.R rfl rfl ?_
 unfold u9
 simp only[aC,aG,List.cons_append,List.nil_append]
 repeat' (first|(apply aK;rfl;exact rfl)|(apply aN;rfl)|(apply jI;rfl;rfl;exact l1;simp only[ai];rfl)|(apply aD;rfl;simp only[ai];rfl)|(apply aF;rfl;rfl;(·first|exact c28 hE|exact c29);rfl;simp only[ai];rfl)|exact aq rfl rfl)

/-! ## copies -/

def msd:Sc.gL:={ minute:=0,time:=0,jump:=false,mark:=2 }
def cd (L n:Nat):Sc.aS:={ cls:=0,dH:=List.replicate L 0,lines:=List.replicate n msd }


theorem aJn {xs:List Int}(h0:xs≠[])(hl:xs.length≤1000000):bk Tryz.prog 36 (.st []) [.bq (xs.map I)] (.sl 1 0 xs.length) (.st [.bh [],.aE 3 1 (xs.flatMap (fun x=>[I x]))]):=by
 have hc:Qrj (xs.map I)=xs.flatMap (fun x=>[I x]):=by simp only[Qrj,List.flatMap_map];rfl
 have hac:bK 1 (xs.map I)=true:=by
  simp only[bK,List.all_map,List.all_eq_true,Function.comp]
  exact fun x _=>rfl
 have hone:(xs.flatMap (fun x=>[I x])).all (·.one)=true:=by
  rw[List.all_eq_true]
  intro y hy
  obtain⟨x,_,hx⟩:=List.mem_flatMap.1 hy
  exact List.all_eq_true.1 (show((fun x=>[I x]) x).all (·.one)=true from rfl) y hx
 have hne:xs.map I≠[]:=by simpa using h0
 have hlen:xs.length≠0:=by simpa using h0
 have hm:1000000≤maxLen:=by decide
 have ha:D.fU 3 1 8 (.st [.aE 3 1 []]) (.sl 0 0 0) (.bq (xs.map I))=some (.st [.bh [],.aE 3 1 (xs.flatMap (fun x=>[I x]))]):=by
  have hi:([.aE 3 1 []]:List D)[0]? = some (.aE 3 1 []):=rfl
  simp only[D.fU,D.JN,D.gF,hi,Option.bind_some,hac,hc,hone,if_neg hne,List.length_map]
  rw[if_pos (by refine⟨trivial,trivial,trivial,rfl,by omega,by omega,trivial,trivial⟩)]
  rfl
 have hp:D.apps (.st [.aE 3 1 []]) (.sl 0 0 0) (.bq (xs.map I))=some (.sl 1 0 xs.length):=by
  simp only[D.apps,D.cnt,List.length_map,if_neg hlen,Nat.zero_add,List.length_cons,List.length_nil]
 refine aE0.W rfl ?_
 unfold aEm
 simp only[aC,aG,List.cons_append,List.nil_append]
 refine aiD rfl fun b hb=>?_
 obtain rfl:b=false:=by
  cases b with
  | false=>rfl
  | true=>exact absurd (hb rfl) hne
 repeat' (first|(apply bp;simp only[ai];rfl)|(exact aq (axM (mN rfl rfl rfl hp) rfl) rfl)|(apply aD;exact auy rfl rfl rfl ha;simp only[ai];rfl)|(apply aD;rfl;simp only[ai];rfl)|(apply aX;rfl;all_goals (intro hz;(try simp only[bA] at hz);first|(exact absurd hz (by decide))|(exfalso;omega)|skip)))

theorem aJh {xs:List Sc.gL}(h0:xs≠[])(hl:xs.length≤1000000):bk Tryz.prog 53 (.st []) [.bq (xs.map Sc.gL.d)] (.sl 1 0 xs.length) (.st [.bh [],.aE 69 4 (xs.flatMap Sc.gL.cs)]):=by
 have hc:Qrj (xs.map Sc.gL.d)=xs.flatMap Sc.gL.cs:=by simp only[Qrj,List.flatMap_map];rfl
 have hac:bK 4 (xs.map Sc.gL.d)=true:=by
  simp only[bK,List.all_map,List.all_eq_true,Function.comp]
  exact fun x _=>rfl
 have hone:(xs.flatMap Sc.gL.cs).all (·.one)=true:=by
  rw[List.all_eq_true]
  intro y hy
  obtain⟨x,_,hx⟩:=List.mem_flatMap.1 hy
  exact List.all_eq_true.1 (show(Sc.gL.cs x).all (·.one)=true from rfl) y hx
 have hne:xs.map Sc.gL.d≠[]:=by simpa using h0
 have hlen:xs.length≠0:=by simpa using h0
 have hm:1000000≤maxLen:=by decide
 have ha:D.fU 69 4 32 (.st [.aE 69 4 []]) (.sl 0 0 0) (.bq (xs.map Sc.gL.d))=some (.st [.bh [],.aE 69 4 (xs.flatMap Sc.gL.cs)]):=by
  have hi:([.aE 69 4 []]:List D)[0]? = some (.aE 69 4 []):=rfl
  simp only[D.fU,D.JN,D.gF,hi,Option.bind_some,hac,hc,hone,if_neg hne,List.length_map]
  rw[if_pos (by refine⟨trivial,trivial,trivial,rfl,by omega,by omega,trivial,trivial⟩)]
  rfl
 have hp:D.apps (.st [.aE 69 4 []]) (.sl 0 0 0) (.bq (xs.map Sc.gL.d))=some (.sl 1 0 xs.length):=by
  simp only[D.apps,D.cnt,List.length_map,if_neg hlen,Nat.zero_add,List.length_cons,List.length_nil]
 refine aEZ.W rfl ?_
 unfold aEa
 simp only[aC,aG,List.cons_append,List.nil_append]
 refine aiD rfl fun b hb=>?_
 obtain rfl:b=false:=by
  cases b with
  | false=>rfl
  | true=>exact absurd (hb rfl) hne
 repeat' (first|(apply bp;simp only[ai];rfl)|(exact aq (axM (mN rfl rfl rfl hp) rfl) rfl)|(apply aD;exact auy rfl rfl rfl ha;simp only[ai];rfl)|(apply aD;rfl;simp only[ai];rfl)|(apply aX;rfl;all_goals (intro hz;(try simp only[bA] at hz);first|(exact absurd hz (by decide))|(exfalso;omega)|skip)))

theorem atr {f:D→Option D}{d e:D}(h:f d=some e):∀k,dK f (List.replicate k d)=some (List.replicate k e)
 | 0=>rfl
 | k+1=>by simp only[List.replicate_succ,dK,h,atr h k,Option.bind_some,Option.map_some]

theorem aCq (L:Nat):HH L=.aE 1000000000 1 (List.replicate L (I 0)):=by
 have:Qrj (List.replicate L (I 0))=List.replicate L (I 0):=by
  induction L with
  | zero=>rfl
  | succ L ih=>rw[List.replicate_succ,Qrj,List.flatMap_cons];exact congrArg (I 0 :: ·) ih
 rw[HH,this]

theorem aCC (n:Nat):lnB n=.aE 1000000000 4 ((List.replicate n msd).flatMap Sc.gL.cs):=by
 have:Qrj (List.replicate n lnm)=(List.replicate n msd).flatMap Sc.gL.cs:=by
  induction n with
  | zero=>rfl
  | succ n ih=>rw[List.replicate_succ,List.replicate_succ,Qrj,List.flatMap_cons,List.flatMap_cons,←ih];rfl
 rw[lnB,this]

theorem ayN {i L k:Nat}(h:bs[i]? = some (HH L)):bD bs (k+2) (.sl i 0 L)=some (Is (List.replicate L 0)):=by
 rw[aCq] at h
 rw[bD]
 simp only[h]
 rw[if_pos (by simp),List.drop_zero,Nat.mul_one,List.take_of_length_le (by simp),atr (f:=bD bs (k+1)) (d:=I 0) (e:=I 0) rfl]
 simp

theorem ayO {i n k:Nat}(h:bs[i]? = some (lnB n)):bD bs (k+2) (.sl i 0 n)=some (.bq ((List.replicate n msd).map Sc.gL.d)):=by
 rw[aCC] at h
 have hl:((List.replicate n msd).flatMap Sc.gL.cs).length=n*4:=by rw[h_ (sz:=4) (fun _=>rfl),List.length_replicate]
 have hch:=vw (enc:=Sc.gL.cs) (sz:=4) (fun _=>rfl) (List.replicate n msd)
 rw[List.length_replicate] at hch
 rw[bD]
 simp only[h]
 rw[if_pos (by rw[hl];omega),List.drop_zero,List.take_of_length_le (by rw[hl];exact Nat.le_refl _),sX (enc:=Sc.gL.cs) (fun x=>by rfl)]
 simp only[Option.map_some,hch]
 simp[Sc.gL.d,List.map_map,Function.comp_def]

theorem aJo {i L:Nat}(h:bs[i]? = some (HH L))(h0:0<L)(hL:L≤1000):aP Tryz.prog 36 (.st bs) [.sl i 0 L] (Is (List.replicate L 0)):=by
 have hw:=aJn (xs:=List.replicate L 0) (by simp;omega) (by simp;omega)
 refine Xe hw (n:=2) (m:=2) (by simp only[dK,ayN h,Option.bind_some,Option.map_some]) (fun i x hx=>?_) (.sl _ _ _) ?_
 ·rcases i with _ | _ | i
  ·cases hx;exact .inl rfl
  ·cases hx
   exact .inr ⟨_,_,_,rfl,fun c hc=>by
    obtain⟨x,_,hx⟩:=List.mem_flatMap.1 hc
    simp at hx
    exact⟨_,hx⟩⟩
  ·simp at hx
 ·have hfl:(List.replicate L (0:Int)).flatMap (fun x=>[I x])=List.replicate L (I 0):=by
   clear hw h h0 hL
   induction L with
   | zero=>rfl
   | succ L ih=>rw[List.replicate_succ,List.flatMap_cons,ih];rfl
  rw[bD]
  simp only[List.getElem?_cons_succ,List.getElem?_cons_zero,hfl,List.length_replicate]
  rw[if_pos (by simp),List.drop_zero,Nat.mul_one,List.take_of_length_le (by simp),atr (f:=bD _ 1) (d:=I 0) (e:=I 0) rfl]
  simp

theorem aJi {i n:Nat}(h:bs[i]? = some (lnB n))(h0:0<n)(hn:n≤1000):aP Tryz.prog 53 (.st bs) [.sl i 0 n] (.bq ((List.replicate n msd).map Sc.gL.d)):=by
 have hw:=aJh (xs:=List.replicate n msd) (by simp;omega) (by simp;omega)
 have hl:((List.replicate n msd).flatMap Sc.gL.cs).length=n*4:=by rw[h_ (sz:=4) (fun _=>rfl),List.length_replicate]
 have hch:=vw (enc:=Sc.gL.cs) (sz:=4) (fun _=>rfl) (List.replicate n msd)
 rw[List.length_replicate] at hch
 refine Xe hw (n:=2) (m:=2) (by simp only[dK,ayO h,Option.bind_some,Option.map_some]) (fun i x hx=>?_) (.sl _ _ _) ?_
 ·rcases i with _ | _ | i
  ·cases hx;exact .inl rfl
  ·cases hx
   exact .inr ⟨_,_,_,rfl,fun c hc=>by
    obtain⟨x,_,hx⟩:=List.mem_flatMap.1 hc
    simp only[Sc.gL.cs,List.mem_cons,List.not_mem_nil,or_false] at hx
    rcases hx with rfl | rfl | rfl | rfl <;> exact⟨_,rfl⟩⟩
  ·simp at hx
 ·rw[bD]
  simp only[List.getElem?_cons_succ,List.getElem?_cons_zero,List.length_replicate]
  rw[if_pos (by rw[hl];omega),List.drop_zero,List.take_of_length_le (by rw[hl];exact Nat.le_refl _),sX (enc:=Sc.gL.cs) (fun x=>by rfl)]
  simp only[Option.map_some,hch]
  simp[Sc.gL.d,List.map_map,Function.comp_def]

theorem c31 {i1 i2 L n:Nat}(h1:bs[i1]? = some (HH L))(h2:bs[i2]? = some (lnB n))(hL:0<L∧L≤1000)(hn:0<n∧n≤1000):aP Tryz.prog 31 (.st bs) [.agg [I 0,.sl i1 0 L,.sl i2 0 n]] (cd L n).d:=by
 refine aeN.R rfl rfl ?_
 unfold u31
 simp only[aC,aG,List.cons_append,List.nil_append]
 repeat' (first|(apply aN;rfl)|(apply aF;rfl;rfl;(·first|exact aJo h1 hL.1 hL.2|exact aJi h2 hn.1 hn.2);rfl;simp only[ai];rfl)|exact aq rfl rfl)

theorem c11 {j m L n k:Nat}{s:Setup}{i o:Nat}{b c:D}(hE:bs[j]? = some (.aE 75 35 (eC s (.loc i o) b c (kS m k))))(hk:0<k∧k≤1000)(hC:bs[m+3*(k-1)+2]? = some (.aE 66 3 ((List.range k).flatMap (crd m L n))))(hB:∀j,j<k→bs[m+3*j]? = some (HH L)∧bs[m+3*j+1]? = some (lnB n))(hL:0<L∧L≤1000)(hn:0<n∧n≤1000):aP Tryz.prog 11 (.st bs) [.loc j 0] (dM (List.replicate k (cd L n))):=by
 obtain⟨k,rfl⟩:∃i,k=i+1:=⟨k-1,by omega⟩
 have l1:D.ld false 1 (.st bs) (.loc j 33)=some (kS m (k+1)):=gX hE rfl
 refine NS.R rfl rfl ?_
 unfold Y1
 simp only[aC,aG,List.cons_append,List.nil_append]
 repeat' (first|(apply aK;rfl;exact rfl)|(apply aN;rfl)|(apply jI;rfl;rfl;exact l1;simp only[ai];rfl)|(apply Qex;rfl;exact rfl;simp only[ai];rfl)|(apply aD;rfl;simp only[ai];rfl)|(apply aF;rfl;rfl;exact c28 hE;rfl;simp only[ai];rfl)|refine au ?_)
 refine bf (fun i=>[dM (List.replicate i (cd L n)),In i]) (fun _=>True) (k+1) (by rfl) (fun _=>rfl) trivial (fun i hi _ R hR=>?_) (fun _ R=>?_)
 ·have gH:decide ((i:Int)<((k+1:Nat):Int))=true:=by rw[decide_eq_true_eq];omega
  have IS:D.aj 3 (kS m (k+1)) (In i)=some (.loc (m+3*k+2) (i*3)):=eH hi
  have Yj:D.ld true 3 (.st bs) (.loc (m+3*k+2) (i*3))=some (.agg (crd m L n i)):=aow hC (fun _=>rfl) (by rw[List.getElem?_range hi])
  obtain⟨b1,b2⟩:=hB i hi
  have nD:D.app 3 56 (dM (List.replicate i (cd L n))) (.bq [(cd L n).d])=some (dM (List.replicate (i+1) (cd L n))):=by
   have hm:2000≤maxLen:=by decide
   rw[zJ (enc:=Sc.aS.d) (by simp;omega) (by simp;omega) (fun _=>rfl),List.replicate_succ']
  repeat' (first|(apply bp;simp only[ai];rfl)|(apply aH;rfl;exact gH)|(apply aN;rfl)|(apply jI;rfl;rfl;exact Yj;simp only[ai];rfl)|(apply aA;rfl;rfl;exact IS;simp only[ai];rfl)|(apply mV;rfl;rfl;exact nD;simp only[ai];rfl)|(apply aW;rfl;omega;simp only[ai];rfl)|(apply aD;rfl;simp only[ai];rfl)|(apply aF;rfl;rfl;exact c31 b1 b2 hL hn;rfl;simp only[ai];rfl)|refine au ?_|(apply av;rfl;rfl)|refine Qav ?_|refine kj rfl ?_)
  exact hR trivial
 ·have hlf:decide (((k+1:Nat):Int)<((k+1:Nat):Int))=false:=by simp
  repeat' (first|(apply bp;simp only[ai];rfl)|(apply aK;rfl;exact hlf)|(apply aD;rfl;simp only[ai];rfl)|(apply av;rfl;rfl)|refine Qav ?_|(refine aB (by decide) ?_)|refine kj rfl ?_|exact aq rfl rfl)
end

section
open Go.Proofs Go.Am.Sc
set_option maxRecDepth 100000
set_option maxHeartbeats 4000000

attribute [local irreducible] Qrk fV

variable {bs:List D}

theorem c30 {L:Nat}(hL:L≤1000):aP Tryz.prog 30 (.st bs) [Is (List.replicate L 0),Is (List.replicate L 0)] (B true):=by
 have hl:D.aR (Is (List.replicate L 0))=some (In L):=by simp[D.aR]
 refine akH.R rfl rfl ?_
 unfold u30
 simp only[aC,aG,List.cons_append,List.nil_append]
 repeat' (first|(apply aK;rfl;(·(simp)))|(apply Qex;rfl;exact hl;simp only[ai];rfl)|(apply aD;rfl;simp only[ai];rfl)|refine au ?_)
 refine bf (fun i=>[In i]) (fun _=>True) L rfl (fun _=>rfl) trivial (fun i hi _ R hR=>?_) (fun _ R=>?_)
 ·have gH:decide ((i:Int)<(L:Int))=true:=by rw[decide_eq_true_eq];omega
  have IS:D.aj 1 (Is (List.replicate L 0)) (In i)=some (.ptr [I 0]):=r6 (enc:=I) (a:=0) (by simp[hi]) rfl
  repeat' (first|(apply bp;simp only[ai];rfl)|(apply aH;rfl;exact gH)|(apply aK;rfl;exact rfl)|(apply aA;rfl;rfl;exact IS;simp only[ai];rfl)|(apply Qex;rfl;exact hl;simp only[ai];rfl)|(apply aW;rfl;omega;simp only[ai];rfl)|(apply aD;rfl;simp only[ai];rfl)|refine au ?_|(apply av;rfl;rfl)|refine Qav ?_|refine kj rfl ?_)
  exact hR trivial
 ·have hlf:decide ((L:Int)<(L:Int))=false:=by simp
  repeat' (first|(apply bp;simp only[ai];rfl)|(apply aK;rfl;exact hlf)|(apply Qex;rfl;exact hl;simp only[ai];rfl)|(apply aD;rfl;simp only[ai];rfl)|(apply av;rfl;rfl)|refine Qav ?_|(refine aB (by decide) ?_)|refine kj rfl ?_|exact aq rfl rfl)

theorem c10 {L n k:Nat}(hL:L≤1000)(hn:n≤1000)(hk:k≤1000):aP Tryz.prog 10 (.st bs) [dM (List.replicate k (cd L n)),dM (List.replicate k (cd L n))] (B true):=by
 have hl:D.aR (dM (List.replicate k (cd L n)))=some (In k):=by simp[D.aR]
 have uY:D.aR (.bq ((List.replicate n msd).map Sc.gL.d))=some (In n):=by simp[D.aR]
 refine aaR.R rfl rfl ?_
 unfold u10
 simp only[aC,aG,List.cons_append,List.nil_append]
 repeat' (first|(apply aK;rfl;(·(simp)))|(apply Qex;rfl;exact hl;simp only[ai];rfl)|(apply aD;rfl;simp only[ai];rfl)|refine au ?_)
 refine bf (fun i=>[In i]) (fun _=>True) k rfl (fun _=>rfl) trivial (fun i hi _ R hR=>?_) (fun _ R=>?_)
 ·have gH:decide ((i:Int)<(k:Int))=true:=by rw[decide_eq_true_eq];omega
  have IS:D.aj 3 (dM (List.replicate k (cd L n))) (In i)=some (.ptr (cd L n).cs):=r6 (enc:=Sc.aS.d) (a:=cd L n) (by simp[hi]) rfl
  have hor:(((0:Int) != 0)||!true||((n:Int) != (n:Int)))=false:=by simp
  repeat' (first|(apply bp;simp only[ai];rfl)|(apply aH;rfl;exact gH)|(apply aK;rfl;exact hor)|(apply aN;rfl)|(apply aA;rfl;rfl;exact IS;simp only[ai];rfl)|(apply Qex;rfl;(·first|exact hl|exact uY);simp only[ai];rfl)|(apply aD;rfl;simp only[ai];rfl)|(apply aF;rfl;rfl;exact c30 hL;rfl;simp only[ai];rfl)|(apply bL;rfl)|refine au ?_|exact aq rfl rfl|(intro hz;(try simp only[bA] at hz)))
  refine bf (fun i=>[In i]) (fun _=>True) n rfl (fun _=>rfl) trivial (fun j hj _ R2 k_=>?_) (fun _ R2=>?_)
  ·have hlj:decide ((j:Int)<(n:Int))=true:=by rw[decide_eq_true_eq];omega
   have hel:D.aj 4 (.bq ((List.replicate n msd).map Sc.gL.d)) (In j)=some (.ptr msd.cs):=r6 (enc:=Sc.gL.d) (a:=msd) (by simp[hj]) rfl
   repeat' (first|(apply bp;simp only[ai];rfl)|(apply aH;rfl;exact hlj)|(apply aK;rfl;exact rfl)|(apply aN;rfl)|(apply aA;rfl;rfl;(·first|exact IS|exact hel);simp only[ai];rfl)|(apply Qex;rfl;exact uY;simp only[ai];rfl)|(apply aW;rfl;omega;simp only[ai];rfl)|(apply aD;rfl;simp only[ai];rfl)|refine au ?_|(apply av;rfl;rfl)|refine Qav ?_|refine kj rfl ?_)
   exact k_ trivial
  ·have hlf:decide ((n:Int)<(n:Int))=false:=by simp
   repeat' (first|(apply bp;simp only[ai];rfl)|(apply aK;rfl;exact hlf)|(apply aN;rfl)|(apply aA;rfl;rfl;exact IS;simp only[ai];rfl)|(apply Qex;rfl;exact uY;simp only[ai];rfl)|(apply aW;rfl;omega;simp only[ai];rfl)|(apply aD;rfl;simp only[ai];rfl)|(apply av;rfl;rfl)|refine Qav ?_|(refine aB (by decide) ?_)|refine kj rfl ?_)
   exact hR trivial
 ·have hlf:decide ((k:Int)<(k:Int))=false:=by simp
  repeat' (first|(apply bp;simp only[ai];rfl)|(apply aK;rfl;exact hlf)|(apply Qex;rfl;exact hl;simp only[ai];rfl)|(apply aD;rfl;simp only[ai];rfl)|(apply av;rfl;rfl)|refine Qav ?_|(refine aB (by decide) ?_)|refine kj rfl ?_|exact aq rfl rfl)

def gR (g:Grd)(i:Nat):List D:=[.aE 1000000000 5 ((sts g.Qtq.toNat i).flatMap stc),.aE 1000000000 8 [I g.Qtj,I g.ak1,I g.clear,I g.interval,I g.missing,I g.Qtq,.cq,.sl 0 0 g.Qtq.toNat]]

theorem aA3 (k:Nat):Qrj (List.replicate k (.agg (stc false)))=(sts k 0).flatMap stc:=by
 rw[sts,List.replicate_zero,List.nil_append,Nat.sub_zero]
 induction k with
 | zero=>rfl
 | succ k ih=>rw[List.replicate_succ,List.replicate_succ,List.flatMap_cons,←ih];rfl

theorem c32 {g:Grd}(hg:1≤g.Qtq∧g.Qtq≤200):bk Tryz.prog 32 (.st []) [g.d] (.loc 1 0) (.st (gR g g.Qtq.toNat)):=by
 have hc:g.Qtq=(g.Qtq.toNat:Int):=by omega
 have hrc:D.rep 32 (I g.Qtq) (.agg (stc false))=some (.bq (List.replicate g.Qtq.toNat (.agg (stc false)))):=as1 hc (by omega) (by omega)
 have n1:D.a_ 1000000000 5 (.st []) (.bq (List.replicate g.Qtq.toNat (.agg (stc false))))=some (.st [.aE 1000000000 5 ((sts g.Qtq.toNat 0).flatMap stc)]):=by
  rw[asd (cs:=stc false) (sz:=5) rfl rfl,aA3]
  rfl
 have hst:∀{env:List D},(E.sym 1).eval env=some (.st [])→(E.sym 2).eval env=some (.bq (List.replicate g.Qtq.toNat (.agg (stc false))))→(E.aU (.a_ 1000000000 5 (.sym 1) (.sym 2))).eval env=some (.loc 1 0):=fun a b=>axP (anA a b n1) rfl
 have hnb:∀{env:List D} {x:E},(E.sym 1).eval env=some (.st [])→(E.sym 2).eval env=some (.bq (List.replicate g.Qtq.toNat (.agg (stc false))))→x.eval env=some (.agg [I g.Qtj,I g.ak1,I g.clear,I g.interval,I g.missing,I g.Qtq,.cq,.sl 0 0 g.Qtq.toNat])→(E.cI 1000000000 8 (.a_ 1000000000 5 (.sym 1) (.sym 2)) x).eval env=some (.st (gR g 0)):=fun a b c=>ay5 (anA a b n1) c rfl
 have dG:∀{env:List D},(E.sym 1).eval env=some (.st [])→(E.sym 2).eval env=some (.bq (List.replicate g.Qtq.toNat (.agg (stc false))))→(E.sym 3).eval env=some (.agg [I g.Qtj,I g.ak1,I g.clear,I g.interval,I g.missing,I g.Qtq,.cq,B false])→(E.cons (.cell 0 (.sym 3)) (.cons (.cell 1 (.sym 3)) (.cons (.cell 2 (.sym 3)) (.cons (.cell 3 (.sym 3)) (.cons (.cell 4 (.sym 3)) (.cons (.cell 5 (.sym 3)) (.cons (.cell 6 (.sym 3)) (.cons (.bO (.sym 1) (.sym 2)) .nil)))))))).eval env=some (.agg [I g.Qtj,I g.ak1,I g.clear,I g.interval,I g.missing,I g.Qtq,.cq,.sl 0 0 g.Qtq.toNat]):=fun {env} a b e=>by
  have s1:=apM a b (d:=.sl 0 0 g.Qtq.toNat) (by simp[D.bO])
  have cl:∀{i:Nat} {v:D},[I g.Qtj,I g.ak1,I g.clear,I g.interval,I g.missing,I g.Qtq,.cq,B false][i]? = some v→(E.cell i (.sym 3)).eval env=some v:=fun {i v} h=>by
   have:(E.cell i (.sym 3)).eval env=((E.sym 3).eval env).bind (D.cell i):=rfl
   rw[this,e]
   exact h
  exact Qtw (cl rfl) (Qtw (cl rfl) (Qtw (cl rfl) (Qtw (cl rfl) (Qtw (cl rfl) (Qtw (cl rfl) (Qtw (cl rfl) (Qtw s1 rfl rfl) rfl) rfl) rfl) rfl) rfl) rfl) rfl
 have hG:∀i,(gR g i)[1]? = some (.aE 1000000000 8 [I g.Qtj,I g.ak1,I g.clear,I g.interval,I g.missing,I g.Qtq,.cq,.sl 0 0 g.Qtq.toNat]):=fun i=>rfl
 have Yj:∀i,D.ld false 1 (.st (gR g i)) (.loc 1 7)=some (.sl 0 0 g.Qtq.toNat):=fun i=>gX (hG i) rfl
 refine akG.W rfl ?_
 unfold u32
 simp only[aC,aG,List.cons_append,List.nil_append]
 repeat' (first|(apply aN;rfl)|(apply F9;rfl;exact hrc;simp only[ai];rfl)|(apply aD;rfl;simp only[ai];rfl)|refine au ?_)
 refine bf (fun i=>[In i,.st (gR g i)]) (fun _=>True) g.Qtq.toNat (xY rfl (xY (hnb rfl rfl (dG rfl rfl rfl)) V0)) (fun _=>rfl) trivial (fun i hi _ R hR=>?_) (fun _ R=>?_)
 ·have gH:decide ((i:Int)<g.Qtq)=true:=by rw[decide_eq_true_eq];omega
  have uU:D.gQ 1 (.st (gR g i)) (.loc 0 (i*5+2)) (I (-1))=some (.st (gR g (i+1))):=by
   have hlen:i*5+2<((sts g.Qtq.toNat i).flatMap stc).length:=by
    rw[h_ ash]
    simp[sts]
    omega
   rw[mr (show(gR g i)[0]? = some (.aE 1000000000 5 ((sts g.Qtq.toNat i).flatMap stc)) from rfl) hlen rfl,LG (y:=true) ash (by omega) rfl (ayG hi),ayF hi]
   rfl
  repeat' (first|(apply bp;simp only[ai];rfl)|(apply aH;rfl;exact gH)|(apply aN;rfl)|(apply jI;rfl;rfl;exact Yj i;simp only[ai];rfl)|(apply aA;rfl;rfl;exact eH hi;simp only[ai];rfl)|(apply kT;rfl;rfl;rfl;exact uU;simp only[ai];rfl)|(apply aW;rfl;omega;simp only[ai];rfl)|(apply aD;(·exact aAq (hst rfl rfl) rfl);simp only[ai];rfl)|(apply aD;rfl;simp only[ai];rfl)|refine au ?_|(apply av;rfl;rfl)|refine Qav ?_|refine kj rfl ?_)
  exact hR trivial
 ·have hlf:decide ((g.Qtq.toNat:Int)<g.Qtq)=false:=by rw[decide_eq_false_iff_not];omega
  repeat' (first|(apply bp;simp only[ai];rfl)|(exact aq (axM (hst rfl rfl) rfl) rfl)|(apply aK;rfl;exact hlf)|(apply aD;rfl;simp only[ai];rfl)|(apply av;rfl;rfl)|refine Qav ?_|(refine aB (by decide) ?_)|refine kj rfl ?_)
end

section
open Go.Proofs Go.Am.Sc
set_option maxRecDepth 100000
set_option maxHeartbeats 4000000

attribute [local irreducible] Qrk fV

def rS (s:Setup)(k:Nat):List D:=gR s.g s.g.Qtq.toNat++[.aE 56 35 (s.cs++[.loc 1 0,.cq,.cq,kS 3 k,.cq])]

theorem c12 {s:Setup}(h:s.Ok)(ho:s.ok=true):bk Tryz.prog 12 (.st []) [s.d] (.loc 2 0) (.st (rS s s.f.Qtq.toNat++kB 3 s.p.js.toNat s.p.items.length s.f.Qtq.toNat)):=by
 obtain⟨hg,hf,hp,hc,e1,e2,e3⟩:=Setup.nV ho
 have hph:=aL.gi hp
 have hpn:s.p.items.length=s.p.n:=rfl
 have Zx:=aL.yK hp
 have h32:=c32 (g:=s.g) (apK hg).2
 have aBV:s.f.Qtq=(s.f.Qtq.toNat:Int)∧s.f.Qtq.toNat≤200:=by
  have:=(apK hg).2
  omega
 refine apZ.W rfl ?_
 unfold u12
 simp only[aC,aG,List.cons_append,List.nil_append]
 repeat' (first|(apply aN;rfl)|(apply aD;rfl;simp only[ai];rfl)|(apply eZ;rfl;rfl;exact h32;rfl;simp only[ai];rfl)|refine au ?_)
 refine bf (fun k=>[In k,.st (rS s k++kB 3 s.p.js.toNat s.p.items.length k)]) (fun _=>True) s.f.Qtq.toNat (by rfl) (fun _=>rfl) trivial (fun k hk _ R hR=>?_) (fun _ R=>?_)
 ·have gH:decide ((k:Int)<s.f.Qtq)=true:=by rw[decide_eq_true_eq];omega
  have h33:=c33 (bs:=rS s k++kB 3 s.p.js.toNat s.p.items.length k) (p:=s.p) (by omega) (by omega) (by have:=aL.qR hp (i:=s.p.n-1) (by omega);omega)
  have Li:D.rep 8 (I s.p.js) (I 0)=some (.bq (List.replicate s.p.js.toNat (I 0))):=as1 (by omega) (by omega) (by omega)
  have CD:D.rep 32 (In s.p.items.length) ln0=some (.bq (lns s.p.items.length 0)):=by rw[axb];exact as1 rfl (by omega) (by omega)
  repeat' (first|(apply bp;simp only[ai];rfl)|(apply aH;rfl;exact gH)|(apply Qex;rfl;exact ak;simp only[ai];rfl)|(apply F9;rfl;(·first|exact Li|exact CD);simp only[ai];rfl)|(apply aD;rfl;simp only[ai];rfl)|(apply aF;rfl;rfl;exact h33;rfl;simp only[ai];rfl)|refine au ?_)
  refine bf (fun i=>[In i,.bq (lns s.p.items.length i)]) (fun _=>True) s.p.items.length (by rfl) (fun _=>rfl) trivial (fun i hi _ R2 k_=>?_) (fun _ R2=>?_)
  ·have aCL:decide ((i:Int)<(s.p.items.length:Int))=true:=by simp;omega
   have uY:D.aR (.bq (lns s.p.items.length i))=some (In s.p.items.length):=by rw[D.aR,atj _ _ (by omega)]
   repeat' (first|(apply bp;simp only[ai];rfl)|(apply aH;rfl;exact aCL)|(apply Qex;rfl;exact uY;simp only[ai];rfl)|(apply Bd;rfl;rfl;exact ayQ hi;simp only[ai];rfl)|(apply Ba;rfl;rfl;rfl;exact ayP hi;simp only[ai];rfl)|(apply aW;rfl;omega;simp only[ai];rfl)|(apply aD;rfl;simp only[ai];rfl)|refine au ?_|(apply av;rfl;rfl)|refine Qav ?_|refine kj rfl ?_)
   exact k_ trivial
  ·have hlf:decide ((s.p.items.length:Int)<(s.p.items.length:Int))=false:=by simp
   have uY:D.aR (.bq (lns s.p.items.length s.p.items.length))=some (In s.p.items.length):=by rw[D.aR,atj _ _ (Nat.le_refl _)]
   repeat' (first|(apply bp;simp only[ai];rfl)|(apply aK;rfl;exact hlf)|(apply aN;rfl)|(apply Qex;rfl;exact uY;simp only[ai];rfl)|(apply aD;rfl;simp only[ai];rfl)|(apply av;rfl;rfl)|refine Qav ?_|(refine aB (by decide) ?_)|refine kj rfl ?_)
   have hAl:(rS s k).length=3:=rfl
   have hKl:(rS s k++kB 3 s.p.js.toNat s.p.items.length k).length=3+3*k:=by rw[List.length_append,hAl,av5]
   have n1:=ayL (bs:=rS s k++kB 3 s.p.js.toNat s.p.items.length k) (L:=s.p.js.toNat)
   have n2:=ayM (bs:=rS s k++kB 3 s.p.js.toNat s.p.items.length k++[HH s.p.js.toNat]) (n:=s.p.items.length)
   have hnv:∀{env:List D},(E.sym 7).eval env=some (.st (rS s k++kB 3 s.p.js.toNat s.p.items.length k))→(E.sym 10).eval env=some (.bq (List.replicate s.p.js.toNat (I 0)))→(E.sym 17).eval env=some (.bq (lns s.p.items.length s.p.items.length))→(E.a_ 1000000000 4 (.a_ 1000000000 1 (.sym 7) (.sym 10)) (.sym 17)).eval env=some (.st (rS s k++kB 3 s.p.js.toNat s.p.items.length k++[HH s.p.js.toNat]++[lnB s.p.items.length])):=fun a b c=>anA (anA a b n1) c n2
   have hs1:∀{env:List D},(E.sym 7).eval env=some (.st (rS s k++kB 3 s.p.js.toNat s.p.items.length k))→(E.sym 10).eval env=some (.bq (List.replicate s.p.js.toNat (I 0)))→(E.bO (.sym 7) (.sym 10)).eval env=some (.sl (3+3*k) 0 s.p.js.toNat):=fun a b=>apM a b (by simp only[D.bO,hKl,List.length_replicate])
   have fX:∀{env:List D},(E.sym 7).eval env=some (.st (rS s k++kB 3 s.p.js.toNat s.p.items.length k))→(E.sym 10).eval env=some (.bq (List.replicate s.p.js.toNat (I 0)))→(E.sym 17).eval env=some (.bq (lns s.p.items.length s.p.items.length))→(E.bO (.a_ 1000000000 1 (.sym 7) (.sym 10)) (.sym 17)).eval env=some (.sl (3+3*k+1) 0 s.p.items.length):=fun a b c=>apM (anA a b n1) c (by simp only[D.bO,List.length_append (bs:=[HH s.p.js.toNat]),hKl,atj _ _ (Nat.le_refl _),List.length_cons,List.length_nil])
   have IU:∀{env:List D},(E.sym 7).eval env=some (.st (rS s k++kB 3 s.p.js.toNat s.p.items.length k))→(E.sym 10).eval env=some (.bq (List.replicate s.p.js.toNat (I 0)))→(E.sym 17).eval env=some (.bq (lns s.p.items.length s.p.items.length))→(E.cons (ki 0) (.cons (.bO (.sym 7) (.sym 10)) (.cons (.bO (.a_ 1000000000 1 (.sym 7) (.sym 10)) (.sym 17)) .nil))).eval env=some (.agg (crd 3 s.p.js.toNat s.p.items.length k)):=fun a b c=>Qtw rfl (Qtw (hs1 a b) (Qtw (fX a b c) rfl rfl) rfl) rfl
   have hE2:∀K:List D,(rS s k++K)[2]? = some (.aE 56 35 (s.cs++[.loc 1 0,.cq,.cq,kS 3 k,.cq])):=fun _=>rfl
   have l33:D.ld false 1 (.st (rS s k++kB 3 s.p.js.toNat s.p.items.length k++[HH s.p.js.toNat]++[lnB s.p.items.length])) (.loc 2 33)=some (kS 3 k):=gX (by rw[List.append_assoc,List.append_assoc];exact hE2 _) rfl
   have hst:D.gQ 1 (.st (rS s k++kB 3 s.p.js.toNat s.p.items.length (k+1))) (.loc 2 33) (kS 3 (k+1))=some (.st (rS s (k+1)++kB 3 s.p.js.toNat s.p.items.length (k+1))):=by
    rw[mr (hE2 _) (by simp[Setup.cs]) rfl]
    rfl
   repeat' (first|(apply aN;rfl)|(apply aD;(·first|exact agH (hnv rfl rfl rfl) rfl l33|exact axO (aAr (IU rfl rfl rfl) rfl) rfl rfl|exact auy (hnv rfl rfl rfl) rfl rfl (aAe hAl (by omega))|exact abW rfl rfl (mN (hnv rfl rfl rfl) rfl rfl (av4 hAl)) hst);simp only[ai];rfl)|(apply aD;rfl;simp only[ai];rfl))
   refine av (xY (hs1 rfl rfl) (xY (fX rfl rfl rfl) (xY (fX rfl rfl rfl) (xY (IU rfl rfl rfl) (xY (mN (hnv rfl rfl rfl) rfl rfl (av4 hAl)) (xY (hs1 rfl rfl) (xY (fX rfl rfl rfl) V0))))))) rfl ?_
   repeat' (first|(apply bp;simp only[ai];rfl)|(apply aW;rfl;omega;simp only[ai];rfl)|(apply av;rfl;rfl)|refine Qav ?_|refine kj rfl ?_)
   exact hR trivial
 ·have hlf:decide ((s.f.Qtq.toNat:Int)<s.f.Qtq)=false:=by rw[decide_eq_false_iff_not];omega
  repeat' (first|(apply bp;simp only[ai];rfl)|(apply aK;rfl;exact hlf)|(apply aD;rfl;simp only[ai];rfl)|(apply av;rfl;rfl)|refine Qav ?_|(refine aB (by decide) ?_)|refine kj rfl ?_|exact aq rfl rfl)

/-! ## what it melts to -/

theorem aqn {f:D→Option D}:∀{l:List D},(∀x,x∈l→∃y,f x=some y)→∃l',dK f l=some l'
 | [],_=>⟨[],rfl⟩
 | x :: l,h=>by
  obtain⟨y,hy⟩:=h x (by simp)
  obtain⟨l',hl⟩:=aqn (l:=l) fun z hz=>h z (by simp[hz])
  exact⟨y :: l',by simp only[dK,hy,hl,Option.bind_some,Option.map_some]⟩

theorem apl {α:Type}{enc enc':α→List D}{f:D→Option D}:∀{xs:List α},(∀x,x∈xs→dK f (enc x)=some (enc' x))→dK f (xs.flatMap enc)=some (xs.flatMap enc')
 | [],_=>rfl
 | x :: xs,h=>by
  rw[List.flatMap_cons,List.flatMap_cons]
  exact sY (h x (by simp)) (apl fun y hy=>h y (by simp[hy]))

theorem aCA {A:List D}{m L n k q:Nat}(hm:A.length=m):bD (A++kB m L n k) (q+4) (kS m k)=some (dM (List.replicate k (cd L n))):=by
 cases k with
 | zero=>rfl
 | succ k=>
  have hC:=aBH (L:=L) (n:=n) (k:=k+1) hm (by omega)
  have IU:∀j,j∈List.range (k+1)→dK (bD (A++kB m L n (k+1)) (q+3)) (crd m L n j)=some [I 0,Is (List.replicate L 0),.bq ((List.replicate n msd).map Sc.gL.d)]:=fun j hj=>by
   obtain⟨h1,h2⟩:=aE5 (L:=L) (n:=n) hm (List.mem_range.1 hj)
   simp only[crd,dK,ayN (k:=q+1) h1,ayO (k:=q+1) h2,Option.bind_some,Option.map_some]
   rfl
  have hfl:=h_ (enc:=crd m L n) ay7 (xs:=List.range (k+1))
  rw[List.length_range] at hfl
  have hch:=vw (enc:=fun _:Nat=>[I 0,Is (List.replicate L 0),.bq ((List.replicate n msd).map Sc.gL.d)]) (sz:=3) (fun _=>rfl) (List.range (k+1))
  rw[List.length_range] at hch
  rw[kS,bD]
  rw[show m+3*(k+1-1)+2=m+3*k+2 by omega] at hC
  simp only[hC]
  rw[if_pos (by rw[hfl];omega),List.drop_zero,List.take_of_length_le (by rw[hfl];exact Nat.le_refl _),apl IU]
  rw[Option.map_some,if_neg (by decide),hch,List.map_map,List.map_replicate]
  congr 2
  rw[List.map_replicate]
  rw[List.eq_replicate_iff]
  refine⟨by simp,fun b hb=>?_⟩
  obtain⟨j,_,rfl⟩:=List.mem_map.1 hb
  simp only[Function.comp,Sc.aS.d,Sc.aS.cs,cd,List.map_replicate]

theorem aJu {s:Setup}(h:s.Ok)(ho:s.ok=true):∃l:List D,l[33]? = some (dM (List.replicate s.f.Qtq.toNat (cd s.p.js.toNat s.p.items.length)))∧∀bs,aP Tryz.prog 12 (.st bs) [s.d] (.ptr l):=by
 have hw:=c12 h ho
 generalize hS:rS s s.f.Qtq.toNat++kB 3 s.p.js.toNat s.p.items.length s.f.Qtq.toNat=S at hw
 have hk:bD S 9 (kS 3 s.f.Qtq.toNat)=some (dM (List.replicate s.f.Qtq.toNat (cd s.p.js.toNat s.p.items.length))):=by
  rw[←hS]
  exact aCA (q:=5) rfl
 have hb0:S[0]? = some (.aE 1000000000 5 ((sts s.g.Qtq.toNat s.g.Qtq.toNat).flatMap stc)):=by rw[←hS];rfl
 have tM:S[1]? = some (.aE 1000000000 8 [I s.g.Qtj,I s.g.ak1,I s.g.clear,I s.g.interval,I s.g.missing,I s.g.Qtq,.cq,.sl 0 0 s.g.Qtq.toNat]):=by rw[←hS];rfl
 have tK:S[2]? = some (.aE 56 35 (s.cs++[.loc 1 0,.cq,.cq,kS 3 s.f.Qtq.toNat,.cq])):=by rw[←hS];rfl
 have hv:∀{q:Nat} (x:Value),∃y,bD S (q+1) (.v x)=some y:=fun x=>⟨_,rfl⟩
 have hL:∀{α:Type} {enc:α→D} (l:List α),(∀x,∃cs,enc x=.agg cs∧∀c,c∈cs→∃v,c=.v v)→∃y,bD S 9 (.bq (l.map enc))=some y:=fun {α enc} l hl=>by
  obtain⟨l',hl'⟩:=aqn (f:=bD S 8) (l:=l.map enc) fun x hx=>by
   obtain⟨a,_,rfl⟩:=List.mem_map.1 hx
   obtain⟨cs,e,hcs⟩:=hl a
   obtain⟨cs',alV⟩:=aqn (f:=bD S 7) (l:=cs) fun x hx=>by
    obtain⟨v,rfl⟩:=hcs x hx
    exact⟨_,rfl⟩
   exact⟨.agg cs',by rw[e,bD,alV];rfl⟩
  exact⟨.bq l',by rw[bD,hl'];rfl⟩
 have hs0:∃y,bD S 7 (.sl 0 0 s.g.Qtq.toNat)=some y:=by
  have hfl:((sts s.g.Qtq.toNat s.g.Qtq.toNat).flatMap stc).length=s.g.Qtq.toNat*5:=by rw[h_ ash];simp[sts]
  rw[bD]
  simp only[hb0]
  rw[if_pos (by rw[hfl];omega),List.drop_zero,List.take_of_length_le (by rw[hfl];exact Nat.le_refl _),sX (enc:=stc) (fun x=>by rfl)]
  exact⟨_,rfl⟩
 have hg1:∃y,bD S 9 (.loc 1 0)=some y:=by
  rw[bD]
  simp only[tM]
  obtain⟨l',hl'⟩:=aqn (f:=bD S 8) (l:=[I s.g.Qtj,I s.g.ak1,I s.g.clear,I s.g.interval,I s.g.missing,I s.g.Qtq,.cq,.sl 0 0 s.g.Qtq.toNat]) fun x hx=>by
   simp only[List.mem_cons,List.not_mem_nil,or_false] at hx
   rcases hx with rfl | rfl | rfl | rfl | rfl | rfl | rfl | rfl
   all_goals first | exact⟨_,rfl⟩ | skip
   have hfl:((sts s.g.Qtq.toNat s.g.Qtq.toNat).flatMap stc).length=s.g.Qtq.toNat*5:=by rw[h_ ash];simp[sts]
   rw[bD]
   simp only[hb0]
   rw[if_pos (by rw[hfl];omega),List.drop_zero,List.take_of_length_le (by rw[hfl];exact Nat.le_refl _),sX (enc:=stc) (fun x=>by rfl)]
   exact⟨_,rfl⟩
  exact⟨.ptr l',by rw[List.drop_zero,hl'];rfl⟩
 obtain⟨l,hl⟩:=aqn (f:=bD S 9) (l:=s.cs++[.loc 1 0,.cq,.cq,kS 3 s.f.Qtq.toNat,.cq]) fun x hx=>by
  simp only[Setup.cs,List.cons_append,List.nil_append,List.mem_cons,List.not_mem_nil,or_false] at hx
  rcases hx with rfl | rfl | rfl | rfl | rfl | rfl | rfl | rfl | rfl | rfl | rfl | rfl | rfl | rfl | rfl | rfl | rfl | rfl | rfl | rfl | rfl | rfl | rfl | rfl | rfl | rfl | rfl | rfl | rfl | rfl | rfl | rfl | rfl | rfl | rfl
  all_goals first
   | exact⟨_,hk⟩
   | exact hg1
   | exact⟨_,oJ⟩
   | exact hL (enc:=Src.d) s.s fun x=>⟨_,rfl,fun c hc=>by
     simp only[Src.cs,List.mem_cons,List.not_mem_nil,or_false] at hc
     rcases hc with rfl | rfl <;> exact⟨_,rfl⟩⟩
   | exact hL (enc:=Sc.Item.d) s.p.items fun x=>⟨_,rfl,fun c hc=>by
     simp only[Sc.Item.cs,List.mem_cons,List.not_mem_nil,or_false] at hc
     rcases hc with rfl | rfl | rfl | rfl <;> exact⟨_,rfl⟩⟩
   | exact hL (enc:=Art.d) s.c.Qtk fun x=>⟨_,rfl,fun c hc=>by
     simp only[List.mem_cons,List.not_mem_nil,or_false] at hc
     rcases hc with rfl | rfl | rfl | rfl <;> exact⟨_,rfl⟩⟩
   | exact⟨_,rfl⟩
 obtain⟨hlen,mM⟩:=jk hl
 have h33:33<l.length:=by rw[hlen];simp[Setup.cs]
 refine⟨l,?_,fun bs=>eN.bD (n:=10) hw (aAb s) ?_ bs⟩
 ·obtain⟨x,hx,hy⟩:=mM 33 _ (List.getElem?_eq_getElem h33)
  rw[List.getElem?_eq_getElem h33]
  cases hx
  rw[←hy,←hk]
 ·rw[bD]
  simp only[tK,List.drop_zero,hl,Option.map_some]
end
end Go.Am.Rb
