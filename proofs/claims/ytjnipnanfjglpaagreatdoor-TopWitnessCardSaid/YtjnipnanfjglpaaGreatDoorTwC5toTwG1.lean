/- Texts. -/
import Derived.Test.YtjnipnanfjglpaaGreatDoorTwC3
import Derived.Test.YtjnipnanfjglpaaGreatDoorToC1toTwShelf
import Derived.Test.YtjnipnanfjglpaaGreatDoorAmSortF
import Derived.Test.YtjnipnanfjglpaaGreatDoorAmKilltoAmOut
import Derived.Shelf.SlSortCmp.NoneTotal
set_option linter.unusedSimpArgs false
set_option linter.unusedVariables false
namespace Go.Am.Tw
section
open Go.Proofs
set_option maxRecDepth 100000
set_option maxHeartbeats 4000000
variable {bs:List D} {j m:Nat} {f:wk} {ss:List Src} {kv:List (aF×Int)}
attribute [local irreducible] fK
def nD (x y:Int):Int:=if x<y then -1 else if x > y then 1 else 0
theorem aqz (x:Int):aQ Tryz.prog 145 (.st bs) [I x] (B false):=by
 refine agR.R rfl rfl ?_;unfold aeZ;simp only[aB,aI,A0i,A0j]
 repeat' (first|(apply aU;rfl;simp only[au];rfl)|(apply aH;rfl;first|exact rfl|(refine eX ?_)|(refine eV ?_)|(refine eW ?_)))
 simp
theorem aqb (x:Int):aQ Tryz.prog 257 (.st bs) [I x] (B false):=by
 refine ags.R rfl rfl ?_;unfold aeA;simp only[aB,aI,A0i,A0j]
 repeat' (first|(apply aU;rfl;simp only[au];rfl)|(apply aH;rfl;first|exact rfl|(refine eX ?_)|(refine eV ?_)|(refine eW ?_)))
 simp
theorem c90 (x y:Int):aQ Tryz.prog 90 (.st bs) [I x,I y] (I (nD x y)):=by
 refine amN.R rfl rfl ?_;unfold u90;simp only[aB,aI,A0i,A0j]
 repeat' (first|(apply bf;rfl;exact rfl)|(apply aU;rfl;simp only[au];rfl)|(apply bC;rfl;rfl;exact aqz _;rfl;simp only[au];rfl)|(apply eN;rfl;all_goals (intro hz;(try simp only[gq] at hz);first|(exact absurd hz (by decide))|(exfalso;omega)|skip))|(apply aH;rfl;first|exact rfl|(refine eX ?_)|(refine eV ?_)|(refine eW ?_)))
 all_goals (unfold nD;split <;> (try split) <;> first | rfl | omega | (simp_all;done) | skip)
theorem aqe (x y:Int):aQ Tryz.prog 216 (.st bs) [I x,I y] (I (nD x y)):=by
 refine agv.R rfl rfl ?_;unfold aeD;simp only[aB,aI,A0i,A0j]
 repeat' (first|(apply bf;rfl;exact rfl)|(apply aU;rfl;simp only[au];rfl)|(apply bC;rfl;rfl;exact aqb _;rfl;simp only[au];rfl)|(apply eN;rfl;all_goals (intro hz;(try simp only[gq] at hz);first|(exact absurd hz (by decide))|(exfalso;omega)|skip))|(apply aH;rfl;first|exact rfl|(refine eX ?_)|(refine eV ?_)|(refine eW ?_)))
 all_goals (unfold nD;split <;> (try split) <;> first | rfl | omega | (simp_all;done) | skip)
def Ws:List Int→Int
 | []=>0
 | x :: r=>if x≠0 then x else Ws r
theorem SZ:∀{l:List Int} {i:Nat} (hi:i<l.length),l[i]≠0→(∀k (h:k<i),(l[k]'(by omega))=0)→Ws l=l[i]
 | x :: r,0,_,h,_=>by simp[Ws] at h ⊢;intro e;exact absurd e h
 | x :: r,i+1,hi,h,hn=>by have h0:=hn 0 (by omega);simp at h0;simp[Ws,h0];exact SZ (by simpa using hi) (by simpa using h) fun k hk=>by simpa using hn (k+1) (by omega)
theorem SX:∀{l:List Int},(∀x,x∈l→x=0)→Ws l=0
 | [],_=>rfl
 | x :: r,h=>by have:=h x (by simp);simp[Ws,this];exact SX fun y hy=>h y (by simp[hy])
theorem c95 (l:List Int)(hL:l.length≤1000000):aQ Tryz.prog 95 (.st bs) [Is l] (I (Ws l)):=by
 refine amL.R rfl rfl ?_;unfold u95;simp only[aB,aI,A0i,A0j]
 repeat' (first|(apply cM;rfl;exact bR;simp only[au];rfl)|refine aO ?_)
 refine ew (fun i=>[I i]) (fun i=>∀k (h:k<i) (h2:k<l.length),l[k]=0) l.length rfl (fun _=>rfl) (fun k h=>absurd h (B0U _)) (fun i hi hJ R hR=>?_) (fun hJ R=>?_)
 ·have gA:decide ((i:Int)<(l.length:Int))=true:=by simp;omega
  by_cases hP:l[i]=0
  ·repeat' (first|(apply dX;simp only[au];rfl)|(apply bF;rfl;exact gA)|(apply bf;rfl;(·(simp[hP])))|(apply bH;rfl;rfl;exact c_ hi rfl;simp only[au];rfl)|(apply eo;rfl;omega;simp only[au];rfl)|(apply aU;rfl;simp only[au];rfl)|refine aO ?_|(apply aL;rfl;rfl)|refine aC ?_|refine kj rfl ?_)
   refine hR fun k hk h2=>?_;rcases A0U k i with h3 | h3
   ·exact hJ k h3 h2
   ·have e:k=i:=by omega
    subst e;exact hP
  ·repeat' (first|(apply dX;simp only[au];rfl)|(apply bF;rfl;(·first|exact gA|(simp[hP])))|(apply bH;rfl;rfl;exact c_ hi rfl;simp only[au];rfl)|(apply aU;rfl;simp only[au];rfl)|refine aO ?_|(apply aH;rfl;first|exact rfl|(refine eX ?_)|(refine eV ?_)|(refine eW ?_)))
   exact(SZ hi hP fun k hk=>hJ k hk (by omega)).symm
 ·repeat' (first|(apply dX;simp only[au];rfl)|(apply aU;rfl;simp only[au];rfl)|(apply aL;rfl;rfl)|refine aC ?_|(refine aT (by decide) ?_)|refine kj rfl ?_|(apply eN;rfl;all_goals (intro hz;(try simp only[gq] at hz);first|(exact absurd hz (by decide))|(exfalso;omega)|skip))|(apply aH;rfl;first|exact rfl|(refine eX ?_)|(refine eV ?_)|(refine eW ?_)))
  refine(SX fun a ha=>?_).symm;obtain⟨k,hk,rfl⟩:=B0y.1 ha;exact hJ k hk hk
def Cf (a b:aF):Int:=Ws [nD a.source b.source,nD a.number b.number,nD a.kind b.kind,nD a.dV b.dV,nD a.place b.place,nD a.time b.time]
theorem aqr (a b:aF):aQ Tryz.prog 176 (.st bs) [a.d,b.d] (I (Cf a b)):=by
 have hOr:aQ Tryz.prog 95 (.st bs) [.bk [I (nD a.source b.source),I (nD a.number b.number),I (nD a.kind b.kind),I (nD a.dV b.dV),I (nD a.place b.place),I (nD a.time b.time)]] (I (Cf a b)):=c95 [nD a.source b.source,nD a.number b.number,nD a.kind b.kind,nD a.dV b.dV,nD a.place b.place,nD a.time b.time] (by simp);refine agL.R rfl rfl ?_;unfold aeT;simp only[aB,aI,A0i,A0j]
 repeat' (first|(apply bG;rfl)|(apply aU;rfl;simp only[au];rfl)|(apply bC;rfl;rfl;(·first|exact c90 _ _|exact aqe _ _|exact hOr);rfl;simp only[au];rfl)|exact aH rfl rfl)
end
section
open Go.Proofs Go.Sort Go.RowKit Go.Lib Go.Am.Rm
set_option maxRecDepth 100000
instance:Inhabited aF:=⟨⟨0,0,0,0,0,0,0⟩⟩
theorem SY:∀(xs ys:List Int),xs.length=ys.length→decide (Ws (List.zipWith nD xs ys)<0)=lx xs ys
 | [],[],_=>rfl
 | [],_ :: _,h=>by simp at h
 | _ :: _,[],h=>by simp at h
 | x :: xs,y :: ys,h=>by
  have ih:=SY xs ys (by simpa using h);simp only[C0A,Ws,lx,nD];rcases Int.lt_trichotomy x y with g | g | g
  ·rw[A0z g];simp[show x≠y by omega,g]
  ·subst g;simpa using ih
  ·rw[A0B (show¬x<y by omega),A0z g];simp[show x≠y by omega,show¬x<y by omega]
theorem On (a b:aF):ltOf Cf a b=before a b:=SY (key a) (key b) rfl
theorem Gd:SWO (ltOf Cf) where
 irrefl x:=by rw[On];exact l8 x
 trans x y z h1 h2:=by rw[On] at *;exact before_trans h1 h2
 ntrans x y z h1 h2:=by
  rw[On] at *;cases h:before x z with
  | false=>rfl
  | true=>
   cases h3:before y x with
   | true=>rw[before_trans h3 h] at h2;cases h2
   | false=>
    have:=GO (xs:=key x) (ys:=key y) rfl h1 h3;rw[DW this] at h;rw[h] at h2;cases h2
def YO (r:aF):List Value:=[.int .i64 r.source,.int .i64 r.number,.int .i64 r.kind,.int .i64 r.dV,.int .i64 r.place,.int .i64 r.time,.int .i64 r.aX]
theorem Pa:yf YO 7:=⟨fun _=>rfl,fun x v hv=>by
 simp only[YO,A0E,List.not_mem_nil,or_false] at hv;rcases hv with rfl | rfl | rfl | rfl | rfl | rfl | rfl <;> rfl⟩
def mh (d:Array aF):Array aF:=pdq (ltOf Cf) d 0 d.size (Lib.bitLen d.size) true true
theorem yI (d:Array aF):(mh d).size=d.size:=(pdq_sorts (ltOf Cf) Gd d 0 d.size (Lib.bitLen d.size) true true (B0e _) (A0m _) (Or.inl rfl)).1.1
variable {bs:List D}
theorem aqs {b:Nat}{e:TypeId}{xs:List aF}(hb:bs[b]? = some (.blk e 7 (xs.flatMap aF.cs)))(hL:xs.length<4611686018427387904) :
  aZ Tryz.prog 175 (.st bs) [.sl b 0 xs.length,.fn 176 [] []] (.a_ []) (.st (bs.set b (.blk e 7 ((mh xs.toArray).toList.flatMap aF.cs)))):=
 PF (f:=175) (g:=176) (cf:=Cf) (cr:=[]) (srt:=mh) Pa
  (fun cb blk off cap d w QJ hH hblk bV=>AnyQ.slices_SortFunc_eq Tryz.TE 7 Tryz.isAgg224 Tryz.sizeOf224 YO (fun _=>rfl) (fun x v hv=>Fa (Pa.pl x v hv)) Cf Gd 176 cb blk off cap d w (enters_of Tryz.func176 (by kernel_rfl) rfl) QJ hH hblk bV)
  yI (fun st x y=>aqr x y) hb hL
end
section
open Go.Proofs Go.Sort Go.RowKit Go.Lib Go.Am.Rm
set_option maxRecDepth 100000
theorem yJ (xs:List aF):(mh xs.toArray).toList.Perm xs:=by
 have h:=(pdq_sorts (ltOf Cf) Gd xs.toArray 0 xs.toArray.size (Lib.bitLen xs.toArray.size) true true (B0e _) (A0m _) (Or.inl rfl)).1;have h1:=h.1;have h2:=h.2.2;have e1:(mh xs.toArray).extract 0 xs.toArray.size=mh xs.toArray:=by rw[show xs.toArray.size=(mh xs.toArray).size from(yI _).symm];exact Array.extract_size
 have e2:xs.toArray.extract 0 xs.toArray.size=xs.toArray:=Array.extract_size;change ((mh xs.toArray).extract 0 xs.toArray.size).toList.Perm (xs.toArray.extract 0 xs.toArray.size).toList at h2;rw[e1,e2] at h2;exact h2
theorem Iu (xs:List aF)(i j:Nat)(AR:i<j)(hj:j<(mh xs.toArray).toList.length):before (mh xs.toArray).toList[j] ((mh xs.toArray).toList[i]'(by omega))=false:=by
 have h:=(pdq_sorts (ltOf Cf) Gd xs.toArray 0 xs.toArray.size (Lib.bitLen xs.toArray.size) true true (B0e _) (A0m _) (Or.inl rfl)).2;have hs:(mh xs.toArray).size=xs.toArray.size:=yI _;have EE:j<(mh xs.toArray).size:=by simpa using hj
 have qn:i<(mh xs.toArray).size:=by omega
 have h1:=h i j (B0e _) AR (by rw[←hs];exact EE);change ltOf Cf (mh xs.toArray)[j]! (mh xs.toArray)[i]! = false at h1;rw[On,C0I (mh xs.toArray) j EE,C0I (mh xs.toArray) i qn] at h1;simpa using h1
theorem Sy {xs:List aF}(oJ:xs.Pairwise fun a b=>key a≠key b):Ord (mh xs.toArray).toList:=by
 have ahM:(mh xs.toArray).toList.Pairwise fun a b=>key a≠key b:=(yJ xs).symm.pairwise oJ fun h=>B0O h;unfold Ord;rw[C0k] at ahM ⊢;intro i j hi hj AR;have h1:=Iu xs i j AR hj;cases h:before (mh xs.toArray).toList[i] (mh xs.toArray).toList[j] with
 | true=>rfl
 | false=>exact absurd (GO (xs:=key (mh xs.toArray).toList[i]) (ys:=key (mh xs.toArray).toList[j]) rfl h h1) (ahM i j hi hj AR)
theorem MF {a b:aF}(ha:dW a=a)(hb:dW b=b)(hk:key a=key b):a=b:=by obtain⟨a1,a2,a3,a4,a5,a6,a7⟩:=a;obtain⟨b1,b2,b3,b4,b5,b6,b7⟩:=b;simp only[dW,aF.mk.injEq,E0m] at ha hb;simp only[key,C0a,E0a] at hk;obtain⟨h1,h2,h3,h4,h5,h6⟩:=hk;simp only[aF.mk.injEq];exact⟨h1,h2,h3,h4,h5,h6,ha.symm.trans hb⟩
theorem XQ {kv:List (aF×Int)}(h:mV kv):(kv.map gx).Pairwise fun a b=>key a≠key b:=by rw[List.pairwise_map];refine h.nd.imp_of_mem fun {a b} ha hb bQ hk=>bQ ?_;exact MF (h.pl a ha) (h.pl b hb) hk
theorem Md:∀(l:List aF) {kv:List (aF×Int)},mV kv→mV (l.foldl put kv)
 | [],_,h=>h
 | r :: l,_,h=>Md l (LX h r)
theorem NS {rs xs:List aF}(hp:xs.Perm ((rs.foldl put []).map gx)):(mh xs.toArray).toList=ef rs:=by have oJ:xs.Pairwise fun a b=>key a≠key b:=hp.symm.pairwise (XQ (Md rs map_nil)) fun h=>B0O h;exact LN (fun x=>((yJ xs).mem_iff).trans hp.mem_iff) (Sy oJ)
end
section
set_option maxRecDepth 100000
theorem SJ {bs:List D}{m:Nat}{kv:List (aF×Int)}(hm:bs[m]? = some (.cg (kv.map vv)))(c d:D):D.m4 .rng (.st bs) (.mp m) c d=some (.st (bs++[.itb m kv.length []])):=by simp[D.m4,D.XA,hm,Ot]
theorem IS {st:List D}{m p:Nat}{sn:List Nat}{kv:List (aF×Int)}(hm:st[m]? = some (.cg (kv.map vv)))(hp:st[p]? = some (.itb m kv.length sn)):D.place (.st st) (.loc p 0)=some (st,p,m,kv.length,sn,kv.map vv):=by simp[D.place,hm,hp,Ot]
theorem N6 {kv:List (aF×Int)}(j:Nat):pQ (kv.map vv) j=(kv[j]?).map fun e=>(e.1.d,I e.2):=by simp only[pQ,A0w];cases kv[j]? <;> rfl
theorem Og {st:List D}{m p:Nat}{sn:List Nat}{kv:List (aF×Int)}(hm:st[m]? = some (.cg (kv.map vv)))(hp:st[p]? = some (.itb m kv.length sn))(c d:D) :
  ∃ys,D.m4 .next (.st st) (.loc p 0) c d=some (.bk ys)∧∀x h,.a_ [x,h]∈ys →
   (mQ kv.length sn=[]∧x=.a_ [B false]∧h=.st st)∨∃j e,j∈mQ kv.length sn∧kv[j]? = some e∧x=.a_ [B true,e.1.d,I e.2]∧h=.st (st.set p (.itb m kv.length (sn++[j]))):=by
 refine⟨_,by simp only[D.m4,D.Oh,IS hm hp,A0y];rfl,fun x h hx=>?_⟩;split at hx
 ·rename_i h1;left;simp only[A0Y,D.a_.injEq,C0a,E0a] at hx;exact⟨E0r.1 h1,hx.1,hx.2⟩
 ·right;obtain⟨j,hj,hx⟩:=D0W.1 hx;rw[N6] at hx;cases he:kv[j]? with
  | none=>rw[he] at hx;cases hx
  | some e=>
   rw[he] at hx;simp only[A0y,A0x,D.a_.injEq,C0a,E0a] at hx;exact⟨j,e,hj,he,hx.1.symm,hx.2.symm⟩
theorem Vt {st:List D}{m p j:Nat}{sn:List Nat}{kv:List (aF×Int)}{e:aF×Int}(hm:st[m]? = some (.cg (kv.map vv)))(hp:st[p]? = some (.itb m kv.length (sn++[j])))(he:kv[j]? = some e)(c d:D):D.m4 .entry (.st st) (.loc p 0) c d=some (.a_ [e.1.d,I e.2]):=by simp[D.m4,D.GL,IS hm hp,N6,he]
end
section
set_option maxRecDepth 100000
def AP (kv:List (aF×Int))(sn:List Nat):List aF:=sn.map fun j=>gx (kv.getD j (⟨0,0,0,0,0,0,0⟩,0))
structure LI (bs:List D)(m:Nat)(kv:List (aF×Int))(out:D)(st:List D)(sn:List Nat):Prop where
 sl:jI st 224 7 aF.cs out (AP kv sn)
 pl:st[bs.length]? = some (.itb m kv.length sn)
 old:∀i,i<bs.length→st[i]? = bs[i]?
 len:st.length=bs.length+1+sn.length
 nd:sn.Nodup
 lt:∀j,j∈sn→j<kv.length
 Em:∀b,out.Em=some b→bs.length<b
 out:out=if sn=[] then .bS else .sl (bs.length+sn.length) 0 sn.length
theorem LI.start (bs:List D)(m:Nat)(kv:List (aF×Int)):LI bs m kv .bS (bs++[.itb m kv.length []]) [] where
 sl:=jI.nil
 pl:=by simp
 old i hi:=A0g hi
 len:=by simp
 nd:=List.nodup_nil
 lt:=by simp
 Em b hb:=by cases hb
 out:=rfl
theorem mem_left {n j:Nat}{sn:List Nat}(h:j∈mQ n sn):j<n∧j∉sn:=by simp only[mQ,B0T,A0X,B0j,List.contains_eq_mem,B0A] at h;exact h
theorem LI.step {bs:List D}{m:Nat}{kv:List (aF×Int)}{out:D}{st:List D}{sn:List Nat}(h:LI bs m kv out st sn)(hn:kv.length≤1000000){j:Nat}{e:aF×Int}(hj:j∈mQ kv.length sn)(he:kv[j]? = some e) :
  ∃st2,D.gM 224 7 56 (.st (st.set bs.length (.itb m kv.length (sn++[j])))) out (.bk [(gx e).d])=some (.st st2) ∧
   D.apps (.st (st.set bs.length (.itb m kv.length (sn++[j])))) out (.bk [(gx e).d])=some (.sl st.length 0 (sn.length+1))∧LI bs m kv (.sl st.length 0 (sn.length+1)) st2 (sn++[j]):=by
 obtain⟨pT,hjn⟩:=mem_left hj;have mR:bs.length<st.length:=by have:=h.len;omega
 have awy:sn.length≤kv.length:=by have hs:sn ⊆ List.range kv.length:=fun x hx=>A0X.2 (h.lt x hx);have:=h.nd.length_le_of_subset hs;simpa using this
 have ZZ:jI (st.set bs.length (.itb m kv.length (sn++[j]))) 224 7 aF.cs out (AP kv sn):=h.sl.keep fun i hi=>by rw[A0q];have:=h.Em i hi;omega
 have qD:(AP kv sn).length=sn.length:=by simp[AP]
 obtain⟨st2,a1,a2,a3,a4,a5⟩:=ZZ.append (bytes:=56) (x:=gx e) (y:=(gx e).d) (fun _=>rfl) rfl rfl (by rw[qD];omega) (by rw[qD];simp[maxLen];omega);rw[B0L] at a2 a3 a4 a5;rw[qD] at a2;have ahN:AP kv sn++[gx e]=AP kv (sn++[j]):=by simp[AP,A0k,he]
 refine⟨st2,a1,a2,.inr ⟨st.length,?_,?_⟩,?_,fun i hi=>?_,?_,?_,?_,?_,?_⟩
 ·rw[←ahN];simp[qD]
 ·rw[←ahN];exact a3
 ·rw[a5 _ mR (fun hs=>by have:=h.Em _ hs;omega)];simp[mR]
 ·rw[a5 i (by omega) (fun hs=>by have:=h.Em _ hs;omega),A0q (by omega)];exact h.old i hi
 ·rw[a4,h.len];simp;omega
 ·rw[List.nodup_append];refine⟨h.nd,by simp,fun a ha b hb=>?_⟩;simp at hb;subst hb;exact fun e=>hjn (e ▸ ha)
 ·intro x hx;rcases A0K.1 hx with hx | hx
  ·exact h.lt x hx
  ·simp at hx;omega
 ·intro b hb;cases hb;omega
 ·rw[A0B (by simp)];rw[h.len];simp;omega
theorem LI.done {bs:List D}{m:Nat}{kv:List (aF×Int)}{out:D}{st:List D}{sn:List Nat}(h:LI bs m kv out st sn)(hl:mQ kv.length sn=[]):(AP kv sn).Perm (kv.map gx)∧sn.length=kv.length:=by
 have ji:∀j,j<kv.length→j∈sn:=by
  intro j hj;apply Decidable.byContradiction;intro hn;have:j∈mQ kv.length sn:=by simp only[mQ,B0T,A0X,B0j,List.contains_eq_mem,B0A];exact⟨hj,hn⟩
  rw[hl] at this;cases this
 have hp:sn.Perm (List.range kv.length):=(List.perm_ext_iff_of_nodup h.nd List.nodup_range).2 fun j=>by rw[A0X];exact⟨h.lt j,ji j⟩
 refine⟨?_,by simpa using hp.length_eq⟩;have e:(List.range kv.length).map (fun j=>gx (kv.getD j (⟨0,0,0,0,0,0,0⟩,0)))=kv.map gx:=by
  apply E0t
  ·simp
  ·intro i h1 h2;simp at h1;simp[h1]
 rw[←e];exact hp.map _
end
section
open Go.Proofs
set_option maxRecDepth 100000
set_option maxHeartbeats 4000000
variable {bs:List D} {j m:Nat} {f:wk} {ss:List Src} {kv:List (aF×Int)}
attribute [local irreducible] fK
theorem O_ {env:List D}{x y z:E}{dx dy dz d:D}(hx:x.eval env=some dx)(hy:y.eval env=some dy)(hz:z.eval env=some dz)(h:D.apps dx dy dz=some d):(E.apps x y z).eval env=some d:=by simp[E.eval,hx,hy,hz,h]
theorem YI {env:List D}{x:E}{r:List E}{d:D}{ds:List D}(hx:x.eval env=some d)(hr:aA env r=some ds):aA env (x :: r)=some (d :: ds):=by simp[aA,hx,hr]
def wK (bs:List D)(n:Nat)(l:List aF):List D:=bs++List.replicate n (.a_ [])++[.blk 224 7 (l.flatMap aF.cs)]
theorem Y1 (h:mD bs j m f ss kv)(hn:kv.length≤1000000)(bQ:kv≠[]){rs:List aF}(iM:kv=rs.foldl put []) :
  aZ Tryz.prog 121 (.st bs) [.loc j 0] (.sl (bs.length+kv.length) 0 kv.length) (.st (wK bs kv.length (ef rs))):=by
 refine TH.Wk rfl ?_;unfold WU;simp only[aB,aI,A0i,A0j]
 repeat' (first|(apply bf;rfl;exact rfl)|(apply bG;rfl)|(apply dS;rfl;rfl;exact aW h.blk rfl;simp only[au];rfl)|(apply kT;rfl;rfl;rfl;rfl;exact SJ h.map _ _;simp only[au];rfl)|(apply aU;rfl;simp only[au];rfl)|(apply bC;rfl;rfl;exact VZ h;rfl;simp only[au];rfl)|refine aO ?_)
 refine vf (fun k ds=>∃out st sn,ds=[out,.st st]∧k=kv.length-sn.length∧LI bs m kv out st sn) rfl kv.length ⟨_,_,[],rfl,by simp,LI.start bs m kv⟩ ?_
 rintro k ds ⟨out,st,sn,rfl,rfl,hI⟩
 refine⟨rfl,fun R hR=>?_⟩;have JQ:st[m]? = some (.cg (kv.map vv)):=by rw[hI.old m (A0c.1 h.map).1];exact h.map
 obtain⟨ys,hy,rW⟩:=Og JQ hI.pl (.agg []) (.agg []);refine dX (by simp only[au];rfl) ?_;refine Sa (ys:=ys) (by simp[E.eval,D.aJ,hy]) fun d st1 hd=>?_;rcases rW d st1 hd with⟨hl,rfl,rfl⟩ | ⟨i,e,hi,he,rfl,rfl⟩
 ·obtain⟨ahH,hlen⟩:=hI.done hl
  repeat' (first|(apply dX;simp only[au];rfl)|(apply bf;rfl;exact rfl)|(apply bG;rfl)|(apply aL;rfl;rfl)|refine aC ?_|(refine aT (by decide) ?_)|refine kj rfl ?_)
  have HW:sn≠[]:=by
   rintro rfl
   simp at hlen;exact bQ (A0D hlen.symm)
  have ho:=hI.out;rw[A0B HW] at ho;subst ho;have qD:(AP kv sn).length=sn.length:=by simp[AP]
  have hblk:st[bs.length+sn.length]? = some (.blk 224 7 ((AP kv sn).flatMap aF.cs)):=hI.sl.blk rfl;have Ug:=aqs hblk (by rw[qD];omega);rw[qD] at Ug;have Qz:(mh (AP kv sn).toArray).toList=ef rs:=NS (by rw[←iM];exact ahH);rw[Qz] at Ug;refine dZ rfl rfl Ug rfl (by simp only[au];rfl) ?_;refine aH rfl ⟨_,by rw[hlen],?_,fun i x hx p4=>?_⟩
  ·simp[wK,hI.len,hlen];omega
  ·have aww:=hI.len
   by_cases h1:i<bs.length
   ·rw[A0q (by omega),hI.old i h1];simp only[wK] at hx;rw[A0A,A0g h1] at hx;exact hx
   ·by_cases h2:i<bs.length+kv.length
    ·simp only[wK] at hx;rw[A0g (by simp;omega),A0o (by omega),B0o,A0z (by omega)] at hx;cases hx;cases p4
    ·simp only[wK] at hx;rw[A0o (by simp;omega)] at hx;have h3:i=bs.length+kv.length:=by obtain⟨h4,_⟩:=A0c.1 hx;simp at h4;omega
     subst h3;simp at hx;rw[←hx,A0M (by omega)]
 ·obtain⟨st2,a1,a2,hI2⟩:=hI.step hn hi he;have awP:=mem_left hi;have anY:(st.set bs.length (.itb m kv.length (sn++[i])))[bs.length]? = some (.itb m kv.length (sn++[i])):=by have:=hI.len;rw[A0M (by omega)]
  have an8:(st.set bs.length (.itb m kv.length (sn++[i])))[m]? = some (.cg (kv.map vv)):=by have:=(A0c.1 h.map).1;rw[A0q (by omega)];exact JQ
  have UU:=Vt an8 anY he (.agg []) (.agg [])
  repeat' (first|(apply dX;simp only[au];rfl)|(apply bF;rfl;exact rfl)|(apply bG;rfl)|(apply yC;rfl;rfl;rfl;exact a1;simp only[au];rfl)|(apply kT;rfl;rfl;rfl;rfl;exact UU;simp only[au];rfl)|(apply aU;rfl;simp only[au];rfl)|refine aO ?_)
  (with_reducible apply aL)
  ·exact YI rfl (YI rfl (YI rfl (YI rfl (YI rfl (YI rfl (YI (O_ rfl rfl rfl a2) rfl))))))
  ·exact ao6 (O_ rfl rfl rfl a2) rfl
  repeat' (first|(apply dX;simp only[au];rfl)|(apply aL;rfl;rfl)|refine aC ?_|refine kj rfl ?_)
  refine hR _ _ ?_ ⟨_,_,sn++[i],rfl,rfl,hI2⟩;have:sn.length<kv.length:=by have oJ:=hI2.nd.length_le_of_subset (l₂:=List.range kv.length) fun x hx=>A0X.2 (hI2.lt x hx);simp at oJ;omega
  simp;omega
theorem Bi {rs:List aF}{kv:List (aF×Int)}(iM:kv=rs.foldl put []):(ef rs).length=kv.length:=by have h:=NS (rs:=rs) (xs:=(rs.foldl put []).map gx) (List.Perm.refl _);rw[←h,(yJ _).length_eq,B0u,iM]
theorem aqM (h:mD bs j m f ss kv)(hn:kv.length≤1000000)(bQ:kv≠[]){rs:List aF}(iM:kv=rs.foldl put []) :
  aZ Tryz.prog 121 (.st bs) [.loc j 0] (.bk ((ef rs).map aF.d)) (.st ((wK bs kv.length (ef rs)).set (bs.length+kv.length) (.a_ []))):=by
 have hl:=Bi iM;refine aZ.O6 (sz:=7) (Y1 h hn bQ iM) (e:=224) (cs:=(ef rs).flatMap aF.cs) ?_ ?_ (by simp[hl]) fun i x hx=>?_
 ·simp[wK]
 ·rw[iO (enc:=aF.cs) (sz:=7) (fun _=>rfl),hl]
 ·rw[A0w] at hx;obtain⟨r,hr,rfl⟩:=A0a.1 hx;refine⟨rfl,fun k d hd=>?_⟩;obtain⟨t,ht⟩:=nM (enc:=aF.cs) (sz:=7) (fun _=>rfl) hr;have hk:k<r.cs.length:=(A0c.1 hd).1;have h1:((ef rs).flatMap aF.cs)[i*7+k]? = (r.cs++t)[k]?:=by rw[←ht,A0Z]
  rw[h1,A0g hk];exact hd
end
section
open Go.Proofs
set_option maxRecDepth 100000
set_option maxHeartbeats 4000000
variable {bs:List D} {j m:Nat} {f:wk} {ss:List Src} {kv:List (aF×Int)}
attribute [local irreducible] fK
theorem Y0:aZ Tryz.prog 175 (.st bs) [.bS,.fn 176 [] []] (.a_ []) (.st bs):=by
 intro w S az oD vs heq hst dN fG hS iL bO;cases heq;obtain⟨v,u,rfl⟩:∃v u,vs=#[v,u]:=by
  match vs,iL with
  | ⟨[v,u]⟩,_=>exact⟨v,u,rfl⟩
 have hv:=bO 0 v .bS rfl rfl;cases hv with
 | bS=>
 refine(AnyF.slices_SortFunc_none Tryz.TE none 0 u w).mono ?_
 rintro _ w' ⟨rfl,rfl⟩
 exact⟨.tuple #[],S,az,_,⟨rfl,.a_ rfl fun i v d hv=>by simp at hv⟩,rfl,hst,fun _ _ _=>rfl,Sets.le_refl _,rfl,.refl _,rfl,A0m _,fun _ _ _=>rfl,fun k' hk=>⟨.inl hk,fG k' hk⟩,fun k' o hk=>.inl hk,fun k' o hk=>hS k' o hk⟩
theorem ajB (h:mD bs j m f ss []):aZ Tryz.prog 121 (.st bs) [.loc j 0] (.bk []) (.st (bs++[.a_ []])):=by
 refine aZ.ac1 (TH.Wk rfl ?_);unfold WU;simp only[aB,aI,A0i,A0j]
 repeat' (first|(apply bf;rfl;exact rfl)|(apply bG;rfl)|(apply dS;rfl;rfl;exact aW h.blk rfl;simp only[au];rfl)|(apply kT;rfl;rfl;rfl;rfl;exact SJ h.map _ _;simp only[au];rfl)|(apply aU;rfl;simp only[au];rfl)|(apply bC;rfl;rfl;exact VZ h;rfl;simp only[au];rfl)|refine aO ?_)
 refine vf (fun k ds=>ds=[.bS,.st (bs++[.itb m 0 []])]) rfl 0 rfl ?_
 rintro k ds rfl
 refine⟨rfl,fun R hR=>?_⟩;have JQ:(bs++[D.itb m 0 []])[m]? = some (.cg (([]:List (aF×Int)).map vv)):=by rw[A0g (A0c.1 h.map).1];exact h.map
 obtain⟨ys,hy,rW⟩:=Og (p:=bs.length) (sn:=[]) JQ (by simp) (.agg []) (.agg []);refine dX (by simp only[au];rfl) ?_;refine Sa (ys:=ys) (by simp[E.eval,D.aJ,hy]) fun d st1 hd=>?_;rcases rW d st1 hd with⟨_,rfl,rfl⟩ | ⟨i,e,hi,_,_,_⟩
 ·repeat' (first|(apply dX;simp only[au];rfl)|(apply bf;rfl;exact rfl)|(apply bG;rfl)|(apply dZ;rfl;rfl;exact Y0;rfl;simp only[au];rfl)|(apply aL;rfl;rfl)|refine aC ?_|(refine aT (by decide) ?_)|refine kj rfl ?_)
  refine aH rfl ⟨_,rfl,?_,fun i x hx p4=>?_⟩
  ·simp
  ·rw[B0J] at hx ⊢;split at hx
   ·rename_i hi;rw[A0z hi];exact hx
   ·cases hi:i-bs.length with
    | zero=>rw[hi] at hx;simp at hx;subst hx;cases p4
    | succ n=>rw[hi] at hx;simp at hx
 ·simp[mQ] at hi
theorem Xd (h:mD bs j m f ss kv)(hn:kv.length≤1000000){rs:List aF}(iM:kv=rs.foldl put []) :
  aZ Tryz.prog 121 (.st bs) [.loc j 0] (.bk ((ef rs).map aF.d)) (.st (bs++List.replicate (kv.length+1) (.a_ []))):=by
 by_cases bQ:kv=[]
 ·subst bQ;have hl:=Bi iM;have e:ef rs=[]:=A0D hl;rw[e];exact ajB h
 ·have h24:=aqM h hn bQ iM;have e:(wK bs kv.length (ef rs)).set (bs.length+kv.length) (.a_ [])=bs++List.replicate (kv.length+1) (.a_ []):=by unfold wK;rw[A0A,C0q _ _ (by omega),C0q _ _ (by simp)];simp[List.replicate_succ']
  rw[e] at h24;exact h24
end
section
open Go.Proofs
set_option maxRecDepth 100000
set_option maxHeartbeats 4000000
variable {bs:List D} {j m:Nat} {f:wk} {ss:List Src} {kv:List (aF×Int)}
attribute [local irreducible] fK
def vm (W:List aF)(t:Int):List aF→Nm
 | []=>[]
 | r :: l=>if r.kind=4∧uF W t r=true∧(vs W t l).contains (r.source,r.number)=false then i_ (r.source,r.dV) (B true) (vm W t l) else vm W t l
theorem Of (W:List aF)(t:Int)(k:Int×Int):∀l,kY k (vm W t l)=if(vs W t l).contains k=true then some (B true) else none
 | []=>rfl
 | r :: l=>by
  have ih:=Of W t k l;simp only[vm,vs];split
  ·rw[wU,ih,List.contains_cons]
   by_cases h:k=(r.source,r.dV)
   ·simp[h]
   ·rw[A0B h];have:(k==(r.source,r.dV))=false:=by simpa using h
    rw[this,D0r]
  ·exact ih
theorem Vb (W:List aF)(t:Int)(k:Int×Int)(l:List aF):(kY k (vm W t l)).getD (B false)=B ((vs W t l).contains k):=by rw[Of];cases(vs W t l).contains k <;> rfl
def AY (t:Int)(l:List aF)(nm:Nm):Prop:=∀k:Int×Int,kY k nm=if named l t k.1 k.2=0 then none else some (I (named l t k.1 k.2:Nat))
theorem AY.nil (t:Int):AY t [] []:=fun k=>by simp[kY,named]
theorem AY.get {t:Int}{l:List aF}{nm:Nm}(h:AY t l nm)(k:Int×Int):(kY k nm).getD (I 0)=I (named l t k.1 k.2:Nat):=by
 rw[h k];split
 ·rename_i e;simp[e]
 ·rfl
theorem Cq (l:List aF)(r:aF)(t s n:Int):named (l++[r]) t s n=named l t s n+(if(there t r&&(r.source==s&&r.number==n))=true then 1 else 0):=by simp only[named,B0Z,A0u,C0e,E0C];split <;> rfl
theorem AY.step {t:Int}{l:List aF}{nm:Nm}(h:AY t l nm){r:aF}(hr:there t r=true):AY t (l++[r]) (i_ (r.source,r.number) (I ((named l t r.source r.number:Nat)+1)) nm):=fun k=>by
 rw[wU,Cq,hr,D0M]
 by_cases hk:k=(r.source,r.number)
 ·subst hk;simp
 ·rw[A0B hk,h k];have:(r.source==k.1&&r.number==k.2)=false:=by
   cases e:(r.source==k.1&&r.number==k.2) with
   | false=>rfl
   | true=>simp at e;exact absurd (Prod.ext e.1.symm e.2.symm) hk
  rw[this];simp
theorem AY.skip {t:Int}{l:List aF}{nm:Nm}(h:AY t l nm){r:aF}(hr:there t r=false):AY t (l++[r]) nm:=fun k=>by rw[h k,Cq,hr];simp
theorem IX {k:Int×Int}{u:D}(hu:u.bZ=true):∀{m:Nm},aN (m.map tW)=true→aN ((i_ k u m).map tW)=true
 | [],_=>by simp[i_,tW,qi,aN,D.bZ,hu]
 | e :: r,h=>by
  simp only[B0p,aN,A0f] at h;simp only[i_];split
  ·simp only[B0p,aN,h.2,E0L];simp[tW,qi,aN,D.bZ,hu]
  ·simp only[B0p,aN,h.1,D0M];exact IX hu h.2
def ux (b1:List D)(j:Nat)(W:List aF)(nm:Nm):List D:=b1++[.blk 220 3 [.loc j 0,.bk (W.map aF.d),.bS],.cg (nm.map tW),.blk 221 1 [.mp (b1.length+1)]]
theorem K2 {b1:List D}{W:List aF}{nm:Nm}:(ux b1 j W nm)[b1.length]? = some (.blk 220 3 [.loc j 0,.bk (W.map aF.d),.bS]):=by simp[ux]
theorem uw {b1:List D}{W:List aF}{nm:Nm}:(ux b1 j W nm)[b1.length+1]? = some (.cg (nm.map tW)):=by simp[ux]
theorem Pq {b1:List D}{W:List aF}{nm:Nm}:(ux b1 j W nm)[b1.length+2]? = some (.blk 221 1 [.mp (b1.length+1)]):=by simp[ux]
theorem Pr {b1:List D}{W:List aF}{nm nm':Nm}:(ux b1 j W nm).set (b1.length+1) (.cg (nm'.map tW))=ux b1 j W nm':=by simp[ux]
theorem Y7 {b1:List D}{W:List aF}{nm:Nm}{i:Nat}(h:i<b1.length):(ux b1 j W nm)[i]? = b1[i]?:=by simp[ux,A0g h]
theorem jG {b1:List D}{W:List aF}{nm:Nm}:(ux b1 j W nm).length=b1.length+3:=by simp[ux]
def jk (W:List aF)(k:Nat):List D:=(W.drop (W.length-k)).reverse.flatMap fun r=>[.blk 224 7 r.cs,.blk 226 2 [I r.source,I r.number]]
def x_ (b1:List D)(j:Nat)(W:List aF)(nm:Nm)(t:Int)(k:Nat):List D:=ux b1 j W nm++.cg ((vm W t (W.drop (W.length-k))).map tW) :: .blk 227 1 [.mp (b1.length+3)] :: jk W k
theorem Pc {W:List aF}{k:Nat}(h:k<W.length):W.drop (W.length-(k+1))=W[W.length-1-k] :: W.drop (W.length-k):=by
 rw[B0S (by omega)];congr 1
 ·congr 1;omega
 ·congr 1;omega
theorem OH {W:List aF}{k:Nat}(h:k<W.length):jk W (k+1)=jk W k++[.blk 224 7 (W[W.length-1-k]).cs,.blk 226 2 [I (W[W.length-1-k]).source,I (W[W.length-1-k]).number]]:=by simp only[jk,Pc h,List.reverse_cons,List.flatMap_append,B0r,List.flatMap_nil,B0F]
theorem abC {W:List aF}{k:Nat}(h:k≤W.length):(jk W k).length=2*k:=by
 induction k with
 | zero=>simp[jk]
 | succ k ih=>rw[OH h,A0u,ih (by omega)];simp;omega
section
variable {b1:List D} {W:List aF} {nm:Nm} {t:Int} {k:Nat}
theorem Pp (h:k≤W.length):(x_ b1 j W nm t k).length=b1.length+5+2*k:=by simp[x_,jG,abC h];omega
theorem Bx {i:Nat}(h:i<b1.length+3):(x_ b1 j W nm t k)[i]? = (ux b1 j W nm)[i]?:=by rw[x_,A0g (by rw[jG];exact h)]
theorem KY:(x_ b1 j W nm t k)[b1.length]? = some (.blk 220 3 [.loc j 0,.bk (W.map aF.d),.bS]):=by rw[Bx (by omega),K2]
theorem Po:(x_ b1 j W nm t k)[b1.length+1]? = some (.cg (nm.map tW)):=by rw[Bx (by omega),uw]
theorem Pn:(x_ b1 j W nm t k)[b1.length+2]? = some (.blk 221 1 [.mp (b1.length+1)]):=by rw[Bx (by omega),Pq]
theorem KX:(x_ b1 j W nm t k)[b1.length+3]? = some (.cg ((vm W t (W.drop (W.length-k))).map tW)):=by rw[x_,A0o (by rw[jG];omega),jG];simp
theorem KW:(x_ b1 j W nm t k)[b1.length+4]? = some (.blk 227 1 [.mp (b1.length+3)]):=by rw[x_,A0o (by rw[jG];omega),jG];simp
theorem Y6 {i:Nat}(h:i<b1.length):(x_ b1 j W nm t k)[i]? = b1[i]?:=by rw[Bx (by omega),Y7 h]
theorem KZ (hb:aN b1=true)(hm:aN (nm.map tW)=true):aN (x_ b1 j W nm t k)=true:=by
 have hr:∀r:aF,r.d.bZ=true:=fun r=>by simp[aF.d,aF.cs,D.bZ,aN]
 have hv:∀l,aN ((vm W t l).map tW)=true:=fun l=>yV fun e he=>by
  have:e.2=B true:=by
   induction l with
   | nil=>simp[vm] at he
   | cons r l ih=>
    simp only[vm] at he;split at he
    ·rename_i h0;clear h0;generalize vm W t l=m at he ih
     induction m with
     | nil=>simp[i_] at he;rw[he]
     | cons x m EA=>
      simp only[i_] at he;split at he
      ·rcases A0E.1 he with rfl | he
       ·rfl
       ·exact ih (by simp[he])
      ·rcases A0E.1 he with rfl | he
       ·exact ih (by simp)
       ·exact EA he (fun hh=>ih (by simp[hh]))
    ·exact ih he
  simp[tW,qi,D.bZ,aN,this]
 have hj:aN (jk W k)=true:=lQ fun r _=>by simp[aN,D.bZ,aF.cs]
 simp only[x_,ux,bT,hb,aN,hj,D.bZ,hv,hm,yV (f:=aF.d) fun r _=>hr r,E0M]
end
theorem adn {env:List D}{o:MOp}{x y z w:E}{dx dy dz dw d:D}(hx:x.eval env=some dx)(hy:y.eval env=some dy)(hz:z.eval env=some dz)(hw:w.eval env=some dw)(h:D.m4 o dx dy dz dw=some d):(E.m4 o x y z w).eval env=some d:=by simp only[E.eval,hx,hy,hz,hw,A0d,h]
theorem adl {env:List D}{i:Nat}{x:E}{dx d:D}(hx:x.eval env=some dx)(h:D.av i dx=some d):(E.av i x).eval env=some d:=by simp only[E.eval,hx,A0d,h]
theorem I1 (l:List aF)(t s n:Int):named l t s n≤l.length:=C0G _ _
theorem B7 (r:aF):r.d.bZ=true:=by simp[aF.d,aF.cs,D.bZ,aN]
theorem E9 (W:List aF):aN (W.map aF.d)=true:=yV fun r _=>B7 r
theorem Hg (c:Nat):((c:Int)==1)=(c==1):=by
 cases h:c==1 with
 | true=>simp at h;subst h;rfl
 | false=>simp at h ⊢;omega
structure L3 (F:List D)(v j:Nat)(W:List aF)(st:List D)(out:D)(idx:List Nat):Prop where
 view:st[v]? = some (.blk 220 3 [.loc j 0,.bk (W.map aF.d),out])
 sl:jI st 3 1 ncs out idx
 old:∀i,i<F.length→i≠v→st[i]? = F[i]?
 len:st.length=F.length+idx.length
 out:out=if idx=[] then .bS else .sl (F.length+idx.length-1) 0 idx.length
theorem L3.Em {F:List D}{v j:Nat}{W:List aF}{st:List D}{out:D}{idx:List Nat}(h:L3 F v j W st out idx):∀b,out.Em=some b→F.length≤b:=fun b hb=>by
 rw[h.out] at hb;split at hb
 ·cases hb
 ·rename_i bQ;cases hb;have:=B0x.2 bQ;omega
theorem L3.step {F:List D}{v j:Nat}{W:List aF}{st:List D}{out:D}{idx:List Nat}(h:L3 F v j W st out idx)(hv:v<F.length)(hl:idx.length≤1000000)(i:Nat) :
  ∃st1 st2,D.gM 3 1 8 (.st st) out (.bk [In i])=some (.st st1)∧D.apps (.st st) out (.bk [In i])=some (.sl st.length 0 (idx.length+1))∧D.eL 1 (.st st1) (.loc v 2) (.sl st.length 0 (idx.length+1))=some (.st st2)∧L3 F v j W st2 (.sl st.length 0 (idx.length+1)) (idx++[i]):=by
 have hlen:=h.len;obtain⟨st1,a1,a2,a3,a4,a5⟩:=h.sl.append (bytes:=8) (x:=i) (y:=In i) (fun _=>rfl) rfl rfl (by omega) (by simp[maxLen];omega);have hk:∀k,k<F.length→st1[k]? = st[k]?:=fun k hk=>a5 k (by omega) fun e=>by have:=h.Em _ e;omega
 have JI:st1[v]? = some (.blk 220 3 [.loc j 0,.bk (W.map aF.d),out]):=by rw[hk v hv,h.view]
 refine⟨st1,_,a1,a2,gW JI (by simp) rfl,?_,?_,fun k Ln Ef=>?_,?_,?_⟩
 ·rw[A0M (by omega)];rfl
 ·refine .inr ⟨st.length,by simp,?_⟩;rw[A0q (by omega)];exact a3
 ·rw[A0q (B0O Ef),hk k Ln,h.old k Ln Ef]
 ·simp;omega
 ·rw[A0B (by simp)];simp[hlen]
def kB (W:List aF)(t:Int):List Nat:=(List.range W.length).filter fun i=>pB W t (qB W i)
theorem T4 (W:List aF)(t:Int):(kB W t).length≤W.length:=by have:=C0G (fun i=>pB W t (qB W i)) (List.range W.length);simpa[kB] using this
def atK (F:Nat)(v j:Nat)(W:List aF)(idx:List Nat):List (Nat×D):=
 (v,.blk 220 3 [.loc j 0,.bk (W.map aF.d),if idx=[] then .bS else .sl (F+idx.length-1) 0 idx.length]) :: (if idx=[] then[] else[(F+idx.length-1,.blk 3 1 (idx.flatMap ncs))])
theorem c62 (h:mD bs j m f ss kv)(hn:kv.length≤1000000){rs:List aF}(iM:kv=rs.foldl put [])(Ag:aN bs=true)(t:Int) :
  aZ Tryz.prog 62 (.st bs) [.loc j 0,I t] (.loc (bs.length+kv.length+1) 0) (.st (lW bs (bs.length+3*kv.length+6+(kB (ef rs) t).length) (atK (bs.length+3*kv.length+6) (bs.length+kv.length+1) j (ef rs) (kB (ef rs) t)))):=by
 have bg:=Xd h hn iM;have hlen:=Bi iM;obtain⟨W,hW⟩:∃W,W=ef rs:=⟨_,rfl⟩;obtain⟨b1,sk⟩:∃b1,b1=bs++List.replicate (kv.length+1) (D.a_ []):=⟨_,rfl⟩;rw[←hW,←sk] at bg;rw[←hW] at hlen;have sr:D.eL 1 (.st (((b1++[.blk 220 3 [.loc j 0,.bk (W.map aF.d),.bS]])++[.cg []])++[.blk 221 1 [.v (.map none)]])) (.loc ((b1++[D.blk 220 3 [.loc j 0,.bk (W.map aF.d),.bS]])++[D.cg []]).length 0) (.mp (b1++[D.blk 220 3 [.loc j 0,.bk (W.map aF.d),.bS]]).length)=some (.st (ux b1 j W [])):=by rw[gW (e:=221) (sz:=1) (cs:=[.v (.map none)]) (by simp) (by simp) rfl];simp[ux]
 have aik:b1.length=bs.length+kv.length+1:=by rw[sk];simp;omega
 rw[←hW];refine am2.keep rfl _ _ ?_;unfold u62;simp only[aB,aI,A0i,A0j]
 repeat' (first|(apply bG;rfl)|(apply dS;rfl;rfl;exact aW K2 rfl;simp only[au];rfl)|(apply je;rfl;rfl;rfl;exact sr;simp only[au];rfl)|(apply cM;rfl;exact bR;simp only[au];rfl)|(apply aU;rfl;simp only[au];rfl)|(apply dZ;rfl;rfl;exact bg;rfl;simp only[au];rfl)|refine aO ?_)
 have abN:∀nm:Nm,D.ld false 1 (.st (ux b1 j W nm)) (.loc ((b1++[D.blk 220 3 [.loc j 0,.bk (W.map aF.d),.bS]])++[D.cg []]).length 0)=some (.mp (b1.length+1)):=fun nm=>by rw[show((b1++[D.blk 220 3 [.loc j 0,.bk (W.map aF.d),.bS]])++[D.cg []]).length=b1.length+2 by simp];exact aW Pq rfl
 refine Sd W (fun nm i=>[In i,.st (ux b1 j W nm)]) (fun rest nm=>∃pre,W=pre++rest∧AY t pre nm∧aN (nm.map tW)=true) [] rfl (fun _ _=>rfl) ⟨[],rfl,AY.nil t,rfl⟩ (fun i x nm hx hlt hG R hR=>?_) (fun nm hG R=>?_)
 ·obtain⟨pre,gm,OR,Uv⟩:=hG;have RC:=I1 pre t x.source x.number;have mR:pre.length≤W.length:=by rw[gm];simp
  have gA:decide ((i:Int)<(W.length:Int))=true:=by simp;omega
  have qE:D.ax 7 (.bk (W.map aF.d)) (In i)=some (.ptr x.cs):=nO hx rfl;cases hth:there t x
  ·have abU:decide (x.aX≤t)=false:=hth
   repeat' (first|(apply dX;simp only[au];rfl)|(apply bF;rfl;exact gA)|(apply bf;rfl;exact abU)|(apply bG;rfl)|(apply bH;rfl;rfl;exact qE;simp only[au];rfl)|(apply eo;rfl;omega;simp only[au];rfl)|(apply aU;rfl;simp only[au];rfl)|refine aO ?_|(apply aL;rfl;rfl)|refine aC ?_|refine kj rfl ?_)
   exact hR nm ⟨pre++[x],by simpa using gm,OR.skip hth,Uv⟩
  ·have abU:decide (x.aX≤t)=true:=hth;obtain⟨c,hc⟩:∃c:Nat,c=named pre t x.source x.number:=⟨_,rfl⟩;have jh:=zm (bs:=ux b1 j W nm) uw (x.source,x.number) (OR.get _) rfl;have UT:=YJ (bs:=ux b1 j W nm) uw (x.source,x.number) (I 0);have OX:=YL (bs:=ux b1 j W nm) uw (x.source,x.number) (I 0);rw[OR.get] at OX UT;rw[Pr] at OX;have ah5:=zm (bs:=ux b1 j W (i_ (x.source,x.number) (I c) nm)) uw (x.source,x.number) (z:=I 0) (x:=I c) (by rw[wU,A0z rfl];rfl) rfl;have aai:=YK (bs:=ux b1 j W (i_ (x.source,x.number) (I c) nm)) uw (I ((c:Int)+1));rw[Pr] at aai;simp only[←hc] at jh UT OX RC
   repeat' (first|(apply dX;simp only[au];rfl)|(apply kT;rfl;rfl;(·exact adl (adn rfl rfl rfl rfl UT) rfl);rfl;exact aai;simp only[au];rfl)|(apply bF;rfl;(·first|exact gA|exact abU))|(apply bG;rfl)|(apply Gb;exact adn rfl rfl rfl rfl jh;exact adn rfl rfl rfl rfl ah5;(·(simp[D.same,Value.same];done));simp only[au];rfl)|(apply dS;rfl;rfl;exact abN _;simp only[au];rfl)|(apply bH;rfl;rfl;exact qE;simp only[au];rfl)|(apply kT;rfl;rfl;rfl;rfl;(·first|exact jh|exact OX);simp only[au];rfl)|(apply eo;rfl;omega;simp only[au];rfl)|(apply aU;rfl;simp only[au];rfl)|refine aO ?_|(apply aL;rfl;rfl)|refine aC ?_|refine kj rfl ?_)
   refine hR _ ⟨pre++[x],by simpa using gm,?_,IX rfl Uv⟩;have:=OR.step hth;rw[←hc] at this;exact this
 ·obtain⟨pre,gm,OR,Uv⟩:=hG;rw[B0F] at gm;subst gm;have gA:decide ((W.length:Int)<(W.length:Int))=false:=by simp
  have oH:D.eL 1 (.st ((ux b1 j W nm++[.cg []])++[.blk 227 1 [.v (.map none)]])) (.loc (ux b1 j W nm++[D.cg []]).length 0) (.mp (ux b1 j W nm).length)=some (.st (x_ b1 j W nm t 0)):=by rw[gW (e:=227) (sz:=1) (cs:=[.v (.map none)]) (by simp) (by simp) rfl];simp[x_,jG,vm,jk]
  repeat' (first|(apply dX;simp only[au];rfl)|(apply bf;rfl;exact gA)|(apply bG;rfl)|(apply dS;rfl;rfl;exact aW KY rfl;simp only[au];rfl)|(apply je;rfl;rfl;rfl;exact oH;simp only[au];rfl)|(apply aU;rfl;simp only[au];rfl)|(apply dZ;rfl;rfl;exact aqL _;rfl;simp only[au];rfl)|refine aO ?_|(apply aL;rfl;rfl)|refine aC ?_|(refine aT (by decide) ?_)|refine kj rfl ?_)
  have aij:aN b1=true:=by rw[sk,bT,Ag,D0M];exact nK fun d hd=>by rw[C0v hd];rfl
  refine R_ (.a_ []) (.st (x_ b1 j W nm t W.length)) rfl (by kernel_rfl) rfl rfl ?_ ?_ (fun m0 rec vB=>?_) (by simp only[au];rfl) ?_
  ·simp[aN,D.bZ,E9,D.cells]
  ·simpa[D.bZ] using KZ aij Uv
  ·refine aqq (fun k=>x_ b1 j W nm t k) (by omega) (fun k hk=>?_);refine vB _ _ _ (by simpa[D.bZ] using KZ aij Uv) (by simp[aN,D.bZ,B7]) rfl ?_;obtain⟨r,hr⟩:∃r,r=W[W.length-1-k]:=⟨_,rfl⟩;rw[←hr];have fG:=Pp (b1:=b1) (j:=j) (W:=W) (nm:=nm) (t:=t) (k:=k) (by omega);obtain⟨X1,Al⟩:∃X1,X1=x_ b1 j W nm t k++[.blk 224 7 r.cs]:=⟨_,rfl⟩;obtain⟨X2,O2⟩:∃X2,X2=X1++[.blk 226 2 [I r.source,I r.number]]:=⟨_,rfl⟩;have JS:∀i,i<b1.length+5→X1[i]? = (x_ b1 j W nm t k)[i]?:=fun i hi=>by rw[Al,A0g (by omega)]
   have Hr:∀i,i<b1.length+5→X2[i]? = (x_ b1 j W nm t k)[i]?:=fun i hi=>by rw[O2,A0g (by rw[Al];simp;omega),JS i hi]
   have ED:X1[(x_ b1 j W nm t k).length]? = some (.blk 224 7 r.cs):=by rw[Al];simp
   have Fz:X2[(x_ b1 j W nm t k).length]? = some (.blk 224 7 r.cs):=by rw[O2,A0g (by rw[Al];simp),ED]
   have hky:X2[X1.length]? = some (.blk 226 2 [I r.source,I r.number]):=by rw[O2];simp
   have ahS:D.ld true 2 (.st X2) (.loc X1.length 0)=some (qi (r.source,r.number)):=Ow hky (by simp);have JX:D.m4 (.get KN false) (.st X2) (.mp (b1.length+1)) (qi (r.source,r.number)) (I 0)=some (I (named W t r.source r.number:Nat)):=zm (by rw[Hr _ (by omega),Po]) _ (OR.get _) rfl;have hmV:X2[b1.length+3]? = some (.cg ((vm W t (W.drop (W.length-k))).map tW)):=by rw[Hr _ (by omega),KX]
   have JW:D.m4 (.get KN false) (.st X2) (.mp (b1.length+3)) (qi (r.source,r.number)) (B false)=some (B ((vs W t (W.drop (W.length-k))).contains (r.source,r.number))):=zm hmV _ (Vb W t _ _) rfl;have gZ:=abb hmV (r.source,r.dV) (B true);have hvN:D.ld false 1 (.st X2) (.loc ((b1++[D.blk 220 3 [.loc j 0,.bk (W.map aF.d),.bS]])++[D.cg []]).length 0)=some (.mp (b1.length+1)):=by rw[show((b1++[D.blk 220 3 [.loc j 0,.bk (W.map aF.d),.bS]])++[D.cg []]).length=b1.length+2 by simp];exact aW (by rw[Hr _ (by omega),Pn]) rfl
   have hvV:D.ld false 1 (.st X2) (.loc (ux b1 j W nm++[D.cg []]).length 0)=some (.mp (b1.length+3)):=by rw[show(ux b1 j W nm++[D.cg []]).length=b1.length+4 by simp[jG]];exact aW (by rw[Hr _ (by omega),KW]) rfl
   have gT:∀x:D,X2.set (b1.length+3) x=ux b1 j W nm++x :: .blk 227 1 [.mp (b1.length+3)] :: (jk W k++[.blk 224 7 r.cs,.blk 226 2 [I r.source,I r.number]]):=fun x=>by rw[O2,Al];simp only[x_];rw[A0A,A0A,C0q _ _ (by rw[jG];omega),jG];simp
   have xC:X2=X2.set (b1.length+3) (.cg ((vm W t (W.drop (W.length-k))).map tW)):=by rw[O2,Al];simp only[x_];rw[A0A,A0A,C0q _ _ (by rw[jG];omega),jG];simp
   rw[gT] at gZ;obtain⟨hi1,hi2⟩:named W t r.source r.number≤W.length∧True:=⟨I1 _ _ _ _,trivial⟩;have C8:x_ b1 j W nm t (k+1)=ux b1 j W nm++.cg ((vm W t (r :: W.drop (W.length-k))).map tW) :: .blk 227 1 [.mp (b1.length+3)] :: (jk W k++[.blk 224 7 r.cs,.blk 226 2 [I r.source,I r.number]]):=by simp only[x_,Pc hk,OH hk,←hr]
   cases hc:(r.kind==4&&decide (r.aX≤t)&&((named W t r.source r.number:Nat):Int)==1&&!(vs W t (W.drop (W.length-k))).contains (r.source,r.number))
   ·have hvm:vm W t (r :: W.drop (W.length-k))=vm W t (W.drop (W.length-k)):=by
     simp only[vm];rw[A0B]
     rintro⟨q1,q2,q3⟩
     unfold uF there at q2;rw[A0f] at q2;rw[q1,q2.1,Hg,q2.2,q3] at hc;simp at hc
    have QF:X2=x_ b1 j W nm t (k+1):=by rw[C8,hvm,xC,gT]
    subst O2 Al
    repeat' (first|(apply dX;simp only[au];rfl)|(apply bf;rfl;exact hc)|(apply dS;rfl;rfl;(·first|exact aW ED rfl|exact aW Fz rfl|exact ahS|exact hvN|exact hvV);simp only[au];rfl)|(apply je;rfl;rfl;rfl;exact Gf rfl rfl rfl;simp only[au];rfl)|(apply kT;rfl;rfl;rfl;rfl;(·first|exact JX|exact JW);simp only[au];rfl)|(apply aU;rfl;simp only[au];rfl)|(apply fp;rfl)|refine aO ?_|(apply aL;rfl;rfl)|refine aC ?_|refine kj rfl ?_|exact aH rfl rfl|(intro hz;(try simp only[gq] at hz)))
    exact B0q (fun x=>gu.jump 1 [D.st x]) QF
   ·have hvm:vm W t (r :: W.drop (W.length-k))=i_ (r.source,r.dV) (B true) (vm W t (W.drop (W.length-k))):=by simp only[vm];rw[A0z];rw[Hg] at hc;simp only[A0f] at hc;refine⟨by simpa using hc.1.1.1,?_,by simpa using hc.2⟩;unfold uF there;rw[hc.1.1.2,hc.1.2];rfl
    rw[←hvm,←C8] at gZ;subst O2 Al
    repeat' (first|(apply dX;simp only[au];rfl)|(apply bF;rfl;exact hc)|(apply dS;rfl;rfl;(·first|exact aW ED rfl|exact aW Fz rfl|exact ahS|exact hvN|exact hvV);simp only[au];rfl)|(apply je;rfl;rfl;rfl;exact Gf rfl rfl rfl;simp only[au];rfl)|(apply kT;rfl;rfl;rfl;rfl;(·first|exact JX|exact JW|exact gZ);simp only[au];rfl)|(apply aU;rfl;simp only[au];rfl)|(apply fp;rfl)|refine aO ?_|(apply aL;rfl;rfl)|refine aC ?_|refine kj rfl ?_|exact aH rfl rfl|(intro hz;(try simp only[gq] at hz)))
    rfl
  ·have hFl:=Pp (b1:=b1) (j:=j) (W:=W) (nm:=nm) (t:=t) (k:=W.length) (A0m _);obtain⟨F,hF⟩:∃F,F=x_ b1 j W nm t W.length:=⟨_,rfl⟩;have hFv:F[b1.length]? = some (.blk 220 3 [.loc j 0,.bk (W.map aF.d),.bS]):=by rw[hF];exact KY
   rw[←hF] at hFl ⊢
   repeat' (first|(apply dX;simp only[au];rfl)|(apply bG;rfl)|(apply dS;rfl;rfl;exact aW hFv rfl;simp only[au];rfl)|(apply cM;rfl;exact bR;simp only[au];rfl)|(apply aU;rfl;simp only[au];rfl)|refine aO ?_|(apply aL;rfl;rfl)|refine aC ?_|refine kj rfl ?_)
   refine Sd W (fun(s:List D×D×List Nat) i=>[In i,.st s.1]) (fun rest s=>∃pre,W=pre++rest∧L3 F b1.length j W s.1 s.2.1 s.2.2∧s.2.2=(List.range pre.length).filter fun i=>pB W t (qB W i)) (F,.bS,[]) rfl (fun _ _=>rfl) ⟨[],rfl,⟨hFv,.inl ⟨rfl,rfl⟩,fun _ _ _=>rfl,rfl,rfl⟩,rfl⟩ (fun i x s hx hlt hG R hR=>?_) (fun s hG R=>?_)
   ·obtain⟨st,out,idx⟩:=s;obtain⟨pre,gm,hI,oa⟩:=hG;simp only at hI oa;have mR:pre.length=i:=by have:=B0q List.length gm;simp at this;omega
    have EB:qB W i=x:=by rw[Gw hlt];exact(A0c.1 hx).2
    have ug:idx.length≤1000000:=by have:=C0G (fun i=>pB W t (qB W i)) (List.range pre.length);rw[←oa] at this;simp at this;omega
    have gA:decide ((i:Int)<(W.length:Int))=true:=by simp;omega
    have qE:D.ax 7 (.bk (W.map aF.d)) (In i)=some (.ptr x.cs):=nO hx rfl;have Hr:∀k,k<b1.length+5→k≠b1.length→st[k]? = F[k]?:=fun k hk bQ=>hI.old k (by omega) bQ;have JX:D.m4 (.get KN false) (.st st) (.mp (b1.length+1)) (qi (x.source,x.number)) (I 0)=some (I (named W t x.source x.number:Nat)):=zm (by rw[Hr _ (by omega) (by omega),hF,Po]) _ (OR.get _) rfl;have JW:D.m4 (.get KN false) (.st st) (.mp (b1.length+3)) (qi (x.source,x.number)) (B false)=some (B ((vs W t W).contains (x.source,x.number))):=zm (by rw[Hr _ (by omega) (by omega),hF,KX,B0R,E0d]) _ (Vb W t _ _) rfl;have hvN:D.ld false 1 (.st st) (.loc ((b1++[D.blk 220 3 [.loc j 0,.bk (W.map aF.d),.bS]])++[D.cg []]).length 0)=some (.mp (b1.length+1)):=by rw[show((b1++[D.blk 220 3 [.loc j 0,.bk (W.map aF.d),.bS]])++[D.cg []]).length=b1.length+2 by simp];exact aW (by rw[Hr _ (by omega) (by omega),hF,Pn]) rfl
    have hvV:D.ld false 1 (.st st) (.loc (ux b1 j W nm++[D.cg []]).length 0)=some (.mp (b1.length+3)):=by rw[show(ux b1 j W nm++[D.cg []]).length=b1.length+4 by simp[jG]];exact aW (by rw[Hr _ (by omega) (by omega),hF,KW]) rfl
    obtain⟨st1,st2,a1,a2,a3,a4⟩:=hI.step (by omega) ug i;have hpb:pB W t x=(decide (x.aX≤t)&&((named W t x.source x.number:Nat):Int)==1&&!(vs W t W).contains (x.source,x.number)):=by rw[Hg];rfl
    cases hc:(decide (x.aX≤t)&&((named W t x.source x.number:Nat):Int)==1&&!(vs W t W).contains (x.source,x.number))
    ·repeat' (first|(apply dX;simp only[au];rfl)|(apply bF;rfl;exact gA)|(apply bf;rfl;exact hc)|(apply bG;rfl)|(apply dS;rfl;rfl;(·first|exact hvN|exact hvV);simp only[au];rfl)|(apply bH;rfl;rfl;exact qE;simp only[au];rfl)|(apply kT;rfl;rfl;rfl;rfl;(·first|exact JX|exact JW);simp only[au];rfl)|(apply eo;rfl;omega;simp only[au];rfl)|(apply aU;rfl;simp only[au];rfl)|(apply fp;rfl)|refine aO ?_|(apply aL;rfl;rfl)|refine aC ?_|refine kj rfl ?_|exact aH rfl rfl|(intro hz;(try simp only[gq] at hz)))
     refine hR (st,out,idx) ⟨pre++[x],by simpa using gm,hI,?_⟩;simp only[A0u,B0a,B0C,A0Q];have ab3:pB W t (qB W i)=false:=by rw[EB,hpb,hc]
     rw[D0v,B0Z,←oa,mR];simp[C0e,ab3]
    ·repeat' (first|(apply dX;simp only[au];rfl)|(apply bF;rfl;(·first|exact gA|exact hc))|(apply bG;rfl)|(apply BF;rfl;rfl;rfl;rfl;rfl;exact a2;exact a3;simp only[au];rfl)|(apply dS;rfl;rfl;(·first|exact aW hI.view rfl|exact hvN|exact hvV);simp only[au];rfl)|(apply bH;rfl;rfl;exact qE;simp only[au];rfl)|(apply yC;rfl;rfl;rfl;exact a1;simp only[au];rfl)|(apply kT;rfl;rfl;rfl;rfl;(·first|exact JX|exact JW);simp only[au];rfl)|(apply eo;rfl;omega;simp only[au];rfl)|(apply aU;rfl;simp only[au];rfl)|(apply fp;rfl)|refine aO ?_|(apply aL;rfl;rfl)|refine aC ?_|refine kj rfl ?_|exact aH rfl rfl|(intro hz;(try simp only[gq] at hz)))
     refine hR (st2,_,idx++[i]) ⟨pre++[x],by simpa using gm,a4,?_⟩;simp only[A0u,B0a,B0C,A0Q];have ab3:pB W t (qB W i)=true:=by rw[EB,hpb,hc]
     rw[D0v,B0Z,←oa,mR];simp[C0e,ab3]
   ·obtain⟨st,out,idx⟩:=s;obtain⟨pre,gm,hI,oa⟩:=hG;rw[B0F] at gm;simp only at hI oa;rw[←gm] at oa;have UJ:idx=kB W t:=oa;have gA:decide ((W.length:Int)<(W.length:Int))=false:=by simp
    repeat' (first|(apply dX;simp only[au];rfl)|(apply bf;rfl;exact gA)|(apply aU;rfl;simp only[au];rfl)|(apply aL;rfl;rfl)|refine aC ?_|(refine aT (by decide) ?_)|refine kj rfl ?_)
    have ais:F.length=bs.length+3*kv.length+6:=by omega
    have fZ:=hI.out;rw[UJ,ais] at fZ;refine aH rfl ⟨st,?_,?_,fun k hk=>?_,fun p hp=>?_⟩
    ·show gu.ret (D.a_ [D.loc b1.length 0,D.st st])=_;rw[aik]
    ·rw[hI.len,UJ,ais]
    ·rw[hI.old k (by omega) (by omega),hF,Y6 (by omega),sk,A0g hk]
    ·rcases A0E.1 hp with rfl | hp
     ·simp only;rw[←aik,hI.view,fZ]
     ·split at hp
      ·cases hp
      ·rename_i bQ;rw[A0Y] at hp;subst hp;simp only;rw[A0B bQ] at fZ;rw[hI.sl.blk (by rw[fZ];rfl),UJ]
theorem viewAt (h:mD bs j m f ss kv)(hn:kv.length≤1000000){rs:List aF}(iM:kv=rs.foldl put [])(Ag:aN bs=true)(t:Int) :
  ∃bs' v s,aZ Tryz.prog 62 (.st bs) [.loc j 0,I t] (.loc v 0) (.st bs')∧bs.length≤v∧bs.length≤bs'.length∧(∀i,i<bs.length→bs'[i]? = bs[i]?)∧pY bs' v j (ef rs) s (kB (ef rs) t)∧aN bs'=true∧∀b,s.Em=some b→bs.length≤b:=by
 have h66:=c62 h hn iM Ag t;generalize ef rs=W at h66 ⊢;have hlt:∀i,i∈kB W t→i<W.length:=fun i hi=>by unfold kB at hi;simp at hi;exact hi.1
 generalize kB W t=idx at h66 hlt ⊢;refine⟨_,_,if idx=[] then .bS else .sl (bs.length+3*kv.length+6+idx.length-1) 0 idx.length,h66,by omega,by rw[CU];omega,fun i hi=>JD hi (by omega),⟨CT (by omega) (by omega) (by unfold atK;rw[E0w (by simp)]),?_,hlt⟩,Fu Ag fun p hp=>?_,fun b hb=>?_⟩
 ·by_cases bQ:idx=[]
  ·rw[A0z bQ];exact .inl ⟨bQ,rfl⟩
  ·rw[A0B bQ];have hp:=B0x.2 bQ;exact .inr ⟨_,rfl,CT (by omega) (by omega) (by simp[atK,bQ];omega)⟩
 ·rcases A0E.1 hp with rfl | hp
  ·simp only;split <;> simp[D.bZ,aN,E9]
  ·split at hp
   ·cases hp
   ·rw[A0Y] at hp;subst hp;have:aN (idx.flatMap ncs)=true:=lQ fun i _=>by simp[ncs,aN,D.bZ]
    simpa[D.bZ] using this
 ·split at hb
  ·cases hb
  ·rename_i bQ;cases hb;have hp:=B0x.2 bQ;omega
end
section
open Go.Proofs
set_option maxRecDepth 100000
set_option maxHeartbeats 4000000
abbrev Zg:Nat:=1000000000
def bcs (b:Bool):List D:=[B b]
def cm {α:Type}(g:Nat→α)(p:Nat)(x:α):Nat→α:=fun q=>if q=p then x else g q
theorem wq {α:Type}(g:Nat→α)(p:Nat)(x y:α):cm (cm g p x) p y=cm g p y:=by
 funext q
 unfold cm;split <;> rfl
theorem pL {α:Type}(g:Nat→α)(p:Nat)(x:α):cm g p x p=x:=by simp[cm]
theorem E_ {α:Type}(g:Nat→α)(n p:Nat)(x:α):((List.range n).map g).set p x=(List.range n).map (cm g p x):=by
 apply E0t
 ·simp
 ·intro i h1 h2;simp only[List.getElem_set,E0s,D0w,cm]
  by_cases h:p=i
  ·subst h;simp
  ·rw[A0B h,A0B (B0O h)]
def kR (bs:List D)(n:Nat)(g:Nat→Kn)(ps out:Int)(tr:Nat→Bool)(jk:List D):List D:=
 bs++.blk Zg 6 (((List.range n).map g).flatMap Kn.cs) :: .blk Zg 1 (((List.range n).map tr).flatMap bcs) :: .blk Zg 4 [.sl bs.length 0 n,I ps,I out,.sl (bs.length+1) 0 n] :: jk
section
variable {bs:List D} {n p:Nat} {g:Nat→Kn} {ps out:Int} {tr:Nat→Bool} {jk:List D}
theorem MD:(kR bs n g ps out tr jk)[bs.length]? = some (.blk Zg 6 (((List.range n).map g).flatMap Kn.cs)):=by simp[kR]
theorem TM:(kR bs n g ps out tr jk)[bs.length+1]? = some (.blk Zg 1 (((List.range n).map tr).flatMap bcs)):=by simp[kR]
theorem pR:(kR bs n g ps out tr jk)[bs.length+2]? = some (.blk Zg 4 [.sl bs.length 0 n,I ps,I out,.sl (bs.length+1) 0 n]):=by simp[kR]
theorem xu {i:Nat}(h:i<bs.length):(kR bs n g ps out tr jk)[i]? = bs[i]?:=by simp[kR,A0g h]
theorem Oy:(kR bs n g ps out tr jk).length=bs.length+3+jk.length:=by simp[kR];omega
theorem ud {g':Nat→Kn}{tr':Nat→Bool}(h:∀q,q<n→g q=g' q)(ht:∀q,q<n→tr q=tr' q):kR bs n g ps out tr jk=kR bs n g' ps out tr' jk:=by have e1:(List.range n).map g=(List.range n).map g':=B0s fun q hq=>h q (by simpa using hq);have e2:(List.range n).map tr=(List.range n).map tr':=B0s fun q hq=>ht q (by simpa using hq);simp only[kR,e1,e2]
theorem kZ {k:Nat}{x':Kn}{d:D}(hp:p<n)(hk:k<6)(hd:d.one=true)(he:x'.cs=(g p).cs.set k d):D.eL 1 (.st (kR bs n g ps out tr jk)) (.loc bs.length (p*6+k)) d=some (.st (kR bs n (cm g p x') ps out tr jk)):=by rw[sD MD (fun _=>rfl) (x:=g p) (by simp[hp]) hk hd he,E_];simp[kR]
theorem TJ {b:Bool}(hp:p<n):D.eL 1 (.st (kR bs n g ps out tr jk)) (.loc (bs.length+1) (p*1)) (B b)=some (.st (kR bs n g ps out (cm tr p b) jk)):=by refine(sD (o:=0) (TM (bs:=bs) (n:=n) (g:=g) (ps:=ps) (out:=out) (tr:=tr) (jk:=jk)) (fun _=>rfl) (i:=p) (x:=tr p) (x':=b) (d:=B b) (by simp[hp]) (by omega) rfl rfl).trans ?_;rw[E_];simp[kR]
theorem MC (x:Int):D.eL 1 (.st (kR bs n g ps out tr jk)) (.loc (bs.length+2) 1) (I x)=some (.st (kR bs n g x out tr jk)):=by rw[gW pR (by simp) rfl];simp[kR]
theorem XR (x:Int):D.eL 1 (.st (kR bs n g ps out tr jk)) (.loc (bs.length+2) 2) (I x)=some (.st (kR bs n g ps x tr jk)):=by rw[gW pR (by simp) rfl];simp[kR]
theorem mH {k:Nat}{d:D}(hp:p<n)(hk:(g p).cs[k]? = some d):D.ld false 1 (.st (kR bs n g ps out tr jk)) (.loc bs.length (p*6+k))=some d:=
 mG MD (fun _=>rfl) (by simp[hp]) hk
theorem XS (hp:p<n):D.ld false 1 (.st (kR bs n g ps out tr jk)) (.loc (bs.length+1) (p*1))=some (B (tr p)):=
 Mu TM (fun _=>rfl) (by simp[hp]) rfl
theorem Cs (a b:Int):D.mm true (I a) (I b)=some (I (max a b)):=by
 have h:(if b > a then b else a)=max a b:=by split <;> omega
 simp only[D.mm,B0d,h]
theorem GH (a b:Int):D.mm false (I a) (I b)=some (I (min a b)):=by
 have h:(if b<a then b else a)=min a b:=by split <;> omega
 simp only[D.mm,B0d,A0S,B0n,h]
theorem aqK {r:aF}(mR:r.place=(p:Int))(hp:p<n){w kd:Int}(h1:0≤r.time∧r.time≤1000000000000)(h2:0≤w∧w≤10000000) :
  aZ Tryz.prog 123 (.st (kR bs n g ps out tr jk)) [.loc (bs.length+2) 0,r.d,I w,I kd] (.a_ []) (.st (kR bs n (cm g p { g p with low:=max (g p).low (r.time-w),high:=min (g p).high (r.time+w) }) (max ps r.place) out (if kd=3 then tr else cm tr p true) jk)):=by
 have qE:D.ax 6 (.sl bs.length 0 n) (I r.place)=some (.loc bs.length (p*6)):=by rw[mR];exact fA hp
 have heb:D.ax 1 (.sl (bs.length+1) 0 n) (I r.place)=some (.loc (bs.length+1) (p*1)):=by rw[mR];exact fA hp
 have sr:=kZ (bs:=bs) (n:=n) (g:=g) (ps:=ps) (out:=out) (tr:=tr) (jk:=jk) (k:=0) (x':={ g p with low:=max (g p).low (r.time-w) }) hp (by omega) (d:=I (max (g p).low (r.time-w))) rfl rfl;have oH:=kZ (bs:=bs) (n:=n) (g:=cm g p { g p with low:=max (g p).low (r.time-w) }) (ps:=ps) (out:=out) (tr:=tr) (jk:=jk) (k:=1) (x':={ g p with low:=max (g p).low (r.time-w),high:=min (g p).high (r.time+w) }) hp (by omega) (d:=I (min (g p).high (r.time+w))) rfl (by rw[pL];rfl);rw[wq] at oH;have QB:=mH (bs:=bs) (n:=n) (g:=g) (ps:=ps) (out:=out) (tr:=tr) (jk:=jk) (k:=0) hp rfl;have WC:=mH (bs:=bs) (n:=n) (g:=g) (ps:=ps) (out:=out) (tr:=tr) (jk:=jk) (k:=1) hp rfl
 by_cases hk:kd=3
 ·have JV:(kd != 3)=false:=by simp[hk]
  rw[A0z hk];refine ZT.W rfl ?_;unfold aaU;simp only[aB,aI,A0i,A0j]
  repeat' (first|(apply dX;simp only[au];rfl)|(apply bf;rfl;exact JV)|(apply bG;rfl)|(apply dS;rfl;rfl;(·first|exact aW pR rfl|exact QB|exact WC);simp only[au];rfl)|(apply bH;rfl;rfl;exact qE;simp only[au];rfl)|(apply je;rfl;rfl;rfl;(·first|exact sr|exact oH|exact MC _);simp only[au];rfl)|(apply yB;rfl;rfl;(·first|exact Cs _ _|exact GH _ _);simp only[au];rfl)|(apply jf;rfl;rfl;omega;simp only[au];rfl)|(apply fP;rfl;rfl;omega;simp only[au];rfl)|(apply aU;rfl;simp only[au];rfl)|refine aO ?_|(apply aL;rfl;rfl)|refine aC ?_|refine kj rfl ?_|exact aH rfl rfl)
 ·have JV:(kd != 3)=true:=by simp[hk]
  rw[A0B hk];refine ZT.W rfl ?_;unfold aaU;simp only[aB,aI,A0i,A0j]
  repeat' (first|(apply dX;simp only[au];rfl)|(apply bF;rfl;exact JV)|(apply bG;rfl)|(apply dS;rfl;rfl;(·first|exact aW pR rfl|exact QB|exact WC);simp only[au];rfl)|(apply bH;rfl;rfl;(·first|exact qE|exact heb);simp only[au];rfl)|(apply je;rfl;rfl;rfl;(·first|exact sr|exact oH|exact MC _|exact TJ hp);simp only[au];rfl)|(apply yB;rfl;rfl;(·first|exact Cs _ _|exact GH _ _);simp only[au];rfl)|(apply jf;rfl;rfl;omega;simp only[au];rfl)|(apply fP;rfl;rfl;omega;simp only[au];rfl)|(apply aU;rfl;simp only[au];rfl)|refine aO ?_|(apply aL;rfl;rfl)|refine aC ?_|refine kj rfl ?_|exact aH rfl rfl)
theorem aqJ {r:aF}(mR:r.place=(p:Int))(hp:p<n){w kd:Int}(h1:0≤r.time∧r.time≤1000000000000)(h2:0≤w∧w≤10000000) :
  aZ Tryz.prog 124 (.st (kR bs n g ps out tr jk)) [.loc (bs.length+2) 0,r.d,I w,I kd] (.a_ []) (.st (kR bs n (cm g p { g p with low:=max (g p).low (r.time-w+1) }) ps out tr jk)):=by
 have qE:D.ax 6 (.sl bs.length 0 n) (I r.place)=some (.loc bs.length (p*6)):=by rw[mR];exact fA hp
 have sr:=kZ (bs:=bs) (n:=n) (g:=g) (ps:=ps) (out:=out) (tr:=tr) (jk:=jk) (k:=0) (x':={ g p with low:=max (g p).low (r.time-w+1) }) hp (by omega) (d:=I (max (g p).low (r.time-w+1))) rfl rfl;have QB:=mH (bs:=bs) (n:=n) (g:=g) (ps:=ps) (out:=out) (tr:=tr) (jk:=jk) (k:=0) hp rfl;refine ag4.W rfl ?_;unfold afb;simp only[aB,aI,A0i,A0j]
 repeat' (first|(apply bG;rfl)|(apply dS;rfl;rfl;(·first|exact aW pR rfl|exact QB);simp only[au];rfl)|(apply bH;rfl;rfl;exact qE;simp only[au];rfl)|(apply je;rfl;rfl;rfl;exact sr;simp only[au];rfl)|(apply yB;rfl;rfl;exact Cs _ _;simp only[au];rfl)|(apply jf;rfl;rfl;omega;simp only[au];rfl)|(apply fP;rfl;rfl;omega;simp only[au];rfl)|exact aH rfl rfl)
theorem aqI (r:aF)(w kd:Int) :
  aZ Tryz.prog 125 (.st (kR bs n g ps out tr jk)) [.loc (bs.length+2) 0,r.d,I w,I kd] (.a_ []) (.st (kR bs n g (max ps r.place) (min out r.place) tr jk)):=by
 refine ag3.W rfl ?_;unfold afa;simp only[aB,aI,A0i,A0j]
 repeat' (first|(apply bG;rfl)|(apply dS;rfl;rfl;exact aW pR rfl;simp only[au];rfl)|(apply je;rfl;rfl;rfl;(·first|exact MC _|exact XR _);simp only[au];rfl)|(apply yB;rfl;rfl;(·first|exact Cs _ _|exact GH _ _);simp only[au];rfl)|exact aH rfl rfl)
end
end
section
open Go.Proofs
set_option maxRecDepth 100000
variable {n:Nat} {least:List Int} {ss:List Src} {rs:List aF} {r:aF}
theorem qc (p:Nat):iX ss (rs++[r]) p=if r.place=(p:Int) then max (iX ss rs p) (rp ss r) else iX ss rs p:=by simp[iX,B0z]
theorem n_ (p:Nat):fF ss (rs++[r]) p=if r.place=(p:Int) then min (fF ss rs p) (k_ ss r) else fF ss rs p:=by simp[fF,B0z]
theorem vp (m:Int):iC m (rs++[r])=if r.kind=3 then min (iC m rs) r.place else iC m rs:=by simp[iC,B0z]
theorem BI (p:Nat):fw ss (rs++[r]) p=(fw ss rs p||(r.kind==1&&((gw ss r).kind != 3&&r.place==(p:Int)))):=by simp[fw]
theorem Oq (p:Nat):-10000000000000≤iX ss rs p:=(Bh.1 (B0P _)).1
theorem De (p:Nat):fF ss rs p≤10000000000000:=(xo.1 (B0P _)).1
def ym (rs:List aF):Int:=rs.foldl (fun b r=>if r.kind=1∨r.kind=3 then max b r.place else b) (-1)
theorem Cb:ym (rs++[r])=if r.kind=1∨r.kind=3 then max (ym rs) r.place else ym rs:=by simp[ym,B0z]
theorem SP:∀(rs:List aF) (b x:Int),x≤rs.foldl (fun b r=>if r.kind=1∨r.kind=3 then max b r.place else b) b↔x≤b∨∃r,r∈rs∧(r.kind=1∨r.kind=3)∧x≤r.place
 | [],b,x=>by simp
 | r :: rs,b,x=>by
  rw[B0Y,SP rs];split
  ·rename_i h;constructor
   ·rintro(h1 | ⟨q,h1,h2⟩)
    ·rcases Int.le_total b r.place with h3 | h3
     ·rw[Int.max_eq_right h3] at h1;exact .inr ⟨r,by simp,h,h1⟩
     ·rw[Int.max_eq_left h3] at h1;exact .inl h1
    ·exact .inr ⟨q,by simp[h1],h2⟩
   ·rintro(h1 | ⟨q,h1,h2,h3⟩)
    ·exact .inl (by omega)
    ·rcases A0E.1 h1 with rfl | h1
     ·exact .inl (by omega)
     ·exact .inr ⟨q,h1,h2,h3⟩
  ·rename_i h;constructor
   ·rintro(h1 | ⟨q,h1,h2⟩)
    ·exact .inl h1
    ·exact .inr ⟨q,by simp[h1],h2⟩
   ·rintro(h1 | ⟨q,h1,h2,h3⟩)
    ·exact .inl h1
    ·rcases A0E.1 h1 with rfl | h1
     ·exact absurd h2 h
     ·exact .inr ⟨q,h1,h2,h3⟩
theorem P3 (rs:List aF)(p:Nat):oZ rs p=decide ((p:Int)≤ym rs):=by
 rw[C0Z,A0t];unfold ym;rw[SP];simp only[oZ,B0h,A0f,B0v,B0K,A0t];constructor
 ·rintro⟨r,h1,h2,h3⟩
  exact .inr ⟨r,h1,h2,h3⟩
 ·rintro(h | ⟨r,h1,h2,h3⟩)
  ·omega
  ·exact⟨r,h1,h2,h3⟩
def gR (ss:List Src)(rs:List aF)(p:Nat):Kn:=⟨iX ss rs p,fF ss rs p,false,false,false,false⟩
theorem YC {p:Nat}(hp:r.place=(p:Int))(hk:r.kind=1):cm (gR ss rs) p { gR ss rs p with low:=max (gR ss rs p).low (r.time-(gw ss r).error),high:=min (gR ss rs p).high (r.time+(gw ss r).error) }=gR ss (rs++[r]):=by
 funext q
 unfold cm;have hl:rp ss r=r.time-(gw ss r).error:=by simp[rp,hk]
 have hh:k_ ss r=r.time+(gw ss r).error:=by simp[k_,hk]
 split
 ·rename_i h;subst h;simp[gR,qc,n_,hp,hl,hh]
 ·rename_i h;have bQ:¬(p:Int)=(q:Int):=fun e=>h (by omega);simp[gR,qc,n_,hp,bQ]
theorem acZ {p:Nat}(hp:r.place=(p:Int))(hk:r.kind=2):cm (gR ss rs) p { gR ss rs p with low:=max (gR ss rs p).low (r.time-(gw ss r).error+1) }=gR ss (rs++[r]):=by
 funext q
 unfold cm;have hl:rp ss r=r.time-(gw ss r).error+1:=by simp[rp,hk]
 have hh:k_ ss r=10000000000000:=by simp[k_,hk]
 split
 ·rename_i h;subst h;have:=De (ss:=ss) (rs:=rs) q;simp[gR,qc,n_,hp,hl,hh];omega
 ·rename_i h;have bQ:¬(p:Int)=(q:Int):=fun e=>h (by omega);simp[gR,qc,n_,hp,bQ]
theorem acY (hk:r.kind=3):gR ss rs=gR ss (rs++[r]):=by
 funext q
 have hl:rp ss r=-10000000000000:=by simp[rp,hk]
 have hh:k_ ss r=10000000000000:=by simp[k_,hk]
 have h1:=De (ss:=ss) (rs:=rs) q;have h2:=Oq (ss:=ss) (rs:=rs) q;simp only[gR,qc,n_,hl,hh];split
 ·simp;omega
 ·rfl
theorem LD {p:Nat}(hp:r.place=(p:Int))(hk:r.kind=1):(if(gw ss r).kind=3 then fw ss rs else cm (fw ss rs) p true)=fw ss (rs++[r]):=by
 funext q
 rw[BI];split
 ·rename_i h;simp[h]
 ·rename_i h;unfold cm;have h3:((gw ss r).kind != 3)=true:=by simpa using h
  rw[hk,h3,hp];split
  ·rename_i e;simp[e]
  ·rename_i e;have bQ:¬(p:Int)=(q:Int):=fun e2=>e (by omega);simp[bQ]
theorem EU (hk:r.kind≠1):fw ss rs=fw ss (rs++[r]):=by
 funext q
 rw[BI];simp[hk]
theorem XI (F:Rt n least ss)(hr:∀r,r∈rs→Wj n ss r){p:Nat}(hp:p<n):-10000000000000≤lF least (iX ss rs) p∧lF least (iX ss rs) p≤1003000000001:=by
 have hh:=F.hi;constructor
 ·have:=(w_ (least:=least) (f:=iX ss rs) (p:=p) (x:=lF least (iX ss rs) p)).1 (B0P _) p (A0m _);have h2:=Oq (ss:=ss) (rs:=rs) p;simp[oM] at this;omega
 ·rw[w_];intro q hq;have h1:=nR F q (d:=p-q) (by omega);have h2:iX ss rs q≤1000000000001:=Bh.2 ⟨by omega,fun r kg _=>(Oo F (hr r kg)).1⟩;omega
theorem UH (F:Rt n least ss)(hr:∀r,r∈rs→Wj n ss r){d:Nat}(hd:d≤n-1):-3000000000≤iN least (fF ss rs) (n-1) d∧iN least (fF ss rs) (n-1) d≤10000000000000:=by
 have hh:=F.hi;constructor
 ·rw[sZ hd];intro e he;have h1:=nR F (n-1-d) (d:=d-e) (by omega);have h2:0≤fF ss rs (n-1-e):=xo.2 ⟨by omega,fun r kg _=>(Dd F (hr r kg)).1⟩;omega
 ·have:=(sZ (least:=least) (f:=fF ss rs) (x:=iN least (fF ss rs) (n-1) d) hd).1 (B0P _) d (A0m _);have h2:=De (ss:=ss) (rs:=rs) (n-1-d);simp[oM] at this;omega
def rE (W:List aF)(t dV:Int):List Nat:=(kB W t).filter fun i=>Ec dV (qB W i)
theorem XH (W:List aF):(List.range W.length).map (qB W)=W:=by
 apply E0t
 ·simp
 ·intro i h1 h2;simp[Gw h2]
theorem M7 (W:List aF)(q:aF→Bool):((List.range W.length).filter fun i=>q (qB W i)).map (qB W)=W.filter q:=by have h:=List.filter_map (f:=qB W) (p:=q) (l:=List.range W.length);rw[XH] at h;rw[h];rfl
theorem T5 (W:List aF)(t:Int):(kB W t).map (qB W)=W.filter (pB W t):=M7 W _
theorem T6 (W:List aF)(t dV:Int):(rE W t dV).map (qB W)=eY W t dV:=by unfold rE eY;rw[←T5,List.filter_map];rfl
theorem aju {v j:Nat} {W:List aF} {s:D} {t dV:Int} (g:Nat→List D) (hV:∀k,k≤(rE W t dV).length→pY (g k) v j W s (kB W t)) (hL:W.length≤1000000) {m0:Nat} {rec:Loop} {sl:List Nat} {eH:List D}
  (hy:∀k (h:k<(rE W t dV).length),r7 Tryz.prog (.yl m0 rec sl eH) (.st (g k)) [In (rE W t dV)[k],(qB W (rE W t dV)[k]).d] (.st (g (k+1)))) :
  aZ Tryz.prog 178 (.st (g 0)) [.yl m0 rec sl eH,.ptr [.loc v 0],.ptr [I dV]] (.a_ []) (.st (g (rE W t dV).length)):=by
 have key:∀k,k≤(kB W t).length→(((kB W t).take k).filter fun i=>Ec dV (qB W i)).length≤(rE W t dV).length:=fun k _=>(List.Sublist.filter _ (List.take_sublist k _)).length_le;have h:=aqp (m0:=m0) (rec:=rec) (sl:=sl) (eH:=eH) (dV:=dV) (fun k=>g (((kB W t).take k).filter fun i=>Ec dV (qB W i)).length) (fun k hk=>hV _ (key k hk)) (by have:=T4 W t;omega) (fun k hk eE=>?_) (fun k hk eE=>?_)
 ·simp only[C0d] at h;exact h
 ·have e1:((kB W t).take (k+1)).filter (fun i=>Ec dV (qB W i))=((kB W t).take k).filter (fun i=>Ec dV (qB W i))++[(kB W t)[k]]:=by rw[A0O hk,B0Z];simp[C0e,eE]
  have e2:rE W t dV=((kB W t).take k).filter (fun i=>Ec dV (qB W i))++(kB W t)[k] :: ((kB W t).drop (k+1)).filter (fun i=>Ec dV (qB W i)):=by
   unfold rE
   conv=>lhs;rw[←C0F k (kB W t),B0S hk,B0Z,C0e]
   simp[eE]
  have hlt:(((kB W t).take k).filter (fun i=>Ec dV (qB W i))).length<(rE W t dV).length:=by rw[e2];simp
  have h3:=hy _ hlt;have e3:(rE W t dV)[(((kB W t).take k).filter (fun i=>Ec dV (qB W i))).length]=(kB W t)[k]:=by
   have:(rE W t dV)[(((kB W t).take k).filter (fun i=>Ec dV (qB W i))).length]? = some (kB W t)[k]:=by
    conv=>lhs;arg 1;rw[e2]
    simp
   rw[A0e hlt] at this;exact B0M this
  rw[e3] at h3;simp only[e1,A0u,B0a,B0C,A0Q];exact h3
 ·rw[A0O hk,B0Z];simp[C0e,eE]
end
section
open Go.Proofs
set_option maxRecDepth 100000
set_option maxHeartbeats 4000000
def K0:Kn:=⟨0,0,false,false,false,false⟩
def K1:Kn:=⟨-10000000000000,10000000000000,false,false,false,false⟩
abbrev xP6:E:=.cE 1000000000 6 (.sym 2) (.sym 7)
abbrev xT1:E:=.cE 1000000000 1 xP6 (.sym 14)
abbrev xK4:E:=.fO 1000000000 4 xT1 (.cons (.cR (.sym 2) (.sym 7)) (.cons (ki (-1)) (.cons (.sym 10) (.cons (.cR xP6 (.sym 14)) .nil))))
section
variable {bs:List D} {n:Nat} {env:List D}
theorem ur {α:Type}(enc:α→List D)(a:α)(n:Nat){d:D}(hd:d.cells=enc a):cH (List.replicate n d)=((List.range n).map fun _=>a).flatMap enc:=by rw[List.map_const',E0l];simp only[cH,List.flatMap_replicate,hd]
theorem VA {e k:Nat}{x y:E}{dx dy d:D}(hx:x.eval env=some dx)(hy:y.eval env=some dy)(h:D.cE e k dx dy=some d):(E.cE e k x y).eval env=some d:=by simp only[E.eval,hx,hy,A0d,h]
theorem adm {e k:Nat}{x y:E}{dx dy d:D}(hx:x.eval env=some dx)(hy:y.eval env=some dy)(h:D.fO e k dx dy=some d):(E.fO e k x y).eval env=some d:=by simp only[E.eval,hx,hy,A0d,h]
theorem DA {x y:E}{dx dy d:D}(hx:x.eval env=some dx)(hy:y.eval env=some dy)(h:D.cons dx dy=some d):(E.cons x y).eval env=some d:=by simp only[E.eval,hx,hy,A0d,h]
theorem Pb {x y:E}{dx dy d:D}(hx:x.eval env=some dx)(hy:y.eval env=some dy)(h:D.cR dx dy=some d):(E.cR x y).eval env=some d:=by simp only[E.eval,hx,hy,A0d,h]
theorem YR {x:E}{dx d:D}(hx:x.eval env=some dx)(h:D.aJ dx=some d):(E.aJ x).eval env=some d:=by simp only[E.eval,hx,A0d,h]
theorem YQ {x:E}{dx d:D}(hx:x.eval env=some dx)(h:D.cw dx=some d):(E.cw x).eval env=some d:=by simp only[E.eval,hx,A0d,h]
abbrev zP (n:Nat):D:=.blk Zg 6 (((List.range n).map fun _=>K0).flatMap Kn.cs)
abbrev zT (n:Nat):D:=.blk Zg 1 (((List.range n).map fun _=>false).flatMap bcs)
theorem agj:D.cE 1000000000 6 (.st bs) (.bk (List.replicate n K0.d))=some (.st (bs++[zP n])):=by
 simp only[D.cE];rw[A0z,ur Kn.cs K0 n rfl];constructor
 ·simp[cC,Kn.d,Kn.cs,D.cells]
 ·rw[ur Kn.cs K0 n rfl,A0C];intro d hd;obtain⟨x,hx,hd⟩:=D0K.1 hd;obtain⟨_,_,rfl⟩:=A0F.1 hx;simp[Kn.cs,K0] at hd;rcases hd with rfl | rfl | rfl | rfl | rfl | rfl <;> rfl
theorem agi:D.cE 1000000000 1 (.st bs) (.bk (List.replicate n (B false)))=some (.st (bs++[zT n])):=by
 simp only[D.cE];rw[A0z,ur bcs false n rfl];constructor
 ·simp[cC,D.cells]
 ·rw[ur bcs false n rfl,A0C];intro d hd;obtain⟨x,hx,hd⟩:=D0K.1 hd;obtain⟨_,_,rfl⟩:=A0F.1 hx;simp[bcs] at hd;rw[hd];rfl
theorem aay (h2:env[2]? = some (.st bs))(h7:env[7]? = some (.bk (List.replicate n K0.d))):xP6.eval env=some (.st (bs++[zP n])):=VA h2 h7 agj
theorem aax (h2:env[2]? = some (.st bs))(h7:env[7]? = some (.bk (List.replicate n K0.d)))(RP:env[14]? = some (.bk (List.replicate n (B false)))):xT1.eval env=some (.st (bs++[zP n]++[zT n])):=VA (aay h2 h7) RP agi
theorem aaz (h2:env[2]? = some (.st bs))(h7:env[7]? = some (.bk (List.replicate n K0.d))):(E.cR (.sym 2) (.sym 7)).eval env=some (.sl bs.length 0 n):=Pb h2 h7 (by simp[D.cR])
theorem aiR (h2:env[2]? = some (.st bs))(h7:env[7]? = some (.bk (List.replicate n K0.d)))(RP:env[14]? = some (.bk (List.replicate n (B false)))):(E.cR xP6 (.sym 14)).eval env=some (.sl (bs.length+1) 0 n):=Pb (aay h2 h7) RP (by simp[D.cR])
theorem aiS (h2:env[2]? = some (.st bs))(h7:env[7]? = some (.bk (List.replicate n K0.d)))(RP:env[14]? = some (.bk (List.replicate n (B false)))):(E.aJ xT1).eval env=some (.loc (bs.length+2) 0):=YR (aax h2 h7 RP) (by simp[D.aJ])
theorem QX (h2:env[2]? = some (.st bs))(h7:env[7]? = some (.bk (List.replicate n K0.d)))(RP:env[14]? = some (.bk (List.replicate n (B false)))):(E.cw (.cons (.aJ xT1) .nil)).eval env=some (.ptr [.loc (bs.length+2) 0]):=YQ (DA (aiS h2 h7 RP) rfl rfl) rfl
theorem Vz (h2:env[2]? = some (.st bs))(h7:env[7]? = some (.bk (List.replicate n K0.d)))(RP:env[14]? = some (.bk (List.replicate n (B false))))(zl:env[10]? = some (In n)):xK4.eval env=some (.st (kR bs n (fun _=>K0) (-1) n (fun _=>false) [])):=
 adm (aax h2 h7 RP) (DA (aaz h2 h7) (DA rfl (DA zl (DA (aiR h2 h7 RP) rfl rfl) rfl) rfl) rfl) (by simp[D.fO,D.cells,kR,D.one])
end
def Ez (i:Nat)(q:Nat):Kn:=if q<i then K1 else K0
theorem Qn (i:Nat):cm (Ez i) i K1=Ez (i+1):=by
 funext q
 unfold cm Ez
 by_cases h:q=i
 ·rw[A0z h,A0z (by omega)]
 ·rw[A0B h]
  by_cases h2:q<i
  ·rw[A0z h2,A0z (by omega)]
  ·rw[A0B h2,A0B (by omega)]
def we (ss:List Src)(rs:List aF):List D:=rs.flatMap fun r=>[.blk 224 7 r.cs,.blk 108 2 (gw ss r).cs]
def kF (bs:List D)(n:Nat)(ss:List Src)(rs:List aF):List D:=kR bs n (gR ss rs) (ym rs) (iC n rs) (fw ss rs) (we ss rs)
theorem pE {env:List D}{a:Bool}{k:Nat}{x y:E}{dx dy d:D}(hx:x.eval env=some dx)(hy:y.eval env=some dy)(h:D.ld a k dx dy=some d):(E.ld a k x y).eval env=some d:=by simp only[E.eval,hx,hy,A0d,h]
theorem TK {bs:List D}{n:Nat}{g:Nat→Kn}{ps out:Int}{tr:Nat→Bool}{jk:List D}(hb:aN bs=true)(hj:aN jk=true):aN (kR bs n g ps out tr jk)=true:=by
 have h1:aN (((List.range n).map g).flatMap Kn.cs)=true:=lQ fun x _=>by simp[Kn.cs,aN,D.bZ]
 have h2:aN (((List.range n).map tr).flatMap bcs)=true:=lQ fun x _=>by simp[bcs,aN,D.bZ]
 simp[kR,bT,hb,aN,D.bZ,h1,h2,hj]
theorem TN (ss:List Src)(rs:List aF):aN (we ss rs)=true:=lQ fun r _=>by simp[aN,D.bZ,aF.cs,Src.cs]
theorem pY.keep {bs bs':List D}{v j:Nat}{W:List aF}{s:D}{idx:List Nat}(h:pY bs v j W s idx)(hk:∀i,i<bs.length→bs'[i]? = bs[i]?):pY bs' v j W s idx where
 blk:=by rw[hk _ (A0c.1 h.blk).1];exact h.blk
 sl:=h.sl.keep fun i hi=>hk i (h.sl.lt hi)
 lt:=h.lt
theorem mD.keep {bs bs':List D}{j m:Nat}{f:wk}{ss:List Src}{kv:List (aF×Int)}(h:mD bs j m f ss kv)(hk:∀i,i<bs.length→bs'[i]? = bs[i]?):mD bs' j m f ss kv where
 blk:=by rw[hk _ (A0c.1 h.blk).1];exact h.blk
 map:=by rw[hk _ (A0c.1 h.map).1];exact h.map
theorem change {bs:List D}{n:Nat}{least:List Int}{ss:List Src}{rs:List aF}{r:aF}(F:Rt n least ss)(hr:Wj n ss r) :
  ∃g cs,D.m4 (.iJ 4 1) (.ptr [.v .nilFunc,.fn 123 [] [],.fn 124 [] [],.fn 125 [] []]) (I r.kind) (.agg []) (.agg [])=some (.ptr (.fn g [] [] :: cs))∧bL Tryz.prog g=true ∧
   aZ Tryz.prog g (.st (kF bs n ss rs++[.blk 224 7 r.cs]++[.blk 108 2 (gw ss r).cs])) [.loc (bs.length+2) 0,r.d,I (gw ss r).error,I (gw ss r).kind] (.a_ []) (.st (kF bs n ss (rs++[r]))):=by
 have hX:kF bs n ss rs++[.blk 224 7 r.cs]++[.blk 108 2 (gw ss r).cs]=kR bs n (gR ss rs) (ym rs) (iC n rs) (fw ss rs) (we ss (rs++[r])):=by simp[kF,kR,we]
 rw[hX];have hp:r.place=((r.place.toNat:Nat):Int):=by have:=hr.place;omega
 have hpn:r.place.toNat<n:=by have:=hr.place;omega
 have he:=hr.err F;rcases hr.kind with hk | hk | hk
 ·refine⟨123,_,by rw[hk];rfl,by kernel_rfl,?_⟩;have h:=aqK (bs:=bs) (n:=n) (g:=gR ss rs) (ps:=ym rs) (out:=iC n rs) (tr:=fw ss rs) (jk:=we ss (rs++[r])) hp hpn (kd:=(gw ss r).kind) hr.time he;rw[YC hp hk,LD hp hk] at h;unfold kF;rw[Cb,vp,A0z (.inl hk),A0B (by omega)];exact h
 ·refine⟨124,_,by rw[hk];rfl,by kernel_rfl,?_⟩;have h:=aqJ (bs:=bs) (n:=n) (g:=gR ss rs) (ps:=ym rs) (out:=iC n rs) (tr:=fw ss rs) (jk:=we ss (rs++[r])) hp hpn (kd:=(gw ss r).kind) hr.time he;rw[acZ hp hk] at h;unfold kF;rw[Cb,vp,A0B (by omega),A0B (by omega),←EU (by omega:r.kind≠1)];exact h
 ·refine⟨125,_,by rw[hk];rfl,by kernel_rfl,?_⟩;have h:=aqI (bs:=bs) (n:=n) (g:=gR ss rs) (ps:=ym rs) (out:=iC n rs) (tr:=fw ss rs) (jk:=we ss (rs++[r])) r (gw ss r).error (gw ss r).kind;unfold kF;rw[Cb,vp,A0z (.inr hk),A0z hk,←acY hk,←EU (by omega:r.kind≠1)];exact h
theorem OE {bs:List D}{n:Nat}{ss:List Src}{rs:List aF}(hb:aN bs=true):aN (kF bs n ss rs)=true:=TK hb (TN ss _)
theorem BU:∀ss:List Src,D.fq (ss.map Src.d) (ss.map Src.d)=true
 | []=>rfl
 | s :: r=>by simp[D.fq,BU r,Src.d,Src.cs,D.same,Value.same]
theorem PJ (ss:List Src):D.same (.bk (ss.map Src.d)) (.bk (ss.map Src.d))=true:=by simp only[D.same,BU]
theorem Oz (ss:List Src):∀rs:List aF,(we ss rs).length=2*rs.length
 | []=>rfl
 | r :: rs=>by have:=Oz ss rs;unfold we at this ⊢;simp only[B0r,A0u,this,B0a,B0C];omega
theorem P7 {d:D}(hd:d.bZ=true)(n:Nat):(D.bk (List.replicate n d)).bZ=true:=by simp only[D.bZ];exact nK fun x hx=>by rw[C0v hx];exact hd
theorem adk {ss:List Src}{r:aF}(h:0≤r.source∧r.source<ss.length):D.ax 2 (.bk (ss.map Src.d)) (I r.source)=some (.ptr (gw ss r).cs):=by
 have e1:r.source=((r.source.toNat:Nat):Int):=by omega
 have hlt:r.source.toNat<ss.length:=by omega
 have hg:ss[r.source.toNat]? = some (gw ss r):=by unfold gw;simp[hlt]
 have:=nO (enc:=Src.d) (sz:=2) hg rfl;rw[←e1] at this;exact this
section
variable {n:Nat} {least:List Int} {ss:List Src} {rs:List aF}
def Ou (ss:List Src)(least:List Int)(rs:List aF)(i q:Nat):Kn:=⟨if q≤i then lF least (iX ss rs) q else iX ss rs q,fF ss rs q,false,false,false,false⟩
theorem Tr:gR ss rs=Ou ss least rs 0:=by
 funext q
 unfold gR Ou;split
 ·rename_i h;have:q=0:=by omega
  subst this;rfl
 ·rfl
theorem Ts (i:Nat):cm (Ou ss least rs i) (i+1) ⟨lF least (iX ss rs) (i+1),fF ss rs (i+1),false,false,false,false⟩=Ou ss least rs (i+1):=by
 funext q
 unfold cm Ou
 by_cases h:q=i+1
 ·subst h;simp
 ·rw[A0B h]
  by_cases h2:q≤i
  ·rw[A0z h2,A0z (by omega)]
  ·rw[A0B h2,A0B (by omega)]
def MU (ss:List Src)(least:List Int)(n:Nat)(rs:List aF)(d q:Nat):Kn:=⟨lF least (iX ss rs) q,if n-1-q≤d then iN least (fF ss rs) (n-1) (n-1-q) else fF ss rs q,false,false,false,false⟩
theorem UK {q:Nat}(h:q<n):Ou ss least rs (n-1) q=MU ss least n rs 0 q:=by
 unfold Ou MU;rw[A0z (by omega)];split
 ·rename_i h2;have:q=n-1:=by omega
  subst this;simp[iN]
 ·rfl
theorem UL {d i:Nat}(zj:d<n-1)(hi:i+1<n)(hd:i=n-1-(d+1)){q:Nat}(hq:q<n):cm (MU ss least n rs d) i ⟨lF least (iX ss rs) i,iN least (fF ss rs) (n-1) (d+1),false,false,false,false⟩ q=MU ss least n rs (d+1) q:=by
 unfold cm MU
 by_cases h:q=i
 ·subst h;rw[A0z rfl,A0z (by omega),show n-1-q=d+1 by omega]
 ·rw[A0B h]
  by_cases h2:n-1-q≤d
  ·rw[A0z h2,A0z (by omega)]
  ·rw[A0B h2,A0B (by omega)]
def Hz (ss:List Src)(least:List Int)(n:Nat)(rs:List aF)(i q:Nat):Kn:=if q<i then xw ss least n rs q else MU ss least n rs (n-1) q
theorem ac5 (i:Nat):Hz ss least n rs i i=⟨lF least (iX ss rs) i,iN least (fF ss rs) (n-1) (n-1-i),false,false,false,false⟩:=by unfold Hz MU;rw[A0B (by omega),A0z (by omega)]
theorem Vl (i:Nat):cm (Hz ss least n rs i) i (xw ss least n rs i)=Hz ss least n rs (i+1):=by
 funext q
 unfold cm Hz
 by_cases h:q=i
 ·subst h;rw[A0z rfl,A0z (by omega)]
 ·rw[A0B h]
  by_cases h2:q<i
  ·rw[A0z h2,A0z (by omega)]
  ·rw[A0B h2,A0B (by omega)]
theorem ahb (i:Nat):xw ss least n rs i=⟨lF least (iX ss rs) i,iN least (fF ss rs) (n-1) (n-1-i),decide ((i:Int)≤ym rs),((i:Int)==iC n rs),
  (decide ((i:Int)≤ym rs)&&!fw ss rs i)||(decide (lF least (iX ss rs) i > iN least (fF ss rs) (n-1) (n-1-i))||(decide ((i:Int)≤ym rs)&&decide (iC n rs<(i:Int)))),
  decide (lF least (iX ss rs) i > iN least (fF ss rs) (n-1) (n-1-i))||(decide ((i:Int)≤ym rs)&&decide (iC n rs<(i:Int)))⟩:=by
 unfold xw;simp only[P3,Kn.mk.injEq,E0m];refine⟨?_,trivial⟩;cases h:(i:Int)==iC n rs with
 | true=>simp at h;simp[h]
 | false=>simp at h;simp[h]
end
theorem c63 {bs:List D}{j m v n:Nat}{f:wk}{ss:List Src}{kv:List (aF×Int)}{W:List aF}{s:D}{t dV:Int}(hA:mD bs j m f ss kv)(F:Rt n f.least ss)(hn:f.places=(n:Int))(hV:pY bs v j W s (kB W t))(hWl:W.length≤1000000)(hr:∀r,r∈eY W t dV→Wj n ss r)(Ag:aN bs=true) :
  aZ Tryz.prog 63 (.st bs) [.loc v 0,I dV] (.sl bs.length 0 n) (.st (lW bs (bs.length+3+2*(rE W t dV).length) [(bs.length,.blk Zg 6 ((JA ss f.least n (eY W t dV)).flatMap Kn.cs))])):=by
 have Qz:=hA.blk;rw[hn] at Qz;have iL:=(A0c.1 hV.blk).1;have pT:=(A0c.1 Qz).1;have hnh:=F.hi;have Wz:=F.lo;have ED:D.rep 24 (In n) K0.d=some (.bk (List.replicate n K0.d)):=by simp only[D.rep,C0j];rw[A0z];refine⟨by omega,by omega,?_⟩;simp[maxLen];omega
 have Fz:D.rep 1 (In n) (B false)=some (.bk (List.replicate n (B false))):=by simp only[D.rep,C0j];rw[A0z];refine⟨by omega,by omega,?_⟩;simp[maxLen];omega
 refine am1.keep rfl _ _ ?_;unfold u63;simp only[aB,aI,A0i,A0j]
 repeat' (first|(apply bG;rfl)|(apply dS;rfl;rfl;(·first|exact aW hV.blk rfl|exact aW Qz rfl);simp only[au];rfl)|(apply Zo;rfl;(·first|exact ED|exact Fz);simp only[au];rfl)|(apply aU;(·first|exact pE (Vz rfl rfl rfl rfl) (QX rfl rfl rfl) rfl|exact pE (Vz rfl rfl rfl rfl) rfl (aW pR rfl));simp only[au];rfl)|(apply aU;rfl;simp only[au];rfl)|refine aO ?_)
 refine ew (fun i=>[In i,.st (kR bs n (Ez i) (-1) n (fun _=>false) [])]) (fun _=>True) n (YI rfl (YI (Vz rfl rfl rfl rfl) rfl)) (fun _=>rfl) trivial (fun i hi _ R hR=>?_) (fun _ R=>?_)
 ·have gA:decide ((i:Int)<(n:Int))=true:=by simp;omega
  have hi0:Ez i i=K0:=by simp[Ez]
  have sr:=kZ (bs:=bs) (n:=n) (p:=i) (g:=Ez i) (ps:=-1) (out:=n) (tr:=fun _=>false) (jk:=[]) (k:=0) (x':={ K0 with low:=-10000000000000 }) hi (by omega) (d:=I (-10000000000000)) rfl (by rw[hi0];rfl);have oH:=kZ (bs:=bs) (n:=n) (p:=i) (g:=cm (Ez i) i { K0 with low:=-10000000000000 }) (ps:=-1) (out:=n) (tr:=fun _=>false) (jk:=[]) (k:=1) (x':=K1) hi (by omega) (d:=I 10000000000000) rfl (by rw[pL];rfl);rw[wq,Qn] at oH
  repeat' (first|(apply dX;simp only[au];rfl)|(apply bF;rfl;exact gA)|(apply bG;rfl)|(apply dS;rfl;rfl;exact aW pR rfl;simp only[au];rfl)|(apply bH;rfl;rfl;exact fA hi;simp only[au];rfl)|(apply je;rfl;rfl;rfl;(·first|exact sr|exact oH);simp only[au];rfl)|(apply eo;rfl;omega;simp only[au];rfl)|(apply aU;(·exact pE rfl (QX rfl rfl rfl) rfl);simp only[au];rfl)|(apply aU;rfl;simp only[au];rfl)|refine aO ?_|(apply aL;rfl;rfl)|refine aC ?_|refine kj rfl ?_)
  exact hR trivial
 ·have gA:decide ((n:Int)<(n:Int))=false:=by simp
  repeat' (first|(apply dX;simp only[au];rfl)|(apply bf;rfl;exact gA)|(apply aU;rfl;simp only[au];rfl)|(apply bC;rfl;rfl;exact aqH _ _;rfl;simp only[au];rfl)|refine aO ?_|(apply aL;rfl;rfl)|refine aC ?_|(refine aT (by decide) ?_)|refine kj rfl ?_)
  have aon:kR bs n (Ez n) (-1) n (fun _=>false) []=kF bs n ss []:=ud (fun q hq=>by simp[Ez,hq,gR,K1,iX,fF]) (fun q _=>by simp[fw]);have ahO:=T6 W t dV;have dU:(eY W t dV).length=(rE W t dV).length:=by rw[←ahO];simp
  refine Gc (.a_ []) (.st (kF bs n ss (eY W t dV))) rfl (by kernel_rfl) rfl ?_ ?_ (fun eH m0 rec vB=>?_) (by simp only[au];rfl) ?_
  ·repeat' (first|exact HC|((apply Dx);(·first|exact QX rfl rfl rfl|exact aiS rfl rfl rfl|exact aiR rfl rfl rfl|exact aaz rfl rfl|rfl);(·first|rfl|exact P7 rfl _|(simp[aN,D.bZ,D.cells]))))
  ·simpa[D.bZ] using OE (n:=n) (ss:=ss) (rs:=eY W t dV) Ag
  ·rw[aon];have hV':∀k,pY (kF bs n ss ((eY W t dV).take k)) v j W s (kB W t):=fun k=>hV.keep fun i hi=>xu hi;have h95:=aju (m0:=m0) (rec:=rec) (eH:=eH) (dV:=dV) (sl:=[0,1,2,5,7,16,17,18,19,20,21,22,23,24,25,26,27,28,29,30,31,32,33,34,35,36,37,38,39,40,41,43,44,45,46,47,48,49,50,68,69,70]) (fun k=>kF bs n ss ((eY W t dV).take k)) (fun k _=>hV' k) hWl (fun k hk=>?_)
   ·rw[D0E,←dU,C0d] at h95;exact h95
   ·have Ef:k<(eY W t dV).length:=by omega
    obtain⟨r,RA⟩:∃r,r=(eY W t dV)[k]:=⟨_,rfl⟩;have hrW:qB W (rE W t dV)[k]=r:=by rw[RA];simp only[←ahO,E0s]
    have xD:=hr r (by rw[RA];exact A0T Ef);rw[hrW];have htk:(eY W t dV).take (k+1)=(eY W t dV).take k++[r]:=by rw[A0O Ef,RA]
    obtain⟨yS,kf⟩:∃yS,yS=(eY W t dV).take k:=⟨_,rfl⟩;have hVk:=hV' k;rw[htk,←kf];rw[←kf] at hVk;obtain⟨g,cs,hg1,hg2,hg3⟩:=change (bs:=bs) (rs:=yS) F xD;refine vB _ _ _ (by simpa[D.bZ] using OE Ag) (by simp[aN,D.bZ,B7]) rfl ?_;have hLk:mD (kF bs n ss yS) j m f ss kv:=hA.keep fun i hi=>xu hi;have HZ:bs.length+3≤(kF bs n ss yS).length:=by unfold kF;rw[Oy];omega
    obtain⟨X1,Al⟩:∃X1,X1=kF bs n ss yS++[.blk 224 7 r.cs]:=⟨_,rfl⟩;obtain⟨X2,O2⟩:∃X2,X2=X1++[.blk 108 2 (gw ss r).cs]:=⟨_,rfl⟩;have JS:∀i,i<(kF bs n ss yS).length→X1[i]? = (kF bs n ss yS)[i]?:=fun i hi=>by rw[Al,A0g hi]
    have aaa:∀i,i<(kF bs n ss yS).length→X2[i]? = (kF bs n ss yS)[i]?:=fun i hi=>by rw[O2,A0g (by rw[Al];simp;omega),JS i hi]
    have hV1:=hVk.keep JS;have hV2:=hVk.keep aaa;have hL1:=hLk.keep JS;have hL2:=hLk.keep aaa;have Un:X1[(kF bs n ss yS).length]? = some (.blk 224 7 r.cs):=by rw[Al];simp
    have ahA:X2[(kF bs n ss yS).length]? = some (.blk 224 7 r.cs):=by rw[O2,A0g (by rw[Al];simp),Un]
    have hsr:X2[X1.length]? = some (.blk 108 2 (gw ss r).cs):=by rw[O2];simp
    have kS:=adk xD.src;have HX:D.ld true 7 (.st X2) (.loc (kF bs n ss yS).length 0)=some (.agg ((r.cs.drop 0).take 7)):=Ow ahA (by simp[aF.cs]);have hss:D.same (.agg (List.take 2 (gw ss r).cs)) (.agg (List.take 2 (gw ss r).cs))=true:=by simp[Src.cs,D.same,D.fq,Value.same]
    have w1:D.ld false 1 (.st X1) (.loc v 0)=some (.loc j 0):=aW hV1.blk rfl;have w2:∀x,D.ld false 1 (.st (X1++[x])) (.loc v 0)=some (.loc j 0):=fun x=>aW (by rw[A0g (A0c.1 hV1.blk).1];exact hV1.blk) rfl;have w3:D.ld false 1 (.st X1) (.loc j 3)=some (.bk (ss.map Src.d)):=aW hL1.blk rfl;have w4:∀x,D.ld false 1 (.st (X1++[x])) (.loc j 3)=some (.bk (ss.map Src.d)):=fun x=>aW (by rw[A0g (A0c.1 hL1.blk).1];exact hL1.blk) rfl;have w5:D.ld false 1 (.st X1) (.loc (kF bs n ss yS).length 0)=some (I r.source):=aW Un rfl;have w6:∀x,D.ld false 1 (.st (X1++[x])) (.loc (kF bs n ss yS).length 0)=some (I r.source):=fun x=>aW (by rw[A0g (A0c.1 Un).1];exact Un) rfl;subst O2 Al
    repeat' (first|(apply dX;simp only[au];rfl)|(apply BG;rfl;rfl;rfl;(·exact⟨hg2,hg3⟩);rfl;simp only[au];rfl)|(apply bG;rfl)|(apply Gb;(·first|exact pE rfl rfl rfl|exact pE rfl rfl w1|exact pE rfl rfl w3|exact pE rfl rfl w5);(·first|exact pE rfl rfl rfl|exact pE rfl rfl (w2 _)|exact pE rfl rfl (w4 _)|exact pE rfl rfl (w6 _));(·first|(simp[D.same,Value.same];done)|exact hss|exact PJ ss);simp only[au];rfl)|(apply dS;rfl;rfl;(·first|exact aW hV1.blk rfl|exact aW hL1.blk rfl|exact aW Un rfl|exact aW ahA rfl|exact aW hsr rfl|exact HX);simp only[au];rfl)|(apply bH;rfl;rfl;exact kS;simp only[au];rfl)|(apply je;rfl;rfl;rfl;exact Gf rfl rfl rfl;simp only[au];rfl)|(apply kT;rfl;rfl;rfl;rfl;exact hg1;simp only[au];rfl)|(apply aU;(·exact pE rfl (QX rfl rfl rfl) rfl);simp only[au];rfl)|(apply aU;rfl;simp only[au];rfl)|refine aO ?_|(apply aL;rfl;rfl)|refine aC ?_|refine kj rfl ?_)
    rfl
  ·obtain⟨rs,kf⟩:∃rs,rs=eY W t dV:=⟨_,rfl⟩;rw[←kf];rw[←kf] at hr dU;rw[show kF bs n ss rs=kR bs n (gR ss rs) (ym rs) (iC n rs) (fw ss rs) (we ss rs) from rfl,Tr (least:=f.least)];have MQ:∀g,(kR bs n g (ym rs) (iC n rs) (fw ss rs) (we ss rs))[j]? = some (.blk 150 5 [I f.iV,I n,Is f.least,.bk (ss.map Src.d),.mp m]):=fun g=>by rw[xu pT];exact Qz
   have hvk:∀g,(kR bs n g (ym rs) (iC n rs) (fw ss rs) (we ss rs))[v]? = some (.blk 220 3 [.loc j 0,.bk (W.map aF.d),s]):=fun g=>by rw[xu iL];exact hV.blk
   have qE:∀{i:Nat},i<n-1→D.ax 1 (Is f.least) (In i)=some (.ptr [I (f.least.getD i 0)]):=fun {i} hi=>by
    have hl:i<f.least.length:=by rw[F.len];exact hi
    have hg:f.least[i]? = some (f.least.getD i 0):=by simp[hl]
    exact nO (enc:=I) hg rfl
   repeat' (first|(apply dX;simp only[au];rfl)|(apply bG;rfl)|(apply dS;rfl;rfl;exact aW pR rfl;simp only[au];rfl)|(apply aU;(·exact pE rfl (QX rfl rfl rfl) rfl);simp only[au];rfl)|refine aO ?_|(apply aL;rfl;rfl)|refine aC ?_|refine kj rfl ?_)
   refine ew (fun i=>[In (i+1),.st (kR bs n (Ou ss f.least rs i) (ym rs) (iC n rs) (fw ss rs) (we ss rs))]) (fun _=>True) (n-1) rfl (fun _=>rfl) trivial (fun i hi _ R hR=>?_) (fun _ R=>?_)
   ·have gA:decide (((i+1:Nat):Int)<(n:Int))=true:=by simp;omega
    have b1:=XI F hr (p:=i) (by omega);have b2:=CK F i;have hla:D.ld false 1 (.st (kR bs n (Ou ss f.least rs i) (ym rs) (iC n rs) (fw ss rs) (we ss rs))) (.loc bs.length ((i+1)*6+0))=some (I (iX ss rs (i+1))):=mH (by omega) (by simp[Ou,Kn.cs,show¬i+1≤i by omega]);have hlb:D.ld false 1 (.st (kR bs n (Ou ss f.least rs i) (ym rs) (iC n rs) (fw ss rs) (we ss rs))) (.loc bs.length (i*6+0))=some (I (lF f.least (iX ss rs) i)):=mH (by omega) (by simp[Ou,Kn.cs]);have hs:=kZ (bs:=bs) (n:=n) (p:=i+1) (g:=Ou ss f.least rs i) (ps:=ym rs) (out:=iC n rs) (tr:=fw ss rs) (jk:=we ss rs) (k:=0) (x':=⟨lF f.least (iX ss rs) (i+1),fF ss rs (i+1),false,false,false,false⟩) (by omega) (by omega) (d:=I (lF f.least (iX ss rs) (i+1))) rfl (by simp[Ou,Kn.cs,show¬i+1≤i by omega]);rw[Ts] at hs;have JQ:D.mm true (I (iX ss rs (i+1))) (I (lF f.least (iX ss rs) i+f.least.getD i 0))=some (I (lF f.least (iX ss rs) (i+1))):=Cs _ _;have FE:D.ax 6 (.sl bs.length 0 n) (In (i+1))=some (.loc bs.length ((i+1)*6)):=fA (by omega);have yu:D.ax 6 (.sl bs.length 0 n) (In i)=some (.loc bs.length (i*6)):=fA (by omega);have hei:=qE hi
    repeat' (first|(apply dX;simp only[au];rfl)|(apply bF;rfl;exact gA)|(apply bG;rfl)|(apply dS;rfl;rfl;(·first|exact aW (hvk _) rfl|exact aW (MQ _) rfl|exact hla|exact hlb);simp only[au];rfl)|(apply bH;rfl;rfl;(·first|exact FE|exact yu|exact hei);simp only[au];rfl)|(apply je;rfl;rfl;rfl;exact hs;simp only[au];rfl)|(apply yB;rfl;rfl;exact JQ;simp only[au];rfl)|(apply eo;rfl;omega;simp only[au];rfl)|(apply ku;rfl;omega;simp only[au];rfl)|(apply jf;rfl;rfl;omega;simp only[au];rfl)|(apply aU;rfl;simp only[au];rfl)|refine aO ?_|(apply aL;rfl;rfl)|refine aC ?_|refine kj rfl ?_)
    exact hR trivial
   ·have gA:decide (((n-1+1:Nat):Int)<(n:Int))=false:=by simp;omega
    rw[ud (fun q hq=>UK (ss:=ss) (least:=f.least) (rs:=rs) hq) (fun _ _=>rfl)]
    repeat' (first|(apply dX;simp only[au];rfl)|(apply bf;rfl;exact gA)|(apply bG;rfl)|(apply dS;rfl;rfl;(·first|exact aW (hvk _) rfl|exact aW (MQ _) rfl);simp only[au];rfl)|(apply fP;rfl;rfl;omega;simp only[au];rfl)|(apply aU;rfl;simp only[au];rfl)|refine aO ?_|(apply aL;rfl;rfl)|refine aC ?_|(refine aT (by decide) ?_)|refine kj rfl ?_)
    refine ew (fun d=>[I ((n:Int)-2-d),.st (kR bs n (MU ss f.least n rs d) (ym rs) (iC n rs) (fw ss rs) (we ss rs))]) (fun _=>True) (n-1) (by simp[aA,E.eval]) (fun _=>rfl) trivial (fun d hd _ R hR=>?_) (fun _ R=>?_)
    ·obtain⟨i,hi⟩:∃i,i=n-1-(d+1):=⟨_,rfl⟩;have e1:(n:Int)-2-(d:Int)=(i:Int):=by omega
     have e2:(n:Int)-2-((d+1:Nat):Int)=(i:Int)-1:=by omega
     simp only[e2] at hR;simp only[e1];have nh:i+1<n:=by omega
     have gA:decide ((i:Int)≥0)=true:=by simp
     have b1:=UH F hr (d:=d) (by omega);have b2:=CK F i;have hla:D.ld false 1 (.st (kR bs n (MU ss f.least n rs d) (ym rs) (iC n rs) (fw ss rs) (we ss rs))) (.loc bs.length (i*6+1))=some (I (fF ss rs i)):=mH (by omega) (by simp[MU,Kn.cs];omega);have hlb:D.ld false 1 (.st (kR bs n (MU ss f.least n rs d) (ym rs) (iC n rs) (fw ss rs) (we ss rs))) (.loc bs.length ((i+1)*6+1))=some (I (iN f.least (fF ss rs) (n-1) d)):=mH (by omega) (by
      have:n-1-(i+1)=d:=by omega
      simp[MU,Kn.cs,this])
     have hs:=kZ (bs:=bs) (n:=n) (p:=i) (g:=MU ss f.least n rs d) (ps:=ym rs) (out:=iC n rs) (tr:=fw ss rs) (jk:=we ss rs) (k:=1) (x':=⟨lF f.least (iX ss rs) i,iN f.least (fF ss rs) (n-1) (d+1),false,false,false,false⟩) (by omega) (by omega) (d:=I (iN f.least (fF ss rs) (n-1) (d+1))) rfl (by simp[MU,Kn.cs]);rw[ud (fun q hq=>UL (ss:=ss) (least:=f.least) (rs:=rs) hd nh hi hq) (fun _ _=>rfl)] at hs;have JQ:D.mm false (I (fF ss rs i)) (I (iN f.least (fF ss rs) (n-1) d-f.least.getD i 0))=some (I (iN f.least (fF ss rs) (n-1) (d+1))):=by rw[hi];exact GH _ _
     have FE:D.ax 6 (.sl bs.length 0 n) (In (i+1))=some (.loc bs.length ((i+1)*6)):=fA (by omega);have yu:D.ax 6 (.sl bs.length 0 n) (In i)=some (.loc bs.length (i*6)):=fA (by omega);have hei:=qE (i:=i) (by omega)
     repeat' (first|(apply dX;simp only[au];rfl)|(apply bF;rfl;exact gA)|(apply bG;rfl)|(apply dS;rfl;rfl;(·first|exact aW (hvk _) rfl|exact aW (MQ _) rfl|exact hla|exact hlb);simp only[au];rfl)|(apply bH;rfl;rfl;(·first|exact FE|exact yu|exact hei);simp only[au];rfl)|(apply je;rfl;rfl;rfl;exact hs;simp only[au];rfl)|(apply yB;rfl;rfl;exact JQ;simp only[au];rfl)|(apply eo;rfl;omega;simp only[au];rfl)|(apply fP;rfl;rfl;omega;simp only[au];rfl)|(apply aU;rfl;simp only[au];rfl)|refine aO ?_|(apply aL;rfl;rfl)|refine aC ?_|refine kj rfl ?_)
     exact hR trivial
    ·have gA:decide ((n:Int)-2-((n-1:Nat):Int)≥0)=false:=by simp;omega
     rw[ud (g:=MU ss f.least n rs (n-1)) (g':=Hz ss f.least n rs 0) (fun q hq=>by simp[Hz]) (fun _ _=>rfl)]
     repeat' (first|(apply dX;simp only[au];rfl)|(apply bf;rfl;exact gA)|(apply aU;rfl;simp only[au];rfl)|refine aO ?_|(apply aL;rfl;rfl)|refine aC ?_|(refine aT (by decide) ?_)|refine kj rfl ?_)
     refine ew (fun i=>[In i,.st (kR bs n (Hz ss f.least n rs i) (ym rs) (iC n rs) (fw ss rs) (we ss rs))]) (fun _=>True) n rfl (fun _=>rfl) trivial (fun i hi _ R hR=>?_) (fun _ R=>?_)
     ·have gA:decide ((i:Int)<(n:Int))=true:=by simp;omega
      have ZV:=ac5 (ss:=ss) (least:=f.least) (n:=n) (rs:=rs) i;have MR:=ahb (ss:=ss) (least:=f.least) (n:=n) (rs:=rs) i;obtain⟨lo,su⟩:∃lo,lo=lF f.least (iX ss rs) i:=⟨_,rfl⟩;obtain⟨hg,hhg⟩:∃hg,hg=iN f.least (fF ss rs) (n-1) (n-1-i):=⟨_,rfl⟩;obtain⟨PS,hPS⟩:∃PS,PS=ym rs:=⟨_,rfl⟩;obtain⟨yx,aoO⟩:∃yx,yx=iC n rs:=⟨_,rfl⟩;obtain⟨TR,hTR⟩:∃TR,TR=fw ss rs:=⟨_,rfl⟩;have hst:=Vl (ss:=ss) (least:=f.least) (n:=n) (rs:=rs) i;rw[←su,←hhg] at ZV MR;simp only[←hPS,←aoO,←hTR] at hR MR ⊢;have sr:=kZ (bs:=bs) (n:=n) (p:=i) (g:=Hz ss f.least n rs i) (ps:=PS) (out:=yx) (tr:=TR) (jk:=we ss rs) (k:=2) (x':=⟨lo,hg,decide ((i:Int)≤PS),false,false,false⟩) hi (by omega) (d:=B (decide ((i:Int)≤PS))) rfl (by rw[ZV];rfl);have oH:=kZ (bs:=bs) (n:=n) (p:=i) (g:=cm (Hz ss f.least n rs i) i ⟨lo,hg,decide ((i:Int)≤PS),false,false,false⟩) (ps:=PS) (out:=yx) (tr:=TR) (jk:=we ss rs) (k:=3) (x':=⟨lo,hg,decide ((i:Int)≤PS),(i:Int)==yx,false,false⟩) hi (by omega) (d:=B ((i:Int)==yx)) rfl (by rw[pL];rfl);rw[wq] at oH;have Bo:=kZ (bs:=bs) (n:=n) (p:=i) (g:=cm (Hz ss f.least n rs i) i ⟨lo,hg,decide ((i:Int)≤PS),(i:Int)==yx,false,false⟩) (ps:=PS) (out:=yx) (tr:=TR) (jk:=we ss rs) (k:=5) (x':=⟨lo,hg,decide ((i:Int)≤PS),(i:Int)==yx,false,decide (lo > hg)||(decide ((i:Int)≤PS)&&decide (yx<(i:Int)))⟩) hi (by omega) (d:=B (decide (lo > hg)||(decide ((i:Int)≤PS)&&decide (yx<(i:Int))))) rfl (by rw[pL];rfl);rw[wq] at Bo;have hs4:=kZ (bs:=bs) (n:=n) (p:=i) (g:=cm (Hz ss f.least n rs i) i ⟨lo,hg,decide ((i:Int)≤PS),(i:Int)==yx,false,decide (lo > hg)||(decide ((i:Int)≤PS)&&decide (yx<(i:Int)))⟩) (ps:=PS) (out:=yx) (tr:=TR) (jk:=we ss rs) (k:=4) (x':=xw ss f.least n rs i) hi (by omega) (d:=B ((decide ((i:Int)≤PS)&&!TR i)||(decide (lo > hg)||(decide ((i:Int)≤PS)&&decide (yx<(i:Int)))))) rfl (by rw[pL,MR];rfl);rw[wq,hst] at hs4;have QB:D.ld false 1 (.st (kR bs n (cm (Hz ss f.least n rs i) i ⟨lo,hg,decide ((i:Int)≤PS),(i:Int)==yx,false,false⟩) PS yx TR (we ss rs))) (.loc bs.length (i*6+0))=some (I lo):=mH hi (by rw[pL];rfl);have WC:D.ld false 1 (.st (kR bs n (cm (Hz ss f.least n rs i) i ⟨lo,hg,decide ((i:Int)≤PS),(i:Int)==yx,false,false⟩) PS yx TR (we ss rs))) (.loc bs.length (i*6+1))=some (I hg):=mH hi (by rw[pL];rfl);have uf:D.ld false 1 (.st (kR bs n (cm (Hz ss f.least n rs i) i ⟨lo,hg,decide ((i:Int)≤PS),(i:Int)==yx,false,false⟩) PS yx TR (we ss rs))) (.loc bs.length (i*6+2))=some (B (decide ((i:Int)≤PS))):=mH hi (by rw[pL];rfl);have hl3:D.ld false 1 (.st (kR bs n (cm (Hz ss f.least n rs i) i ⟨lo,hg,decide ((i:Int)≤PS),(i:Int)==yx,false,decide (lo > hg)||(decide ((i:Int)≤PS)&&decide (yx<(i:Int)))⟩) PS yx TR (we ss rs))) (.loc bs.length (i*6+2))=some (B (decide ((i:Int)≤PS))):=mH hi (by rw[pL];rfl);have hl4:D.ld false 1 (.st (kR bs n (cm (Hz ss f.least n rs i) i ⟨lo,hg,decide ((i:Int)≤PS),(i:Int)==yx,false,decide (lo > hg)||(decide ((i:Int)≤PS)&&decide (yx<(i:Int)))⟩) PS yx TR (we ss rs))) (.loc bs.length (i*6+5))=some (B (decide (lo > hg)||(decide ((i:Int)≤PS)&&decide (yx<(i:Int))))):=mH hi (by rw[pL];rfl);have FE:D.ax 6 (.sl bs.length 0 n) (In i)=some (.loc bs.length (i*6)):=fA hi;have yu:D.ax 1 (.sl (bs.length+1) 0 n) (In i)=some (.loc (bs.length+1) (i*1)):=fA hi
      repeat' (first|(apply dX;simp only[au];rfl)|(apply bF;rfl;exact gA)|(apply bG;rfl)|(apply dS;rfl;rfl;(·first|exact aW pR rfl|exact QB|exact WC|exact uf|exact hl3|exact hl4|exact XS hi);simp only[au];rfl)|(apply bH;rfl;rfl;(·first|exact FE|exact yu);simp only[au];rfl)|(apply je;rfl;rfl;rfl;(·first|exact sr|exact oH|exact Bo|exact hs4);simp only[au];rfl)|(apply eo;rfl;omega;simp only[au];rfl)|(apply aU;(·exact pE rfl (QX rfl rfl rfl) rfl);simp only[au];rfl)|(apply aU;rfl;simp only[au];rfl)|(apply iP;rfl)|(apply fp;rfl)|refine aO ?_|(apply aL;rfl;rfl)|refine aC ?_|refine kj rfl ?_|exact aH rfl rfl|(intro hz;(try simp only[gq] at hz)))
      exact hR trivial
     ·have gA:decide ((n:Int)<(n:Int))=false:=by simp
      repeat' (first|(apply dX;simp only[au];rfl)|(apply bf;rfl;exact gA)|(apply aU;rfl;simp only[au];rfl)|(apply aL;rfl;rfl)|refine aC ?_|(refine aT (by decide) ?_)|refine kj rfl ?_)
      refine aH rfl ⟨_,rfl,?_,fun i hi=>xu hi,fun p hp=>?_⟩
      ·rw[Oy,←dU,Oz]
      ·rw[A0Y] at hp;subst hp;rw[MD];have:(List.range n).map (Hz ss f.least n rs n)=JA ss f.least n rs:=B0s fun q hq=>by
        have:q<n:=by simpa using hq
        simp[Hz,this]
       rw[this]
end
section
open Go.Proofs
set_option maxRecDepth 100000
set_option maxHeartbeats 4000000
attribute [local irreducible] fK
structure Grow (bs bs':List D):Prop where
 le:bs.length≤bs'.length
 old:∀i,i<bs.length→bs'[i]? = bs[i]?
 ny:aN bs=true→aN bs'=true
theorem Grow.refl (bs:List D):Grow bs bs:=⟨A0m _,fun _ _=>rfl,id⟩
theorem Grow.trans {a b c:List D}(h:Grow a b)(k:Grow b c):Grow a c:=⟨A0J h.le k.le,fun i hi=>by rw[k.old i (A0v hi h.le),h.old i hi],fun hn=>k.ny (h.ny hn)⟩
structure Lg (bs:List D)(j:Nat)(f:wk)(ss:List Src)(rs:List aF)(n:Nat):Prop where
 log:∃m,mD bs j m f ss (rs.foldl put [])
 len:(rs.foldl put []).length≤100000
 YF:Rt n f.least ss
 pl:f.places=(n:Int)
 iV:1≤f.iV∧f.iV≤200
 PE:ss.length≤50
 right:∀r,r∈rs→kW f ss r=true
 ny:aN bs=true
variable {bs:List D} {j n:Nat} {f:wk} {ss:List Src} {rs:List aF}
theorem Lg.keep {bs':List D}(h:Lg bs j f ss rs n)(hg:Grow bs bs'):Lg bs' j f ss rs n where
 log:=by obtain⟨m,hm⟩:=h.log;exact⟨m,hm.keep hg.old⟩
 len:=h.len
 YF:=h.YF
 pl:=h.pl
 iV:=h.iV
 PE:=h.PE
 right:=h.right
 ny:=hg.ny h.ny
theorem Lg.amG (h:Lg bs j f ss rs n):(ef rs).length≤100000:=by rw[Bi rfl];exact h.len
theorem IG {r:aF}(h:kW f ss r=true):(0≤r.source∧r.source<ss.length)∧(0≤r.number∧r.number≤1000000000)∧(0≤r.aX∧r.aX≤1000000000000)∧(0≤r.time∧r.time≤1000000000000) ∧
  ((r.kind=4∧0≤r.dV∧r.dV<r.number∧r.place=0)∨((r.kind=1∨r.kind=2∨r.kind=3)∧(1≤r.dV∧r.dV≤f.iV)∧0≤r.place∧r.place<f.places)):=by
 unfold kW fK at h;simp only[A0f,A0t] at h;obtain⟨h1,h2,h3,h4⟩:=h;refine⟨by omega,by omega,by omega,?_⟩;split at h4
 ·rename_i hk;simp only[A0f,A0t,B0K] at h4;exact⟨by omega,.inl ⟨hk,by omega,by omega,by omega⟩⟩
 ·simp only[A0f,A0t] at h4;obtain⟨h5,h6,h7⟩:=h4;split at h7
  ·rename_i hk;simp only[A0f,A0t] at h7;exact⟨by omega,.inr ⟨by omega,by omega,by omega,by omega⟩⟩
  ·split at h7
   ·rename_i hk;simp only[B0K] at h7;exact⟨by omega,.inr ⟨by omega,by omega,by omega,by omega⟩⟩
   ·cases h7
theorem Lg.rok (h:Lg bs j f ss rs n){t dV:Int}:∀r,r∈eY (ef rs) t dV→Wj n ss r:=fun r hr=>by obtain⟨h1,h2,h3,h4⟩:=Om.1 hr;have:=IG (h.right r ((GM r).1 h1).1);have hp:=h.pl;exact⟨this.1,by omega,by omega,by omega⟩
theorem aev (h:Lg bs j f ss rs n)(t:Int):∃bs' v s,aZ Tryz.prog 62 (.st bs) [.loc j 0,I t] (.loc v 0) (.st bs')∧Grow bs bs'∧pY bs' v j (ef rs) s (kB (ef rs) t)∧bs.length≤v∧∀b,s.Em=some b→bs.length≤b:=by obtain⟨m,hm⟩:=h.log;obtain⟨bs',v,s,h1,h2,h3,h4,h5,h6,h7⟩:=viewAt hm (by have:=h.len;omega) rfl h.ny t;exact⟨bs',v,s,h1,⟨h3,h4,fun _=>h6⟩,h5,h2,h7⟩
theorem abA (h:Lg bs j f ss rs n){v:Nat}{s:D}{t:Int}(hV:pY bs v j (ef rs) s (kB (ef rs) t))(dV:Int):∃bs',aZ Tryz.prog 63 (.st bs) [.loc v 0,I dV] (.bk ((JA ss f.least n (eY (ef rs) t dV)).map Kn.d)) (.st bs')∧Grow bs bs':=by
 obtain⟨m,hm⟩:=h.log;have h67:=c63 (dV:=dV) hm h.YF h.pl hV (by have:=h.amG;omega) h.rok h.ny;have HZ:(JA ss f.least n (eY (ef rs) t dV)).length=n:=by simp[JA]
 have hN:bs.length<bs.length+3+2*(rE (ef rs) t dV).length:=by omega
 refine⟨_,aZ.O6 (sz:=6) h67 (CT (A0m _) hN (by rw[E0w (by simp)])) ?_ (es:=(JA ss f.least n (eY (ef rs) t dV)).map Kn.d) (by simp[HZ]) (fun i x hx=>?_),?_,fun i hi=>?_,fun hn=>?_⟩
 ·rw[iO (enc:=Kn.cs) (sz:=6) (fun _=>rfl),HZ]
 ·rw[A0w] at hx;obtain⟨r,hr,rfl⟩:=A0a.1 hx;refine⟨rfl,fun q c hc=>?_⟩;obtain⟨t,ht⟩:=nM (enc:=Kn.cs) (sz:=6) (fun _=>rfl) hr;have rY:r.cs[q]? = some c:=hc;rw[←A0Z,ht,A0g (A0c.1 rY).1];exact rY
 ·rw[B0L,CU];omega
 ·rw[A0q (by omega),JD hi (by omega)]
 ·have h2:∀(l:List D) (k:Nat),aN l=true→aN (l.set k (.a_ []))=true:=by
   intro l
   induction l with
   | nil=>intro k _;rfl
   | cons a r ih=>
    intro k hk;simp only[aN,A0f] at hk;cases k with
    | zero=>simp[aN,hk.2,D.bZ]
    | succ k=>simp[aN,hk.1,ih k hk.2]
  refine h2 _ _ (Fu hn fun p hp=>?_);rw[A0Y] at hp;subst hp;have:aN ((JA ss f.least n (eY (ef rs) t dV)).flatMap Kn.cs)=true:=lQ fun x _=>by simp[Kn.cs,aN,D.bZ]
  simpa[D.bZ] using this
def YY (f:wk)(dV place t:Int):Bool:=fK dV 1 f.iV&&(fK place 0 (f.places-1)&&fK t 0 1000000000000)
theorem c61 (h:Lg bs j f ss rs n)(dV place t:Int):aQ Tryz.prog 61 (.st bs) [.loc j 0,I dV,I place,I t] (I (if YY f dV place t=true then 0 else 2)):=by
 obtain⟨m,hm⟩:=h.log;have hp:=h.pl;have hh:=h.YF.hi;refine am3.R rfl rfl ?_;unfold u61;simp only[aB,aI,A0i,A0j]
 repeat' (first|(apply dX;simp only[au];rfl)|(apply bf;rfl;exact rfl)|(apply bG;rfl)|(apply dS;rfl;rfl;exact aW hm.blk rfl;simp only[au];rfl)|(apply fP;rfl;rfl;omega;simp only[au];rfl)|(apply aU;rfl;simp only[au];rfl)|(apply bC;rfl;rfl;(·first|exact VZ hm|exact c97 _ _ _);rfl;simp only[au];rfl)|(apply iP;rfl)|(apply eN;rfl;all_goals (intro hz;(try simp only[gq] at hz);first|(exact absurd hz (by decide))|(exfalso;omega)|skip))|exact aH rfl rfl|(apply aH;rfl;first|exact rfl|(refine eX ?_)|(refine eV ?_)|(refine eW ?_))|(intro hz;(try simp only[gq] at hz)))
 ·unfold YY;rcases hz with(hz | hz) | hz <;> simp[hz]
 ·unfold YY;simp[hz]
end
section
open Go.Proofs
set_option maxRecDepth 100000
set_option maxHeartbeats 4000000
attribute [local irreducible] fK
variable {bs:List D} {j n v:Nat} {f:wk} {ss:List Src} {rs:List aF} {W:List aF}
theorem Y8 {out:List Int}{x:Int}(h:out.length≤1000):D.app 1 8 (Is out) (.bk [I x])=some (Is (out++[x])):=
 D2 (enc:=I) (by omega) (by simp[maxLen];omega) (fun _=>rfl)
theorem aaw {f:wk}{ss:List Src}{n:Nat}{l:List aF}{place:Int}(h:0≤place∧place<(n:Int)):D.ax 6 (.bk ((JA ss f.least n l).map Kn.d)) (I place)=some (.ptr (xw ss f.least n l place.toNat).cs):=by
 have e1:place=((place.toNat:Nat):Int):=by omega
 have hlt:place.toNat<n:=by omega
 have hg:(JA ss f.least n l)[place.toNat]? = some (xw ss f.least n l place.toNat):=by simp[JA,hlt]
 have:=nO (enc:=Kn.d) (sz:=6) hg rfl;rw[←e1] at this;exact this
theorem c65 (k:Kn):aQ Tryz.prog 65 (.st bs) [k.d] (B k.out):=by
 refine amZ.R rfl rfl ?_;unfold u65;simp only[aB,aI,A0i,A0j]
 repeat' (first|(apply bG;rfl)|exact aH rfl rfl)
theorem aqG {P:Kn→Bool}{f:Nat}{us cs:List D}{l:List Kn}(hL:l.length≤1000000000)(hc:bL Tryz.prog f=true)(hf:∀x,x∈l→aQ Tryz.prog f (.st bs) (us++[Kn.d x]++cs) (B (P x))):aQ Tryz.prog 127 (.st bs) [.bk (l.map Kn.d),.fn f us cs] (I (fi P l)):=by
 refine ag1.R rfl rfl ?_;unfold ae9;simp only[aB,aI,A0i,A0j]
 repeat' (first|(apply cM;rfl;exact bR;simp only[au];rfl)|refine aO ?_)
 refine ew (fun i=>[I i]) (fun i=>∀k (h:k<i) (h2:k<l.length),P l[k]=false) l.length rfl (fun _=>rfl) (fun k h=>absurd h (B0U _)) (fun i hi hJ R hR=>?_) (fun hJ R=>?_)
 ·have jY:=hf l[i] (A0T hi);have gA:decide ((i:Int)<(l.length:Int))=true:=by simp;omega
  cases hP:P l[i]
  ·rw[hP] at jY
   repeat' (first|(apply dX;simp only[au];rfl)|(apply bF;rfl;exact gA)|(apply bf;rfl;exact rfl)|(apply bH;rfl;rfl;exact c_ hi rfl;simp only[au];rfl)|(apply eo;rfl;omega;simp only[au];rfl)|(apply aU;rfl;simp only[au];rfl)|(apply kU;rfl;exact hc;rfl;rfl;exact jY;rfl;simp only[au];rfl)|refine aO ?_|(apply aL;rfl;rfl)|refine aC ?_|refine kj rfl ?_)
   refine hR fun k hk h2=>?_;rcases A0U k i with h3 | h3
   ·exact hJ k h3 h2
   ·have e:k=i:=by omega
    subst e;exact hP
  ·rw[hP] at jY
   repeat' (first|(apply dX;simp only[au];rfl)|(apply bF;rfl;(·first|exact gA|exact rfl))|(apply bH;rfl;rfl;exact c_ hi rfl;simp only[au];rfl)|(apply aU;rfl;simp only[au];rfl)|(apply kU;rfl;exact hc;rfl;rfl;exact jY;rfl;simp only[au];rfl)|refine aO ?_|(apply aH;rfl;first|exact rfl|(refine eX ?_)|(refine eV ?_)|(refine eW ?_)))
   exact(FJ hi hP fun k hk=>hJ k hk (by omega)).symm
 ·repeat' (first|(apply dX;simp only[au];rfl)|(apply aU;rfl;simp only[au];rfl)|(apply aL;rfl;rfl)|refine aC ?_|(refine aT (by decide) ?_)|refine kj rfl ?_|(apply eN;rfl;all_goals (intro hz;(try simp only[gq] at hz);first|(exact absurd hz (by decide))|(exfalso;omega)|skip))|(apply aH;rfl;first|exact rfl|(refine eX ?_)|(refine eV ?_)|(refine eW ?_)))
  refine(FI fun a ha=>?_).symm;obtain⟨k,hk,rfl⟩:=B0y.1 ha;exact hJ k hk hk
theorem c64 {l:List Kn}(hL:l.length≤1000000000):aQ Tryz.prog 64 (.st bs) [.bk (l.map Kn.d),.fn 65 [] []] (B (l.any fun k=>k.out)):=by
 have h98:=aqG (bs:=bs) (P:=fun k=>k.out) (f:=65) (us:=[]) (cs:=[]) (l:=l) hL (by kernel_rfl) (fun x _=>c65 x);refine am0.R rfl rfl ?_;unfold u64;simp only[aB,aI,A0i,A0j]
 repeat' (first|(apply aU;rfl;simp only[au];rfl)|(apply bC;rfl;rfl;exact h98;rfl;simp only[au];rfl)|(apply aH;rfl;first|exact rfl|(refine eX ?_)|(refine eV ?_)|(refine eW ?_)))
 exact zw _ l
def Xr (f:wk)(ss:List Src)(n:Nat)(W:List aF)(t from_ to dV:Int):Bool:=
 !(xw ss f.least n (eY W t dV) to.toNat).Gx&&((xw ss f.least n (eY W t dV) from_.toNat).Gx||(!(((JA ss f.least n (eY W t dV)).take from_.toNat).any fun k=>k.out)&&decide ((xw ss f.least n (eY W t dV) from_.toNat).low≤t)))
def P6 (f:wk)(ss:List Src)(n:Nat)(W:List aF)(t from_ to:Int)(k:Nat):List Int:=((List.range k).map fun(i:Nat)=>(i:Int)+1).filter (Xr f ss n W t from_ to)
theorem S5 (t from_ to:Int)(k:Nat):P6 f ss n W t from_ to (k+1)=P6 f ss n W t from_ to k++if Xr f ss n W t from_ to ((k:Int)+1)=true then[(k:Int)+1] else[]:=by unfold P6;rw[D0v,C0z,B0Z,B0p,C0x,C0e,E0C]
theorem Oa (t from_ to:Int)(k:Nat):(P6 f ss n W t from_ to k).length≤k:=by unfold P6;refine A0J (C0G _ _) ?_;simp
theorem aaW {l:List Kn}{x:Int}(h:0≤x∧x≤l.length):D.sub 6 (.bk (l.map Kn.d)) (I 0) (I x)=some (.bk ((l.take x.toNat).map Kn.d)):=by simp only[D.sub];rw[A0z ⟨B0P _,h.1,by simpa using h.2,by simp[cC,Kn.d,Kn.cs,D.cells]⟩];simp[List.map_take]
theorem c33 (h:Lg bs j f ss rs n){from_ to t:Int}(hb:fK t 0 1000000000000=true)(RI:0≤from_∧from_<to∧to<(n:Int)):∃bs',aZ Tryz.prog 33 (.st bs) [.loc j 0,I from_,I to,I t] (.a_ [Is (P6 f ss n (ef rs) t from_ to f.iV.toNat),I 0]) (.st bs')∧Grow bs bs':=by
 have h65:=c61 h 1 0 t;have aid:=h.iV;have mR:=h.pl;have hnh:=h.YF.hi;rw[A0z (by unfold YY;rw[hb];simp[fK,aid,mR];omega)] at h65;obtain⟨b1,v,s,h66,g1,hV,_⟩:=aev h t;have h':=h.keep g1;obtain⟨F,F0,F1,F2⟩:=Zv (N:=f.iV.toNat) (s0:=b1) (J:=fun k st=>Grow b1 st) (R:=fun k st eT=>aZ Tryz.prog 63 (.st st) [.loc v 0,I ((k:Int)+1)] (.bk ((JA ss f.least n (eY (ef rs) t ((k:Int)+1))).map Kn.d)) (.st eT)) (Grow.refl b1) (fun k st _ hJ=>by
  obtain⟨eT,h1,h2⟩:=abA (h'.keep hJ) (hV.keep hJ.old) ((k:Int)+1);exact⟨eT,h1,hJ.trans h2⟩)
 refine⟨F f.iV.toNat,?_,g1.trans (F1 _ (A0m _))⟩;obtain⟨m,hm⟩:=h.log;obtain⟨m',xF⟩:=h'.log;have c1:decide (from_<0)=false:=by simp;omega
 have c2:decide (from_≥to)=false:=by simp;omega
 have c3:decide (to≥f.places)=false:=by simp;omega
 have c4:(decide (from_<0)||decide (from_≥to)||decide (to≥f.places))=false:=by rw[c1,c2,c3];rfl
 refine ane.W rfl ?_;unfold u33;simp only[aB,aI,A0i,A0j]
 repeat' (first|(apply dX;simp only[au];rfl)|(apply bf;rfl;(·first|exact rfl|exact c4))|(apply bG;rfl)|(apply dS;rfl;rfl;exact aW hm.blk rfl;simp only[au];rfl)|(apply aU;rfl;simp only[au];rfl)|(apply bC;rfl;rfl;exact h65;rfl;simp only[au];rfl)|(apply dZ;rfl;rfl;exact h66;rfl;simp only[au];rfl)|(apply iP;rfl)|refine aO ?_|exact aH rfl rfl|(intro hz;(try simp only[gq] at hz)))
 refine ew (fun k=>[Is (P6 f ss n (ef rs) t from_ to k),I ((k:Int)+1),.st (F k)]) (fun _=>True) f.iV.toNat (by rw[F0];rfl) (fun _=>rfl) trivial (fun k hk _ R hR=>?_) (fun _ R=>?_)
 ·have gA:decide ((k:Int)+1≤f.iV)=true:=by simp;omega
  have MQ:(F k)[j]? = some (.blk 150 5 [I f.iV,I f.places,Is f.least,.bk (ss.map Src.d),.mp m']):=by rw[(F1 k (by omega)).old j (A0c.1 xF.blk).1];exact xF.blk
  have h67:=F2 k hk;have HZ:(JA ss f.least n (eY (ef rs) t ((k:Int)+1))).length=n:=by simp[JA]
  have ML:=aaW (l:=JA ss f.least n (eY (ef rs) t ((k:Int)+1))) (x:=from_) (by rw[HZ];omega);have h73:=c64 (bs:=F (k+1)) (l:=(JA ss f.least n (eY (ef rs) t ((k:Int)+1))).take from_.toNat) (by simp;omega);have FE:=aaw (f:=f) (ss:=ss) (n:=n) (l:=eY (ef rs) t ((k:Int)+1)) (place:=from_) (by omega);have yu:=aaw (f:=f) (ss:=ss) (n:=n) (l:=eY (ef rs) t ((k:Int)+1)) (place:=to) (by omega);have hon:Xr f ss n (ef rs) t from_ to ((k:Int)+1)=Xr f ss n (ef rs) t from_ to ((k:Int)+1):=rfl;have Z0:=S5 (f:=f) (ss:=ss) (n:=n) (W:=ef rs) t from_ to k;have Hs:=Oa (f:=f) (ss:=ss) (n:=n) (W:=ef rs) t from_ to k;have vK:=Y8 (out:=P6 f ss n (ef rs) t from_ to k) (x:=(k:Int)+1) (by omega);have e2:(k:Int)+1+1=((k+1:Nat):Int)+1:=by omega
  cases hc:Xr f ss n (ef rs) t from_ to ((k:Int)+1)
  ·have rY:=hc;unfold Xr at rY;rw[hc,A0B (by decide),B0F] at Z0;rw[Z0,←e2] at hR
   repeat' (first|(apply dX;simp only[au];rfl)|(apply bF;rfl;exact gA)|(apply bf;rfl;exact rY)|(apply bG;rfl)|(apply dS;rfl;rfl;exact aW MQ rfl;simp only[au];rfl)|(apply bH;rfl;rfl;(·first|exact FE|exact yu);simp only[au];rfl)|(apply BE;rfl;rfl;rfl;exact ML;simp only[au];rfl)|(apply jf;rfl;rfl;omega;simp only[au];rfl)|(apply aU;rfl;simp only[au];rfl)|(apply bC;rfl;rfl;exact h73;rfl;simp only[au];rfl)|(apply dZ;rfl;rfl;exact h67;rfl;simp only[au];rfl)|(apply iP;rfl)|(apply fp;rfl)|refine aO ?_|(apply aL;rfl;rfl)|refine aC ?_|refine kj rfl ?_|exact aH rfl rfl|(intro hz;(try simp only[gq] at hz)))
   exact hR trivial
  ·have rY:=hc;unfold Xr at rY;rw[hc,A0z rfl] at Z0;rw[Z0,←e2] at hR
   repeat' (first|(apply dX;simp only[au];rfl)|(apply bF;rfl;(·first|exact gA|exact rY))|(apply bG;rfl)|(apply dS;rfl;rfl;exact aW MQ rfl;simp only[au];rfl)|(apply bH;rfl;rfl;(·first|exact FE|exact yu);simp only[au];rfl)|(apply NQ;rfl;rfl;exact vK;simp only[au];rfl)|(apply BE;rfl;rfl;rfl;exact ML;simp only[au];rfl)|(apply jf;rfl;rfl;omega;simp only[au];rfl)|(apply aU;rfl;simp only[au];rfl)|(apply bC;rfl;rfl;exact h73;rfl;simp only[au];rfl)|(apply dZ;rfl;rfl;exact h67;rfl;simp only[au];rfl)|(apply iP;rfl)|(apply fp;rfl)|refine aO ?_|(apply aL;rfl;rfl)|refine aC ?_|refine kj rfl ?_|exact aH rfl rfl|(intro hz;(try simp only[gq] at hz)))
   exact hR trivial
 ·have gA:decide ((f.iV.toNat:Int)+1≤f.iV)=false:=by simp;omega
  have MQ:(F f.iV.toNat)[j]? = some (.blk 150 5 [I f.iV,I f.places,Is f.least,.bk (ss.map Src.d),.mp m']):=by rw[(F1 _ (A0m _)).old j (A0c.1 xF.blk).1];exact xF.blk
  repeat' (first|(apply dX;simp only[au];rfl)|(apply bf;rfl;exact gA)|(apply bG;rfl)|(apply dS;rfl;rfl;exact aW MQ rfl;simp only[au];rfl)|(apply aU;rfl;simp only[au];rfl)|(apply aL;rfl;rfl)|refine aC ?_|(refine aT (by decide) ?_)|refine kj rfl ?_|exact aH rfl rfl)
end
section
open Go.Proofs
set_option maxRecDepth 100000
set_option maxHeartbeats 4000000
attribute [local irreducible] fK
variable {bs:List D} {j n:Nat} {f:wk} {ss:List Src} {rs:List aF}
theorem N3 (m:List (aF×Int))(r:aF):(put m r).length≤m.length+1:=by unfold put;split <;> simp
theorem IM:∀(l:List aF) (m:List (aF×Int)),(l.foldl put m).length≤m.length+l.length
 | [],m=>A0m _
 | r :: l,m=>by have h1:=IM l (put m r);have h2:=N3 m r;simp only[B0Y,B0a];omega
theorem TF (kv:List (aF×Int)):aN (kv.map vv)=true:=nK fun d hd=>by obtain⟨e,_,rfl⟩:=A0F.1 hd;simp[vv,D.bZ,aN,aF.d,aF.cs]
theorem aq0 (h:Lg bs j f ss rs n){r:aF}(hr:kW f ss r=true)(hl:rs.length<1000):∃bs',aZ Tryz.prog 161 (.st bs) [.loc j 0,.bk [r.d]] (I 0) (.st bs')∧Lg bs' j f ss (rs++[r]) n∧bs.length≤bs'.length∧∀i,i<bs.length→i≠j→bs'[i]? = bs[i]?:=by
 obtain⟨m,hm⟩:=h.log;have iM:=IM rs [];simp only[B0C] at iM;have mR:=h.pl;have hF:=h.YF;have su:=hF.lo;have hhi:=hF.hi;have hsr:=h.PE;have hj:=(A0c.1 hm.blk).1;have h1:=aqu hm (Md rs map_nil) (by omega) (by omega) (rs:=[r]) (by simp) (by simp[hr]);have hp:=N3 (rs.foldl put []) r;have hfd:(rs++[r]).foldl put []=[r].foldl put (rs.foldl put []):=by rw[B0z]
 have hlen:([r].foldl put (rs.foldl put [])).length=(put (rs.foldl put []) r).length:=rfl;rw[A0B (by rw[hlen];omega),A0B (by rw[hlen];omega)] at h1;refine⟨_,h1,⟨⟨bs.length,⟨?_,?_⟩⟩,by rw[hfd,hlen];omega,h.YF,h.pl,h.iV,h.PE,fun x hx=>?_,?_⟩,by simp,fun i hi bQ=>?_⟩
 ·rw[A0M (by simp;omega)]
 ·rw[A0q (by omega),D0P,hfd]
 ·rcases A0K.1 hx with hx | hx
  ·exact h.right x hx
  ·simp only[A0Y] at hx;subst hx;exact hr
 ·refine e_ _ _ _ ?_ ?_
  ·rw[bT,h.ny];simp[aN,D.bZ,TF]
  ·have h2:=h.ny;have:=dH h.ny hm.blk;simp only[D.bZ,aN,A0f] at this ⊢;exact⟨trivial,trivial,this.2.2.1,this.2.2.2.1,trivial,trivial⟩
 ·rw[A0q (B0O bQ),A0g hi]
end
end Go.Am.Tw
