/-
  Several texts, one behind the other.
-/
import Derived.Test.YtgebemgmpfpjbaaWrC3toWrU4
import Derived.Test.YtgebemgmpfpjbaaAmSortFtoAmFrzS
set_option linter.unusedSimpArgs false
set_option linter.unusedVariables false
/-
 The order of reports,and Reports.
-/
namespace Go.Am.Wr
open Go.Proofs
set_option maxRecDepth 100000
set_option maxHeartbeats 4000000

variable {bs:List D} {j m:Nat} {f:Fld} {ss:List Src} {kv:List (Rep×Int)}

attribute [local irreducible] inR

def cmpN (x y:Int):Int:=if x<y then -1 else if x > y then 1 else 0

theorem c114 (x:Int):FSpecR Try.prog 114 (.st bs) [I x] (B false):=by
 refine ku114.R rfl rfl ?_
 unfold u114
 simp only[ups_cons,ups_nil,List.cons_append,List.nil_append]
 repeat' (first|(apply u_ev;rfl;simp only[sbe];rfl)|(apply u_ret;rfl;first|exact rfl|(refine retB ?_)|(refine retI ?_)|(refine retD ?_)))
 simp

theorem c115 (x:Int):FSpecR Try.prog 115 (.st bs) [I x] (B false):=by
 refine ku115.R rfl rfl ?_
 unfold u115
 simp only[ups_cons,ups_nil,List.cons_append,List.nil_append]
 repeat' (first|(apply u_ev;rfl;simp only[sbe];rfl)|(apply u_ret;rfl;first|exact rfl|(refine retB ?_)|(refine retI ?_)|(refine retD ?_)))
 simp

theorem c89 (x y:Int):FSpecR Try.prog 89 (.st bs) [I x,I y] (I (cmpN x y)):=by
 refine ku89.R rfl rfl ?_
 unfold u89
 simp only[ups_cons,ups_nil,List.cons_append,List.nil_append]
 repeat' (first|(apply u_iteF;rfl;exact rfl)|(apply u_ev;rfl;simp only[sbe];rfl)|(apply u_call;rfl;rfl;exact c114 _;rfl;simp only[sbe];rfl)|(apply u_ite;rfl;all_goals (intro hz;(try simp only[sbs] at hz);first|(exact absurd hz (by decide))|(exfalso;omega)|skip))|(apply u_ret;rfl;first|exact rfl|(refine retB ?_)|(refine retI ?_)|(refine retD ?_)))
 all_goals (unfold cmpN;split <;> (try split) <;> first | rfl | omega | (simp_all;done) | skip)

theorem c90 (x y:Int):FSpecR Try.prog 90 (.st bs) [I x,I y] (I (cmpN x y)):=by
 refine ku90.R rfl rfl ?_
 unfold u90
 simp only[ups_cons,ups_nil,List.cons_append,List.nil_append]
 repeat' (first|(apply u_iteF;rfl;exact rfl)|(apply u_ev;rfl;simp only[sbe];rfl)|(apply u_call;rfl;rfl;exact c115 _;rfl;simp only[sbe];rfl)|(apply u_ite;rfl;all_goals (intro hz;(try simp only[sbs] at hz);first|(exact absurd hz (by decide))|(exfalso;omega)|skip))|(apply u_ret;rfl;first|exact rfl|(refine retB ?_)|(refine retI ?_)|(refine retD ?_)))
 all_goals (unfold cmpN;split <;> (try split) <;> first | rfl | omega | (simp_all;done) | skip)

def orL:List Int→Int
 | []=>0
 | x :: r=>if x≠0 then x else orL r

theorem orL_at:∀{l:List Int} {i:Nat} (hi:i<l.length),l[i]≠0→(∀k (h:k<i),(l[k]'(by omega))=0)→orL l=l[i]
 | x :: r,0,_,h,_=>by simp[orL] at h ⊢;intro e;exact absurd e h
 | x :: r,i+1,hi,h,hn=>by
  have h0:=hn 0 (by omega)
  simp at h0
  simp[orL,h0]
  exact orL_at (by simpa using hi) (by simpa using h) fun k hk=>by simpa using hn (k+1) (by omega)

theorem orL_no:∀{l:List Int},(∀x,x∈l→x=0)→orL l=0
 | [],_=>rfl
 | x :: r,h=>by
  have:=h x (by simp)
  simp[orL,this]
  exact orL_no fun y hy=>h y (by simp[hy])

theorem c88 (l:List Int)(hL:l.length≤1000000):FSpecR Try.prog 88 (.st bs) [Is l] (I (orL l)):=by
 refine ku88.R rfl rfl ?_
 unfold u88
 simp only[ups_cons,ups_nil,List.cons_append,List.nil_append]
 repeat' (first|(apply u_lenL;rfl;exact lenL_map;simp only[sbe];rfl)|refine u_join ?_)
 refine u_range (fun i=>[I i]) (fun i=>∀k (h:k<i) (h2:k<l.length),l[k]=0) l.length rfl (fun _=>rfl) (fun k h=>absurd h (Nat.not_lt_zero _)) (fun i hi hJ R hR=>?_) (fun hJ R=>?_)
 ·have hli:decide ((i:Int)<(l.length:Int))=true:=by simp;omega
  by_cases hP:l[i]=0
  ·repeat' (first|(apply nrm;simp only[sbe];rfl)|(apply u_iteT;rfl;exact hli)|(apply u_iteF;rfl;(·(simp[hP])))|(apply u_eaddr;rfl;rfl;exact eaddr_get hi rfl;simp only[sbe];rfl)|(apply u_inc;rfl;omega;simp only[sbe];rfl)|(apply u_ev;rfl;simp only[sbe];rfl)|refine u_join ?_|(apply u_jump;rfl;rfl)|refine at_jump ?_|refine kj rfl ?_)
   refine hR fun k hk h2=>?_
   rcases Nat.lt_or_ge k i with h3 | h3
   ·exact hJ k h3 h2
   ·have e:k=i:=by omega
    subst e
    exact hP
  ·repeat' (first|(apply nrm;simp only[sbe];rfl)|(apply u_iteT;rfl;(·first|exact hli|(simp[hP])))|(apply u_eaddr;rfl;rfl;exact eaddr_get hi rfl;simp only[sbe];rfl)|(apply u_ev;rfl;simp only[sbe];rfl)|refine u_join ?_|(apply u_ret;rfl;first|exact rfl|(refine retB ?_)|(refine retI ?_)|(refine retD ?_)))
   exact(orL_at hi hP fun k hk=>hJ k hk (by omega)).symm
 ·repeat' (first|(apply nrm;simp only[sbe];rfl)|(apply u_ev;rfl;simp only[sbe];rfl)|(apply u_jump;rfl;rfl)|refine at_jump ?_|(refine over_jump (by decide) ?_)|refine kj rfl ?_|(apply u_ite;rfl;all_goals (intro hz;(try simp only[sbs] at hz);first|(exact absurd hz (by decide))|(exfalso;omega)|skip))|(apply u_ret;rfl;first|exact rfl|(refine retB ?_)|(refine retI ?_)|(refine retD ?_)))
  refine(orL_no fun a ha=>?_).symm
  obtain⟨k,hk,rfl⟩:=List.mem_iff_getElem.1 ha
  exact hJ k hk hk

def ordN (a b:Rep):Int:=orL [cmpN a.source b.source,cmpN a.number b.number,cmpN a.kind b.kind,cmpN a.car b.car,cmpN a.place b.place,cmpN a.time b.time]

theorem c64 (a b:Rep):FSpecR Try.prog 64 (.st bs) [a.d,b.d] (I (ordN a b)):=by
 have hOr:FSpecR Try.prog 88 (.st bs) [.lst [I (cmpN a.source b.source),I (cmpN a.number b.number),I (cmpN a.kind b.kind),I (cmpN a.car b.car),I (cmpN a.place b.place),I (cmpN a.time b.time)]] (I (ordN a b)):=c88 [cmpN a.source b.source,cmpN a.number b.number,cmpN a.kind b.kind,cmpN a.car b.car,cmpN a.place b.place,cmpN a.time b.time] (by simp)
 refine ku64.R rfl rfl ?_
 unfold u64
 simp only[ups_cons,ups_nil,List.cons_append,List.nil_append]
 repeat' (first|(apply u_chk;rfl)|(apply u_ev;rfl;simp only[sbe];rfl)|(apply u_call;rfl;rfl;(·first|exact c89 _ _|exact c90 _ _|exact hOr);rfl;simp only[sbe];rfl)|exact u_ret rfl rfl)

end Go.Am.Wr

/-
 slices.SortFunc of reports by their order.
-/
namespace Go.Am.Wr
open Go.Proofs Go.Sort Go.RowKit Go.Lib Go.Am.Srt
set_option maxRecDepth 100000

instance:Inhabited Rep:=⟨⟨0,0,0,0,0,0,0⟩⟩

theorem orL_lx:∀(xs ys:List Int),xs.length=ys.length→decide (orL (List.zipWith cmpN xs ys)<0)=lx xs ys
 | [],[],_=>rfl
 | [],_ :: _,h=>by simp at h
 | _ :: _,[],h=>by simp at h
 | x :: xs,y :: ys,h=>by
  have ih:=orL_lx xs ys (by simpa using h)
  simp only[List.zipWith_cons_cons,orL,lx,cmpN]
  rcases Int.lt_trichotomy x y with g | g | g
  ·rw[if_pos g]
   simp[show x≠y by omega,g]
  ·subst g
   simpa using ih
  ·rw[if_neg (show¬x<y by omega),if_pos g]
   simp[show x≠y by omega,show¬x<y by omega]

theorem ltOrd (a b:Rep):ltOf ordN a b=before a b:=orL_lx (key a) (key b) rfl

theorem swoOrd:SWO (ltOf ordN) where
 irrefl x:=by rw[ltOrd];exact before_irr x
 trans x y z h1 h2:=by rw[ltOrd] at *;exact before_trans h1 h2
 ntrans x y z h1 h2:=by
  rw[ltOrd] at *
  cases h:before x z with
  | false=>rfl
  | true=>
   cases h3:before y x with
   | true=>rw[before_trans h3 h] at h2;cases h2
   | false=>
    have:=lx_tot (xs:=key x) (ys:=key y) rfl h1 h3
    rw[before_key this] at h
    rw[h] at h2
    cases h2

def encR (r:Rep):List Value:=[.int .i64 r.source,.int .i64 r.number,.int .i64 r.kind,.int .i64 r.car,.int .i64 r.place,.int .i64 r.time,.int .i64 r.arrived]

theorem encR_ok:EncOk encR 7:=⟨fun _=>rfl,fun x v hv=>by
 simp only[encR,List.mem_cons,List.not_mem_nil,or_false] at hv
 rcases hv with rfl | rfl | rfl | rfl | rfl | rfl | rfl <;> rfl⟩

def srtR (d:Array Rep):Array Rep:=pdq (ltOf ordN) d 0 d.size (Lib.bitLen d.size) true true

theorem srtR_size (d:Array Rep):(srtR d).size=d.size:=(pdq_sorts (ltOf ordN) swoOrd d 0 d.size (Lib.bitLen d.size) true true (Nat.zero_le _) (Nat.le_refl _) (Or.inl rfl)).1.1

variable {bs:List D}

theorem c63 {b:Nat}{e:TypeId}{xs:List Rep}(hb:bs[b]? = some (.blk e 7 (xs.flatMap Rep.cs)))(hL:xs.length<4611686018427387904) :
  FSpecW Try.prog 63 (.st bs) [.sl b 0 xs.length,.fn 64 [] []] (.tup []) (.st (bs.set b (.blk e 7 ((srtR xs.toArray).toList.flatMap Rep.cs)))):=
 sortFuncK (f:=63) (g:=64) (cf:=ordN) (caps:=[]) (srt:=srtR) encR_ok
  (fun cb blk off cap d w hcmp hH hblk hsz=>AnyQ.slices_SortFunc_eq Try.laysSF 7 Try.isAgg45 Try.sizeOf45 encR (fun _=>rfl) (fun x v hv=>plain_one (encR_ok.pl x v hv)) ordN swoOrd 64 cb blk off cap d w (enters_of Try.func64 (by kernel_rfl) rfl) hcmp hH hblk hsz)
  srtR_size (fun st x y=>c64 x y) hb hL

end Go.Am.Wr

/-
 What sorting the map's reports gives.
-/
namespace Go.Am.Wr
open Go.Proofs Go.Sort Go.RowKit Go.Lib Go.Am.Srt
set_option maxRecDepth 100000

theorem srtR_perm (xs:List Rep):(srtR xs.toArray).toList.Perm xs:=by
 have h:=(pdq_sorts (ltOf ordN) swoOrd xs.toArray 0 xs.toArray.size (Lib.bitLen xs.toArray.size) true true (Nat.zero_le _) (Nat.le_refl _) (Or.inl rfl)).1
 have h1:=h.1
 have h2:=h.2.2
 have e1:(srtR xs.toArray).extract 0 xs.toArray.size=srtR xs.toArray:=by
  rw[show xs.toArray.size=(srtR xs.toArray).size from(srtR_size _).symm]
  exact Array.extract_size
 have e2:xs.toArray.extract 0 xs.toArray.size=xs.toArray:=Array.extract_size
 change ((srtR xs.toArray).extract 0 xs.toArray.size).toList.Perm (xs.toArray.extract 0 xs.toArray.size).toList at h2
 rw[e1,e2] at h2
 exact h2

theorem srtR_sorted (xs:List Rep)(i j:Nat)(hij:i<j)(hj:j<(srtR xs.toArray).toList.length):before (srtR xs.toArray).toList[j] ((srtR xs.toArray).toList[i]'(by omega))=false:=by
 have h:=(pdq_sorts (ltOf ordN) swoOrd xs.toArray 0 xs.toArray.size (Lib.bitLen xs.toArray.size) true true (Nat.zero_le _) (Nat.le_refl _) (Or.inl rfl)).2
 have hs:(srtR xs.toArray).size=xs.toArray.size:=srtR_size _
 have hj':j<(srtR xs.toArray).size:=by simpa using hj
 have hi':i<(srtR xs.toArray).size:=by omega
 have h1:=h i j (Nat.zero_le _) hij (by rw[←hs];exact hj')
 change ltOf ordN (srtR xs.toArray)[j]! (srtR xs.toArray)[i]! = false at h1
 rw[ltOrd,getElem!_pos (srtR xs.toArray) j hj',getElem!_pos (srtR xs.toArray) i hi'] at h1
 simpa using h1

theorem srtR_ord {xs:List Rep}(hnd:xs.Pairwise fun a b=>key a≠key b):Ord (srtR xs.toArray).toList:=by
 have hnd':(srtR xs.toArray).toList.Pairwise fun a b=>key a≠key b:=(srtR_perm xs).symm.pairwise hnd fun h=>Ne.symm h
 unfold Ord
 rw[List.pairwise_iff_getElem] at hnd' ⊢
 intro i j hi hj hij
 have h1:=srtR_sorted xs i j hij hj
 cases h:before (srtR xs.toArray).toList[i] (srtR xs.toArray).toList[j] with
 | true=>rfl
 | false=>exact absurd (lx_tot (xs:=key (srtR xs.toArray).toList[i]) (ys:=key (srtR xs.toArray).toList[j]) rfl h h1) (hnd' i j hi hj hij)

theorem key_plainP {a b:Rep}(ha:plainR a=a)(hb:plainR b=b)(hk:key a=key b):a=b:=by
 obtain⟨a1,a2,a3,a4,a5,a6,a7⟩:=a
 obtain⟨b1,b2,b3,b4,b5,b6,b7⟩:=b
 simp only[plainR,Rep.mk.injEq,true_and] at ha hb
 simp only[key,List.cons.injEq,and_true] at hk
 obtain⟨h1,h2,h3,h4,h5,h6⟩:=hk
 simp only[Rep.mk.injEq]
 exact⟨h1,h2,h3,h4,h5,h6,ha.symm.trans hb⟩

theorem kv_keys {kv:List (Rep×Int)}(h:MapOk kv):(kv.map repOf).Pairwise fun a b=>key a≠key b:=by
 rw[List.pairwise_map]
 refine h.nd.imp_of_mem fun {a b} ha hb hne hk=>hne ?_
 exact key_plainP (h.pl a ha) (h.pl b hb) hk

theorem map_ok:∀(l:List Rep) {kv:List (Rep×Int)},MapOk kv→MapOk (l.foldl put kv)
 | [],_,h=>h
 | r :: l,_,h=>map_ok l (put_ok h r)

theorem srt_log {rs xs:List Rep}(hp:xs.Perm ((rs.foldl put []).map repOf)):(srtR xs.toArray).toList=logR rs:=by
 have hnd:xs.Pairwise fun a b=>key a≠key b:=hp.symm.pairwise (kv_keys (map_ok rs map_nil)) fun h=>Ne.symm h
 exact sorted_log (fun x=>((srtR_perm xs).mem_iff).trans hp.mem_iff) (srtR_ord hnd)

end Go.Am.Wr
