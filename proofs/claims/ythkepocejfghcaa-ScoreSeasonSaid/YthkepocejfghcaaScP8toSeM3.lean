/-
  Several texts, one behind the other.
-/
import Derived.Test.YthkepocejfghcaaScP2toScP7
import Derived.Test.YthkepocejfghcaaAmSortP
import Derived.Test.YthkepocejfghcaaSeLentoScAct
import Derived.Test.YthkepocejfghcaaAmFntoAmSt2
import Derived.Test.YthkepocejfghcaaAmKilltoAmOut
set_option linter.unusedSimpArgs false
set_option linter.unusedVariables false
/-
 Championships: the order,by insertion,is the stable one.
-/
namespace Go.Am.Sc
open Srt (lt Ord so)

theorem cmpL_neg:∀xs ys:List Int,cmpL ys xs=- cmpL xs ys
 | [],[]=>rfl
 | [],_ :: _=>rfl
 | _ :: _,[]=>rfl
 | x :: xs,y :: ys=>by
  rw[cmpL,cmpL]
  have:=cmpL_neg xs ys
  rcases Int.lt_trichotomy x y with h | h | h
  ·rw[if_neg (by omega),if_pos h,if_pos h]
   rfl
  ·rw[if_neg (by omega),if_neg (by omega),if_neg (by omega),if_neg (by omega)]
   exact this
  ·rw[if_pos h,if_neg (by omega),if_pos h]

theorem cmpL_trans:∀xs ys zs:List Int,cmpL xs ys≤0→cmpL ys zs≤0→cmpL xs zs≤0
 | [],_,[],_,_=>by simp[cmpL]
 | [],_,_ :: _,_,_=>by simp[cmpL]
 | _ :: _,[],_,h,_=>by simp[cmpL] at h
 | x :: xs,y :: ys,[],_,h=>by simp[cmpL] at h
 | x :: xs,y :: ys,z :: zs,h1,h2=>by
  have ih:=cmpL_trans xs ys zs
  rw[cmpL] at h1 h2 ⊢
  split at h1
  ·split at h2
   ·rw[if_pos (by omega)];omega
   ·split at h2
    ·omega
    ·rw[if_pos (by omega)];omega
  ·split at h1
   ·omega
   ·split at h2
    ·rw[if_pos (by omega)];omega
    ·split at h2
     ·omega
     ·rw[if_neg (by omega),if_neg (by omega)]
      exact ih h1 h2

variable (pts:List (List Int)) (drop:Int)

def cmpI (x y:Int):Int:=cmpC pts drop x.toNat y.toNat

theorem cmpC_spec (a b:Nat):(totC pts drop a > totC pts drop b∧cmpC pts drop a b=-1)∨(totC pts drop a<totC pts drop b∧cmpC pts drop a b=1)∨(totC pts drop a=totC pts drop b∧cmpC pts drop a b=cmpL (fall (pt pts b)) (fall (pt pts a))):=by
 rcases Int.lt_trichotomy (totC pts drop a) (totC pts drop b) with h | h | h
 ·have e:cmp1 (totC pts drop b) (totC pts drop a)=1:=by rw[cmp1,if_neg (by omega),if_pos h]
  exact .inr (.inl ⟨h,by rw[cmpC,e,if_pos (by decide)]⟩)
 ·have e:cmp1 (totC pts drop b) (totC pts drop a)=0:=by rw[cmp1,if_neg (by omega),if_neg (by omega)]
  exact .inr (.inr ⟨h,by rw[cmpC,e,if_neg (by decide)]⟩)
 ·have e:cmp1 (totC pts drop b) (totC pts drop a)=-1:=by rw[cmp1,if_pos h]
  exact .inl ⟨h,by rw[cmpC,e,if_pos (by decide)]⟩

theorem ord_cmp (dom:Int→Prop):Ord (cmpI pts drop) dom where
 anti:=fun x y _ _=>by
  unfold cmpI
  have h1:=cmpC_spec pts drop x.toNat y.toNat
  have h2:=cmpC_spec pts drop y.toNat x.toNat
  have h3:=cmpL_neg (fall (pt pts x.toNat)) (fall (pt pts y.toNat))
  omega
 trans:=fun x y z _ _ _ a1 a2=>by
  unfold cmpI at *
  have h1:=cmpC_spec pts drop x.toNat y.toNat
  have h2:=cmpC_spec pts drop y.toNat z.toNat
  have h3:=cmpC_spec pts drop x.toNat z.toNat
  have h4:=cmpL_trans (fall (pt pts z.toNat)) (fall (pt pts y.toNat)) (fall (pt pts x.toNat))
  omega

theorem ahead_lt (a b:Nat):aheadB pts drop a b=decide (lt (cmpI pts drop) a b):=by
 rw[Bool.eq_iff_iff,decide_eq_true_eq]
 have h1:=cmpC_spec pts drop a b
 have h3:=cmpL_neg (fall (pt pts a)) (fall (pt pts b))
 unfold aheadB lt cmpI
 simp only[Int.toNat_natCast]
 split
 ·rw[decide_eq_true_eq]
  omega
 ·split
  ·rw[decide_eq_true_eq]
   omega
  ·rw[decide_eq_true_eq]
   omega

def insO (A:Nat→Nat→Bool)(i:Nat):List Nat→List Nat
 | []=>[i]
 | o :: r=>if A i o=true then i :: o :: r else o :: insO A i r

theorem insO_perm (A:Nat→Nat→Bool)(i:Nat):∀l:List Nat,(insO A i l).Perm (i :: l)
 | []=>.refl _
 | o :: r=>by
  rw[insO]
  split
  ·exact .refl _
  ·exact((insO_perm A i r).cons o).trans (.swap i o r)

def ordTo (A:Nat→Nat→Bool):Nat→List Nat
 | 0=>[]
 | n+1=>insO A n (ordTo A n)

theorem ordTo_perm (A:Nat→Nat→Bool):∀n,(ordTo A n).Perm (List.range n)
 | 0=>.refl _
 | n+1=>by
  rw[ordTo,List.range_succ]
  exact(insO_perm A n _).trans (((ordTo_perm A n).cons n).trans (List.perm_append_singleton n _).symm)

theorem ordTo_len (A:Nat→Nat→Bool)(n:Nat):(ordTo A n).length=n:=by simpa using(ordTo_perm A n).length_eq

theorem insO_sorted {i:Nat}:∀{l:List Nat},(∀x,x∈l→x≠i)→l.Pairwise (fun a b:Nat=>lt (cmpI pts drop) (a:Int) (b:Int))→(insO (aheadB pts drop) i l).Pairwise fun a b:Nat=>lt (cmpI pts drop) (a:Int) (b:Int)
 | [],_,_=>by simp[insO]
 | o :: r,hn,h=>by
  have hO:=ord_cmp pts drop (fun _=>True)
  have h1:=List.pairwise_cons.1 h
  rw[insO,ahead_lt]
  split
  ·rename_i hlt
   have hlt:=of_decide_eq_true hlt
   refine List.pairwise_cons.2 ⟨fun y hy=>?_,h⟩
   rcases List.mem_cons.1 hy with rfl | hy
   ·exact hlt
   ·exact hO.lt_trans trivial trivial trivial hlt (h1.1 y hy)
  ·rename_i hlt
   have hlt:¬lt (cmpI pts drop) (i:Int) (o:Int):=fun e=>hlt (decide_eq_true e)
   refine List.pairwise_cons.2 ⟨fun y hy=>?_,insO_sorted (fun x hx=>hn x (List.mem_cons_of_mem _ hx)) h1.2⟩
   rcases List.mem_cons.1 ((insO_perm _ i r).mem_iff.1 hy) with rfl | hy
   ·have hne:(o:Int)≠(y:Int):=by have:=hn o (List.mem_cons_self ..);omega
    rcases hO.lt_total trivial trivial hne with h2 | h2
    ·exact h2
    ·exact absurd h2 hlt
   ·exact h1.1 y hy

theorem ordTo_sorted:∀n,(ordTo (aheadB pts drop) n).Pairwise fun a b:Nat=>lt (cmpI pts drop) (a:Int) (b:Int)
 | 0=>.nil
 | n+1=>insO_sorted pts drop (fun x hx=>by
   have:=List.mem_range.1 ((ordTo_perm _ n).mem_iff.1 hx)
   omega) (ordTo_sorted n)

theorem ord_so (n:Nat):(ordTo (aheadB pts drop) n).map Int.ofNat=so (cmpI pts drop) ((List.range n).map Int.ofNat):=by
 have hO:=ord_cmp pts drop (fun _=>True)
 have hnd:((List.range n).map Int.ofNat).Nodup:=by
  rw[List.Nodup,List.pairwise_map]
  exact(List.nodup_range (n:=n)).imp fun h e=>h (by injection e)
 exact Srt.perm_unique hO (fun _ _=>trivial) (((ordTo_perm _ n).map Int.ofNat).trans (Srt.so_perm _).symm) (by
  rw[List.pairwise_map]
  exact ordTo_sorted pts drop n) (Srt.so_sorted hO (fun _ _=>trivial) hnd)

end Go.Am.Sc

/-
 ScC1,with the numbers of the seat of ScoreSeason.
-/
namespace Go.Am.Sc

open Go.Proofs

set_option maxRecDepth 100000

set_option maxHeartbeats 4000000

variable {bs:List D}

theorem c46 (x lo hi:Int):FSpecR Try.prog 26 (.st bs) [I x,I lo,I hi] (B (inR x lo hi)):=by
 refine ku26.R rfl rfl ?_
 unfold u26
 simp only[ups_cons,ups_nil,List.cons_append,List.nil_append]
 repeat' (first|(apply nrm;simp only[sbe];rfl)|(apply u_ev;rfl;simp only[sbe];rfl)|(apply u_and;rfl)|exact u_ret rfl rfl|(intro hz;(try simp only[sbs] at hz)))

theorem c49 (x lo hi:Int):FSpecR Try.prog 24 (.st bs) [I x,I lo,I hi] (B (inR x lo hi)):=by
 refine ku24.R rfl rfl ?_
 unfold u24
 simp only[ups_cons,ups_nil,List.cons_append,List.nil_append]
 repeat' (first|(apply nrm;simp only[sbe];rfl)|(apply u_ev;rfl;simp only[sbe];rfl)|(apply u_and;rfl)|exact u_ret rfl rfl|(intro hz;(try simp only[sbs] at hz)))

attribute [local irreducible] inR

def fi {α:Type}(P:α→Bool)(l:List α):Int:=match l.findIdx? P with
 | some i=>i
 | none=>-1

theorem fi_at {α:Type}{P:α→Bool}{l:List α}{i:Nat}(hi:i<l.length)(hP:P l[i]=true)(hn:∀k (h:k<i),P (l[k]'(by omega))=false):fi P l=i:=by
 have:l.findIdx? P=some i:=by
  rw[List.findIdx?_eq_some_iff_getElem]
  exact⟨hi,hP,fun j hj=>by simp[hn j hj]⟩
 simp[fi,this]

theorem fi_no {α:Type}{P:α→Bool}{l:List α}(hn:∀a,a∈l→P a=false):fi P l=-1:=by
 have:l.findIdx? P=none:=by
  rw[List.findIdx?_eq_none_iff]
  exact hn
 simp[fi,this]

theorem fi_any {α:Type}(P:α→Bool)(l:List α):decide (fi P l≥0)=l.any P:=by
 cases h:l.findIdx? P with
 | none=>
 have h2:=List.findIdx?_eq_none_iff.1 h
 have:l.any P=false:=by
  rw[List.any_eq_false]
  intro x hx
  simp[h2 x hx]
 rw[this]
 simp[fi,h]
 | some i=>
 obtain⟨h1,h2,_⟩:=List.findIdx?_eq_some_iff_getElem.1 h
 have:l.any P=true:=List.any_eq_true.2 ⟨_,List.getElem_mem h1,h2⟩
 rw[this]
 simp[fi,h]

theorem c126 {P:Int→Bool}{f:Nat}{us cs:List D}{l:List Int}(hL:l.length≤maxLen)(hc:callable Try.prog f=true)(hf:∀x,x∈l→FSpecR Try.prog f (.st bs) (us++[I x]++cs) (B (P x))):FSpecR Try.prog 65 (.st bs) [.lst (l.map I),.fn f us cs] (I (fi P l)):=by
 have hL':l.length≤9223372036854775807:=hL
 refine ku65.R rfl rfl ?_
 unfold u65
 simp only[ups_cons,ups_nil,List.cons_append,List.nil_append]
 repeat' (first|(apply u_lenL;rfl;exact lenL_map;simp only[sbe];rfl)|refine u_join ?_)
 refine u_range (fun i=>[I i]) (fun i=>∀k (h:k<i) (h2:k<l.length),P l[k]=false) l.length rfl (fun _=>rfl) (fun k h=>absurd h (Nat.not_lt_zero _)) (fun i hi hJ R hR=>?_) (fun hJ R=>?_)
 ·have hcal:=hf l[i] (List.getElem_mem hi)
  have hli:decide ((i:Int)<(l.length:Int))=true:=by simp;omega
  cases hP:P l[i]
  ·rw[hP] at hcal
   repeat' (first|(apply nrm;simp only[sbe];rfl)|(apply u_iteT;rfl;exact hli)|(apply u_iteF;rfl;exact rfl)|(apply u_eaddr;rfl;rfl;exact eaddr_get hi rfl;simp only[sbe];rfl)|(apply u_add;rfl;rfl;omega;simp only[sbe];rfl)|(apply u_ev;rfl;simp only[sbe];rfl)|(apply u_callv;rfl;exact hc;rfl;rfl;exact hcal;rfl;simp only[sbe];rfl)|refine u_join ?_|(apply u_jump;rfl;rfl)|refine at_jump ?_|refine kj rfl ?_)
   refine hR fun k hk h2=>?_
   rcases Nat.lt_or_ge k i with h3 | h3
   ·exact hJ k h3 h2
   ·have e:k=i:=by omega
    subst e
    exact hP
  ·rw[hP] at hcal
   repeat' (first|(apply nrm;simp only[sbe];rfl)|(apply u_iteT;rfl;(·first|exact hli|exact rfl))|(apply u_eaddr;rfl;rfl;exact eaddr_get hi rfl;simp only[sbe];rfl)|(apply u_ev;rfl;simp only[sbe];rfl)|(apply u_callv;rfl;exact hc;rfl;rfl;exact hcal;rfl;simp only[sbe];rfl)|refine u_join ?_|(apply u_ret;rfl;first|exact rfl|(refine retB ?_)|(refine retI ?_)|(refine retD ?_)))
   exact(fi_at hi hP fun k hk=>hJ k hk (by omega)).symm
 ·repeat' (first|(apply nrm;simp only[sbe];rfl)|(apply u_ev;rfl;simp only[sbe];rfl)|(apply u_jump;rfl;rfl)|refine at_jump ?_|(refine over_jump (by decide) ?_)|refine kj rfl ?_|(apply u_ite;rfl;all_goals (intro hz;(try simp only[sbs] at hz);first|(exact absurd hz (by decide))|(exfalso;omega)|skip))|(apply u_ret;rfl;first|exact rfl|(refine retB ?_)|(refine retI ?_)|(refine retD ?_)))
  refine(fi_no fun a ha=>?_).symm
  obtain⟨k,hk,rfl⟩:=List.mem_iff_getElem.1 ha
  exact hJ k hk hk

theorem c99 {P:Int→Bool}{f:Nat}{us cs:List D}{l:List Int}(hL:l.length≤maxLen)(hc:callable Try.prog f=true)(hf:∀x,x∈l→FSpecR Try.prog f (.st bs) (us++[I x]++cs) (B (P x))):FSpecR Try.prog 44 (.st bs) [.lst (l.map I),.fn f us cs] (B (l.any P)):=by
 refine ku44.R rfl rfl ?_
 unfold u44
 simp only[ups_cons,ups_nil,List.cons_append,List.nil_append]
 repeat' (first|(apply u_ev;rfl;simp only[sbe];rfl)|(apply u_call;rfl;rfl;exact c126 hL hc hf;rfl;simp only[sbe];rfl)|(apply u_ret;rfl;first|exact rfl|(refine retB ?_)|(refine retI ?_)|(refine retD ?_)))
 exact fi_any P l

theorem c100 (x most:Int):FSpecR Try.prog 45 (.st bs) [I x,.ptr [I most]] (B (!inR x 0 most)):=by
 refine ku45.R rfl rfl ?_
 unfold u45
 simp only[ups_cons,ups_nil,List.cons_append,List.nil_append]
 repeat' (first|(apply u_ev;rfl;simp only[sbe];rfl)|(apply u_call;rfl;rfl;exact c46 _ _ _;rfl;simp only[sbe];rfl)|exact u_ret rfl rfl)

theorem not_any {α:Type}(P:α→Bool):∀l:List α,(!(l.any fun x=>!P x))=l.all P
 | []=>rfl
 | x :: l=>by simp[not_any P l]

theorem c47 {l:List Int}{least many most:Int}(hL:l.length≤maxLen):FSpecR Try.prog 15 (.st bs) [Is l,I least,I many,I most] (B (allR l least many 0 most)):=by
 have hf:FSpecR Try.prog 44 (.st bs) [.lst (l.map I),.fn 45 [] [.ptr [I most]]] (B (l.any fun x=>!inR x 0 most)):=c99 (us:=[]) (cs:=[.ptr [I most]]) hL (by kernel_rfl) fun x _=>c100 x most
 refine ku15.R rfl rfl ?_
 unfold u15
 simp only[ups_cons,ups_nil,List.cons_append,List.nil_append]
 repeat' (first|(apply nrm;simp only[sbe];rfl)|(apply u_lenL;rfl;exact lenL_map;simp only[sbe];rfl)|(apply u_ev;rfl;simp only[sbe];rfl)|(apply u_call;rfl;rfl;(·first|exact c46 _ _ _|exact hf);rfl;simp only[sbe];rfl)|(apply u_and;rfl)|exact u_ret rfl rfl|(apply u_ret;rfl;first|exact rfl|(refine retB ?_)|(refine retI ?_)|(refine retD ?_))|(intro hz;(try simp only[sbs] at hz)))
 rw[not_any,allR,Bool.and_comm]

theorem c50 {l:List Int}{least most lo hi:Int}(hL:l.length≤maxLen):FSpecR Try.prog 8 (.st bs) [Is l,I least,I most,I lo,I hi] (B (allR l least most lo hi)):=by
 have hL':l.length≤9223372036854775807:=hL
 refine ku8.R rfl rfl ?_
 unfold u8
 simp only[ups_cons,ups_nil,List.cons_append,List.nil_append]
 repeat' ((with_reducible refine u_join ?_))
 refine u_range (fun i=>[I i]) (fun i=>∀k (h:k<i) (h2:k<l.length),inR l[k] lo hi=true) l.length rfl (fun _=>rfl) (fun k h=>absurd h (Nat.not_lt_zero _)) (fun i hj hJ R hR=>?_) (fun hJ R=>?_)
 ·have hli:decide ((i:Int)<(l.length:Int))=true:=by simp;omega
  cases hP:inR l[i] lo hi
  ·have hcal:=c49 (bs:=bs) l[i] lo hi
   rw[hP] at hcal
   repeat' (first|(apply nrm;simp only[sbe];rfl)|(apply u_iteT;rfl;(·first|exact hli|exact rfl))|(apply u_eaddr;rfl;rfl;exact eaddr_get hj rfl;simp only[sbe];rfl)|(apply u_lenL;rfl;exact lenL_map;simp only[sbe];rfl)|(apply u_ev;rfl;simp only[sbe];rfl)|(apply u_call;rfl;rfl;exact hcal;rfl;simp only[sbe];rfl)|refine u_join ?_|(apply u_ret;rfl;first|exact rfl|(refine retB ?_)|(refine retI ?_)|(refine retD ?_)))
   rw[allR,Bool.and_eq_false_iff.2 (.inl (List.all_eq_false.2 ⟨_,List.getElem_mem hj,by simp[hP]⟩))]
  ·have hcal:=c49 (bs:=bs) l[i] lo hi
   rw[hP] at hcal
   repeat' (first|(apply nrm;simp only[sbe];rfl)|(apply u_iteT;rfl;exact hli)|(apply u_iteF;rfl;exact rfl)|(apply u_eaddr;rfl;rfl;exact eaddr_get hj rfl;simp only[sbe];rfl)|(apply u_lenL;rfl;exact lenL_map;simp only[sbe];rfl)|(apply u_add;rfl;rfl;omega;simp only[sbe];rfl)|(apply u_ev;rfl;simp only[sbe];rfl)|(apply u_call;rfl;rfl;exact hcal;rfl;simp only[sbe];rfl)|refine u_join ?_|(apply u_jump;rfl;rfl)|refine at_jump ?_|refine kj rfl ?_)
   refine hR fun k hk h2=>?_
   rcases Nat.lt_or_ge k i with h3 | h3
   ·exact hJ k h3 h2
   ·have e:k=i:=by omega
    subst e
    exact hP
 ·repeat' (first|(apply nrm;simp only[sbe];rfl)|(apply u_lenL;rfl;exact lenL_map;simp only[sbe];rfl)|(apply u_ev;rfl;simp only[sbe];rfl)|(apply u_call;rfl;rfl;exact c49 _ _ _;rfl;simp only[sbe];rfl)|(apply u_jump;rfl;rfl)|refine at_jump ?_|(refine over_jump (by decide) ?_)|refine kj rfl ?_|(apply u_ite;rfl;all_goals (intro hz;(try simp only[sbs] at hz);first|(exact absurd hz (by decide))|(exfalso;omega)|skip))|(apply u_ret;rfl;first|exact rfl|(refine retB ?_)|(refine retI ?_)|(refine retD ?_)))
  rw[allR,List.all_eq_true.2 fun a ha=>?_,Bool.true_and]
  obtain⟨k,hk,rfl⟩:=List.mem_iff_getElem.1 ha
  exact hJ k hk hk

end Go.Am.Sc

/-
 ScD3,with the numbers of the seat of ScoreSeason.
-/
namespace Go.Am.Sc

open Go.Proofs

set_option maxRecDepth 100000

set_option maxHeartbeats 4000000

attribute [local irreducible] inR allR lineOk

variable {bs:List D} {p:Plan} {c:Card}

theorem noid_map {α:Type}{enc:α→D}(h:∀x,(enc x).noid=true):∀l:List α,noids (l.map enc)=true
 | []=>rfl
 | x :: l=>by simp[noids,h x,noid_map h l]

end Go.Am.Sc

/-
 ScT1,with the numbers of the seat of ScoreSeason.
-/
namespace Go.Am.Sc

open Go.Proofs

set_option maxRecDepth 100000

set_option maxHeartbeats 4000000

attribute [local irreducible] inR allR lineOk

variable {bs:List D} {p:Plan} {c:Card} {l:List Card}

theorem app_is {xs:List Int}{x:Int}(h:xs.length≤100000):D.app 1 8 (Is xs) (.lst [I x])=some (Is (xs++[x])):=app1_lst (enc:=I) (by omega) (Nat.le_trans (Nat.succ_le_succ h) (by decide)) (fun _=>rfl)

theorem ix_get {L:List Nat}{i:Nat}(h:i<L.length):D.eaddr 1 (Ix L) (In i)=some (.ptr [In L[i]]):=eaddr_get h rfl

theorem is_get {L:List Int}{i:Nat}(h:i<L.length):D.eaddr 1 (Is L) (In i)=some (.ptr [I (L.getD i 0)]):=by
 have e:L.getD i 0=L[i]:=by simp[List.getD,h]
 rw[e]
 exact eaddr_get (enc:=I) h rfl

theorem app_iss {xs ys:List Int}(h:xs.length+ys.length≤100000):D.app 1 8 (Is xs) (Is ys)=some (Is (xs++ys)):=app_lst (enc:=I) (by omega) (Nat.le_trans h (by decide)) (fun _=>rfl)

end Go.Am.Sc

/-
 ScM1,with the numbers of the seat of ScoreSeason.
-/
namespace Go.Am.Sc

open Go.Proofs

set_option maxRecDepth 100000

set_option maxHeartbeats 4000000

attribute [local irreducible] inR allR

variable {bs:List D}

theorem c115 (x:Int):FSpecR Try.prog 49 (.st bs) [I x] (B false):=by
 refine ku49.R rfl rfl ?_
 unfold u49
 simp only[ups_cons,ups_nil,List.cons_append,List.nil_append]
 repeat' (first|(apply u_ev;rfl;simp only[sbe];rfl)|(apply u_ret;rfl;first|exact rfl|(refine retB ?_)|(refine retI ?_)|(refine retD ?_)))
 simp

theorem c71 (x y:Int):FSpecR Try.prog 22 (.st bs) [I x,I y] (I (cmp1 x y)):=by
 refine ku22.R rfl rfl ?_
 unfold u22
 simp only[ups_cons,ups_nil,List.cons_append,List.nil_append]
 repeat' (first|(apply u_iteF;rfl;exact rfl)|(apply u_ev;rfl;simp only[sbe];rfl)|(apply u_call;rfl;rfl;exact c115 _;rfl;simp only[sbe];rfl)|(apply u_ite;rfl;all_goals (intro hz;(try simp only[sbs] at hz);first|(exact absurd hz (by decide))|(exfalso;omega)|skip))|(apply u_ret;rfl;first|exact rfl|(refine retB ?_)|(refine retI ?_)|(refine retD ?_)))
 all_goals (unfold cmp1;first | (rw[if_pos (by omega)];done) | (rw[if_neg (by omega),if_pos (by omega)];done) | (rw[if_neg (by omega),if_neg (by omega)];done))

theorem c83 {x y:Int}(hx:0≤x∧x≤100000)(hy:0≤y∧y≤100000):FSpecR Try.prog 18 (.st bs) [I x,I y] (I (y-x)):=by
 refine ku18.R rfl rfl ?_
 unfold u18
 simp only[ups_cons,ups_nil,List.cons_append,List.nil_append]
 repeat' (first|(apply u_sub;rfl;rfl;omega;simp only[sbe];rfl)|exact u_ret rfl rfl)

theorem cmpL_drop:∀{xs ys:List Int} {i:Nat},(∀k (h:k<i) (h1:k<xs.length) (h2:k<ys.length),xs[k]=ys[k])→i≤xs.length→i≤ys.length→cmpL xs ys=cmpL (xs.drop i) (ys.drop i)
 | xs,ys,0,_,_,_=>rfl
 | [],_,i+1,_,h1,_=>absurd h1 (by simp)
 | _ :: _,[],i+1,_,_,h2=>absurd h2 (by simp)
 | x :: xs,y :: ys,i+1,h,h1,h2=>by
  have h0:=h 0 (by omega) (by simp) (by simp)
  simp only[List.getElem_cons_zero] at h0
  rw[cmpL,if_neg (by omega),if_neg (by omega),List.drop_succ_cons,List.drop_succ_cons]
  exact cmpL_drop (fun k hk a b=>by have:=h (k+1) (by omega) (by simpa using a) (by simpa using b);simpa using this) (by simpa using h1) (by simpa using h2)

theorem c74 {xs ys:List Int}(hL:xs.length≤1000):FSpecR Try.prog 23 (.st bs) [Is xs,Is ys] (I (cmpL xs ys)):=by
 refine ku23.R rfl rfl ?_
 unfold u23
 simp only[ups_cons,ups_nil,List.cons_append,List.nil_append]
 repeat' (first|(apply u_lenL;rfl;exact lenL_map;simp only[sbe];rfl)|refine u_join ?_)
 refine u_range (fun i=>[In i]) (fun i=>i≤ys.length∧∀k (h:k<i) (h1:k<xs.length) (h2:k<ys.length),xs[k]=ys[k]) xs.length rfl (fun _=>rfl) ⟨Nat.zero_le _,fun k h=>absurd h (Nat.not_lt_zero _)⟩ (fun i hi hJ R hR=>?_) (fun hJ R=>?_)
 ·have hli:decide ((i:Int)<(xs.length:Int))=true:=by simp;omega
  have hx:xs.drop i=xs[i] :: xs.drop (i+1):=List.drop_eq_getElem_cons hi
  rcases Nat.lt_or_ge i ys.length with h2 | h2
  ·have hy:ys.drop i=ys[i] :: ys.drop (i+1):=List.drop_eq_getElem_cons h2
   have hf:decide ((i:Int)≥(ys.length:Int))=false:=by simp;omega
   have h71:=c71 (bs:=bs) xs[i] ys[i]
   by_cases he:xs[i]=ys[i]
   ·have h0:cmp1 xs[i] ys[i]=0:=by rw[cmp1,if_neg (by omega),if_neg (by omega)]
    rw[h0] at h71
    repeat' (first|(apply nrm;simp only[sbe];rfl)|(apply u_iteT;rfl;exact hli)|(apply u_iteF;rfl;(·first|exact hf|exact rfl))|(apply u_eaddr;rfl;rfl;(·first|exact eaddr_get hi rfl|exact eaddr_get h2 rfl);simp only[sbe];rfl)|(apply u_lenL;rfl;exact lenL_map;simp only[sbe];rfl)|(apply u_inc;rfl;omega;simp only[sbe];rfl)|(apply u_ev;rfl;simp only[sbe];rfl)|(apply u_call;rfl;rfl;exact h71;rfl;simp only[sbe];rfl)|refine u_join ?_|(apply u_jump;rfl;rfl)|refine at_jump ?_|refine kj rfl ?_)
    refine hR ⟨h2,fun k hk a b=>?_⟩
    rcases Nat.lt_or_ge k i with h3 | h3
    ·exact hJ.2 k h3 a b
    ·have e:k=i:=by omega
     subst e
     exact he
   ·have h0:cmpL xs ys=cmp1 xs[i] ys[i]:=by
     rw[cmpL_drop hJ.2 (by omega) (by omega),hx,hy,cmpL,cmp1]
     split
     ·rfl
     ·split
      ·rfl
      ·omega
    have hne:cmp1 xs[i] ys[i]≠0:=by
     unfold cmp1
     split
     ·omega
     ·split <;> omega
    have ht:(cmp1 xs[i] ys[i] != 0)=true:=by simpa using hne
    rw[h0]
    repeat' (first|(apply nrm;simp only[sbe];rfl)|(apply u_iteT;rfl;(·first|exact hli|exact ht))|(apply u_iteF;rfl;exact hf)|(apply u_eaddr;rfl;rfl;(·first|exact eaddr_get hi rfl|exact eaddr_get h2 rfl);simp only[sbe];rfl)|(apply u_lenL;rfl;exact lenL_map;simp only[sbe];rfl)|(apply u_ev;rfl;simp only[sbe];rfl)|(apply u_call;rfl;rfl;exact h71;rfl;simp only[sbe];rfl)|refine u_join ?_|(apply u_ret;rfl;first|exact rfl|(refine retB ?_)|(refine retI ?_)|(refine retD ?_)))
  ·have ht:decide ((i:Int)≥(ys.length:Int))=true:=by simp;omega
   have hy:ys.drop i=[]:=List.drop_eq_nil_of_le h2
   rw[cmpL_drop hJ.2 (by omega) hJ.1,hx,hy,cmpL]
   repeat' (first|(apply nrm;simp only[sbe];rfl)|(apply u_iteT;rfl;(·first|exact hli|exact ht))|(apply u_eaddr;rfl;rfl;exact eaddr_get hi rfl;simp only[sbe];rfl)|(apply u_lenL;rfl;exact lenL_map;simp only[sbe];rfl)|(apply u_ev;rfl;simp only[sbe];rfl)|refine u_join ?_|(apply u_ret;rfl;first|exact rfl|(refine retB ?_)|(refine retI ?_)|(refine retD ?_)))
 ·have hlf:decide ((xs.length:Int)<(xs.length:Int))=false:=by simp
  have hx:xs.drop xs.length=[]:=List.drop_eq_nil_of_le (Nat.le_refl _)
  rw[cmpL_drop hJ.2 (Nat.le_refl _) hJ.1,hx]
  rcases Nat.lt_or_ge xs.length ys.length with h2 | h2
  ·rw[List.drop_eq_getElem_cons h2,cmpL]
   repeat' (first|(apply nrm;simp only[sbe];rfl)|(apply u_iteF;rfl;exact hlf)|(apply u_lenL;rfl;exact lenL_map;simp only[sbe];rfl)|(apply u_ev;rfl;simp only[sbe];rfl)|(apply u_jump;rfl;rfl)|refine at_jump ?_|(refine over_jump (by decide) ?_)|refine kj rfl ?_|(apply u_ite;rfl;all_goals (intro hz;(try simp only[sbs] at hz);first|(exact absurd hz (by decide))|(exfalso;omega)|skip))|exact u_ret rfl rfl)
   all_goals (try omega)
  ·rw[List.drop_eq_nil_of_le h2,cmpL]
   repeat' (first|(apply nrm;simp only[sbe];rfl)|(apply u_iteF;rfl;exact hlf)|(apply u_lenL;rfl;exact lenL_map;simp only[sbe];rfl)|(apply u_ev;rfl;simp only[sbe];rfl)|(apply u_jump;rfl;rfl)|refine at_jump ?_|(refine over_jump (by decide) ?_)|refine kj rfl ?_|(apply u_ite;rfl;all_goals (intro hz;(try simp only[sbs] at hz);first|(exact absurd hz (by decide))|(exfalso;omega)|skip))|exact u_ret rfl rfl)
   all_goals (try omega)

theorem c85 (x y:Int):FSpecR Try.prog 21 (.st bs) [Is [x,y]] (I (if x≠0 then x else y)):=by
 have hl:D.lenL (Is [x,y])=some (I 2):=rfl
 refine ku21.R rfl rfl ?_
 unfold u21
 simp only[ups_cons,ups_nil,List.cons_append,List.nil_append]
 repeat' (first|(apply u_lenL;rfl;exact hl;simp only[sbe];rfl)|refine u_join ?_)
 refine u_range (fun i=>[In i]) (fun i=>0<i→x=0∧(1<i→y=0)) 2 rfl (fun _=>rfl) (fun h=>absurd h (by omega)) (fun i hi hJ R hR=>?_) (fun hJ R=>?_)
 ·have hli:decide ((i:Int)<2)=true:=by simp;omega
  obtain rfl | rfl:i=0∨i=1:=by omega
  ·have he:D.eaddr 1 (Is [x,y]) (In 0)=some (.ptr [I x]):=eaddr_get (enc:=I) (xs:=[x,y]) (i:=0) (by simp) rfl
   by_cases hx:x=0
   ·have hf:(x != 0)=false:=by simp[hx]
    repeat' (first|(apply nrm;simp only[sbe];rfl)|(apply u_iteT;rfl;exact hli)|(apply u_iteF;rfl;exact hf)|(apply u_eaddr;rfl;rfl;exact he;simp only[sbe];rfl)|(apply u_inc;rfl;omega;simp only[sbe];rfl)|(apply u_ev;rfl;simp only[sbe];rfl)|refine u_join ?_|(apply u_jump;rfl;rfl)|refine at_jump ?_|refine kj rfl ?_)
    exact hR fun _=>⟨hx,fun h=>absurd h (by omega)⟩
   ·have ht:(x != 0)=true:=by simp[hx]
    rw[if_pos hx]
    repeat' (first|(apply nrm;simp only[sbe];rfl)|(apply u_iteT;rfl;(·first|exact hli|exact ht))|(apply u_eaddr;rfl;rfl;exact he;simp only[sbe];rfl)|(apply u_ev;rfl;simp only[sbe];rfl)|refine u_join ?_|(apply u_ret;rfl;first|exact rfl|(refine retB ?_)|(refine retI ?_)|(refine retD ?_)))
  ·have hx:=(hJ (by omega)).1
   have he:D.eaddr 1 (Is [x,y]) (In 1)=some (.ptr [I y]):=eaddr_get (enc:=I) (xs:=[x,y]) (i:=1) (by simp) rfl
   rw[if_neg (by omega)]
   by_cases hy:y=0
   ·have hf:(y != 0)=false:=by simp[hy]
    repeat' (first|(apply nrm;simp only[sbe];rfl)|(apply u_iteT;rfl;exact hli)|(apply u_iteF;rfl;exact hf)|(apply u_eaddr;rfl;rfl;exact he;simp only[sbe];rfl)|(apply u_inc;rfl;omega;simp only[sbe];rfl)|(apply u_ev;rfl;simp only[sbe];rfl)|refine u_join ?_|(apply u_jump;rfl;rfl)|refine at_jump ?_|refine kj rfl ?_)
    exact hR fun _=>⟨hx,fun _=>hy⟩
   ·have ht:(y != 0)=true:=by simp[hy]
    repeat' (first|(apply nrm;simp only[sbe];rfl)|(apply u_iteT;rfl;(·first|exact hli|exact ht))|(apply u_eaddr;rfl;rfl;exact he;simp only[sbe];rfl)|(apply u_ev;rfl;simp only[sbe];rfl)|refine u_join ?_|(apply u_ret;rfl;first|exact rfl|(refine retB ?_)|(refine retI ?_)|(refine retD ?_)))
 ·have hlf:decide (((2:Nat):Int)<2)=false:=rfl
  have hx:=hJ (by omega)
  rw[if_neg (by omega)]
  repeat' (first|(apply nrm;simp only[sbe];rfl)|(apply u_iteF;rfl;exact hlf)|(apply u_ev;rfl;simp only[sbe];rfl)|(apply u_jump;rfl;rfl)|refine at_jump ?_|(refine over_jump (by decide) ?_)|refine kj rfl ?_|(apply u_ret;rfl;first|exact rfl|(refine retB ?_)|(refine retI ?_)|(refine retD ?_)))
  have:=hx.2 (by omega)
  omega

theorem c34 {xs ys:List Int}(hL:xs.length≤maxLen):FSpecR Try.prog 7 (.st bs) [Is xs,Is ys] (B (decide (xs=ys))):=by
 have hL':xs.length≤9223372036854775807:=hL
 refine ku7.R rfl rfl ?_
 unfold u7
 simp only[ups_cons,ups_nil,List.cons_append,List.nil_append]
 by_cases hl:xs.length=ys.length
 ·have hf:((xs.length:Int) != (ys.length:Int))=false:=by simp[hl]
  repeat' (first|(apply u_iteF;rfl;exact hf)|(apply u_lenL;rfl;exact lenL_map;simp only[sbe];rfl)|(apply u_ev;rfl;simp only[sbe];rfl)|refine u_join ?_)
  refine u_range (fun i=>[In i]) (fun i=>∀k (h:k<i) (h1:k<xs.length) (h2:k<ys.length),xs[k]=ys[k]) xs.length rfl (fun _=>rfl) (fun k h=>absurd h (Nat.not_lt_zero _)) (fun i hi hJ R hR=>?_) (fun hJ R=>?_)
  ·have hli:decide ((i:Int)<(xs.length:Int))=true:=by simp;omega
   have h2:i<ys.length:=by omega
   by_cases he:xs[i]=ys[i]
   ·have hf:(xs[i] != ys[i])=false:=by simp[he]
    repeat' (first|(apply nrm;simp only[sbe];rfl)|(apply u_iteT;rfl;exact hli)|(apply u_iteF;rfl;exact hf)|(apply u_eaddr;rfl;rfl;(·first|exact eaddr_get hi rfl|exact eaddr_get h2 rfl);simp only[sbe];rfl)|(apply u_lenL;rfl;exact lenL_map;simp only[sbe];rfl)|(apply u_add;rfl;rfl;omega;simp only[sbe];rfl)|(apply u_ev;rfl;simp only[sbe];rfl)|refine u_join ?_|(apply u_jump;rfl;rfl)|refine at_jump ?_|refine kj rfl ?_)
    refine hR fun k hk a b=>?_
    rcases Nat.lt_or_ge k i with h3 | h3
    ·exact hJ k h3 a b
    ·have e:k=i:=by omega
     subst e
     exact he
   ·have ht:(xs[i] != ys[i])=true:=by simp[he]
    have hne:xs≠ys:=fun e=>he (by subst e;rfl)
    repeat' (first|(apply nrm;simp only[sbe];rfl)|(apply u_iteT;rfl;(·first|exact hli|exact ht))|(apply u_eaddr;rfl;rfl;(·first|exact eaddr_get hi rfl|exact eaddr_get h2 rfl);simp only[sbe];rfl)|(apply u_lenL;rfl;exact lenL_map;simp only[sbe];rfl)|(apply u_ev;rfl;simp only[sbe];rfl)|refine u_join ?_|(apply u_ret;rfl;first|exact rfl|(refine retB ?_)|(refine retI ?_)|(refine retD ?_)))
    simp[hne]
  ·have hlf:decide ((xs.length:Int)<(xs.length:Int))=false:=by simp
   have he:xs=ys:=List.ext_getElem hl fun k h1 h2=>hJ k h1 h1 h2
   repeat' (first|(apply nrm;simp only[sbe];rfl)|(apply u_iteF;rfl;exact hlf)|(apply u_lenL;rfl;exact lenL_map;simp only[sbe];rfl)|(apply u_ev;rfl;simp only[sbe];rfl)|(apply u_jump;rfl;rfl)|refine at_jump ?_|(refine over_jump (by decide) ?_)|refine kj rfl ?_|(apply u_ret;rfl;first|exact rfl|(refine retB ?_)|(refine retI ?_)|(refine retD ?_)))
   simp[he]
 ·have ht:((xs.length:Int) != (ys.length:Int))=true:=by simp;omega
  have hne:xs≠ys:=fun e=>hl (by rw[e])
  repeat' (first|(apply u_iteT;rfl;exact ht)|(apply u_lenL;rfl;exact lenL_map;simp only[sbe];rfl)|(apply u_ev;rfl;simp only[sbe];rfl)|(apply u_ret;rfl;first|exact rfl|(refine retB ?_)|(refine retI ?_)|(refine retD ?_)))
  simp[hne]

end Go.Am.Sc

/-
 ScM2,with the numbers of the seat of ScoreSeason.
-/
namespace Go.Am.Sc

open Go.Proofs

set_option maxRecDepth 100000

set_option maxHeartbeats 4000000

attribute [local irreducible] inR allR

variable {bs:List D} {pts:List (List Int)} {drop:Int}

abbrev Pts (l:List (List Int)):D:=.lst (l.map Is)

theorem pt_get {i:Nat}(h:i<pts.length):D.eaddr 1 (Pts pts) (In i)=some (.ptr [Is (pt pts i)]):=by
 have e:pt pts i=pts[i]:=by simp[pt,List.getD,h]
 rw[e]
 exact eaddr_get (enc:=Is) h rfl

theorem pt_mem {i:Nat}(h:i<pts.length):pt pts i∈pts:=by
 have e:pt pts i=pts[i]:=by simp[pt,List.getD,h]
 rw[e]
 exact List.getElem_mem h

structure SeaOk (pts:List (List Int))(drop:Int):Prop where
 len:pts.length≤500
 dr:0≤drop
 each:∀i,i<pts.length→(pt pts i).length=(pt pts 0).length∧1≤(pt pts i).length∧(pt pts i).length≤40∧drop<(pt pts i).length∧∀x,x∈pt pts i→0≤x∧x≤100000

theorem seaOk (h:seasonOk pts drop=true):SeaOk pts drop:=by
 simp only[seasonOk,Bool.and_eq_true,decide_eq_true_eq,allR] at h
 obtain⟨⟨h1,h2⟩,h3⟩:=h
 refine⟨by omega,h2,fun i hi=>?_⟩
 have h4:=List.all_eq_true.1 h3 _ (pt_mem hi)
 simp only[Bool.and_eq_true,decide_eq_true_eq] at h4
 obtain⟨h5,⟨h6,h7⟩,h8⟩:=h4
 have h7:=inR_t h7
 exact⟨by unfold pt at h5 ⊢;omega,by omega,by omega,h8,fun x hx=>inR_t (List.all_eq_true.1 h6 x hx)⟩

def seaB (pts:List (List Int))(drop:Int)(l:List Int):Bool:=decide ((l.length:Int)=(pts.getD 0 []).length)&&(allR l 1 40 0 100000&&decide (drop<l.length))

theorem c32 (hp:TmsOk pts):FSpecR Try.prog 4 (.st bs) [Pts pts,I drop] (B (seasonOk pts drop)):=by
 have hL:=hp.2
 refine ku4.R rfl rfl ?_
 unfold u4
 simp only[ups_cons,ups_nil,List.cons_append,List.nil_append]
 repeat' (first|(apply nrm;simp only[sbe];rfl)|(apply u_lenL;rfl;exact lenL_map;simp only[sbe];rfl)|(apply u_ev;rfl;simp only[sbe];rfl)|(apply u_or;rfl)|refine u_join ?_|(apply u_ite;rfl;all_goals (intro hz;(try simp only[sbs] at hz);first|(exact absurd hz (by decide))|(exfalso;omega)|skip))|exact u_ret rfl rfl|(apply u_ret;rfl;first|exact rfl|(refine retB ?_)|(refine retI ?_)|(refine retD ?_))|(intro hz;(try simp only[sbs] at hz)))
 ·symm
  rw[Bool.eq_false_iff]
  intro h
  simp only[seasonOk,Bool.and_eq_true,decide_eq_true_eq] at h
  omega
 ·refine u_range (fun i=>[In i]) (fun i=>∀k,k<i→seaB pts drop (pt pts k)=true) pts.length rfl (fun _=>rfl) (fun k h=>absurd h (Nat.not_lt_zero _)) (fun i hi hJ R hR=>?_) (fun hJ R=>?_)
  ·have hli:decide ((i:Int)<(pts.length:Int))=true:=by simp;omega
   have h50:=c50 (bs:=bs) (l:=pt pts i) (least:=1) (most:=40) (lo:=0) (hi:=100000) (hp.1 _ (pt_mem hi)).2
   have h0:D.eaddr 1 (Pts pts) (I 0)=some (.ptr [Is (pt pts 0)]):=pt_get (i:=0) (by omega)
   have hz0:pt pts 0=pts.getD 0 []:=rfl
   have hv:(!(decide (((pt pts i).length:Int)=((pt pts 0).length:Int))))=(((pt pts i).length:Int) != ((pt pts 0).length:Int)):=by
    rw[Bool.eq_iff_iff];simp
   have he:((((pt pts i).length:Int) != ((pt pts 0).length:Int))||!allR (pt pts i) 1 40 0 100000||decide (drop≥((pt pts i).length:Int)))=!seaB pts drop (pt pts i):=by
    rw[←hv,seaB,←hz0,Bool.eq_iff_iff]
    simp only[Bool.or_eq_true,Bool.not_eq_true',Bool.and_eq_false_iff,decide_eq_true_eq,decide_eq_false_iff_not,Bool.or_assoc]
    constructor <;> intro h <;> rcases h with h | h | h
    ·exact .inl h
    ·exact .inr (.inl h)
    ·exact .inr (.inr (by omega))
    ·exact .inl h
    ·exact .inr (.inl h)
    ·exact .inr (.inr (by omega))
   cases hb:seaB pts drop (pt pts i)
   ·rw[hb] at he
    repeat' (first|(apply nrm;simp only[sbe];rfl)|(apply u_iteT;rfl;(·first|exact hli|exact he))|(apply u_eaddr;rfl;rfl;(·first|exact pt_get hi|exact h0);simp only[sbe];rfl)|(apply u_lenL;rfl;exact lenL_map;simp only[sbe];rfl)|(apply u_ev;rfl;simp only[sbe];rfl)|(apply u_call;rfl;rfl;exact h50;rfl;simp only[sbe];rfl)|(apply u_or;rfl)|refine u_join ?_|exact u_ret rfl rfl|(apply u_ret;rfl;first|exact rfl|(refine retB ?_)|(refine retI ?_)|(refine retD ?_))|(intro hz;(try simp only[sbs] at hz)))
    symm
    rw[seasonOk,Bool.and_eq_false_iff]
    exact .inr (List.all_eq_false.2 ⟨_,pt_mem hi,by simpa[seaB] using hb⟩)
   ·rw[hb] at he
    repeat' (first|(apply nrm;simp only[sbe];rfl)|(apply u_iteT;rfl;exact hli)|(apply u_iteF;rfl;exact he)|(apply u_eaddr;rfl;rfl;(·first|exact pt_get hi|exact h0);simp only[sbe];rfl)|(apply u_lenL;rfl;exact lenL_map;simp only[sbe];rfl)|(apply u_inc;rfl;omega;simp only[sbe];rfl)|(apply u_ev;rfl;simp only[sbe];rfl)|(apply u_call;rfl;rfl;exact h50;rfl;simp only[sbe];rfl)|(apply u_or;rfl)|refine u_join ?_|(apply u_jump;rfl;rfl)|refine at_jump ?_|refine kj rfl ?_|exact u_ret rfl rfl|(intro hz;(try simp only[sbs] at hz)))
    refine hR fun k hk=>?_
    rcases Nat.lt_or_ge k i with h3 | h3
    ·exact hJ k h3
    ·rw[show k=i by omega]
     exact hb
  ·have hlf:decide ((pts.length:Int)<(pts.length:Int))=false:=by simp
   repeat' (first|(apply nrm;simp only[sbe];rfl)|(apply u_iteF;rfl;exact hlf)|(apply u_lenL;rfl;exact lenL_map;simp only[sbe];rfl)|(apply u_ev;rfl;simp only[sbe];rfl)|(apply u_jump;rfl;rfl)|refine at_jump ?_|(refine over_jump (by decide) ?_)|refine kj rfl ?_|(apply u_ret;rfl;first|exact rfl|(refine retB ?_)|(refine retI ?_)|(refine retD ?_)))
   symm
   simp only[seasonOk,Bool.and_eq_true,decide_eq_true_eq,List.all_eq_true]
   refine⟨by omega,fun l hl=>?_⟩
   obtain⟨k,hk,rfl⟩:=List.mem_iff_getElem.1 hl
   have:=hJ k hk
   have e:pt pts k=pts[k]:=by simp[pt,List.getD,hk]
   rw[e] at this
   simpa[seaB] using this

end Go.Am.Sc

/-
 ScM3,with the numbers of the seat of ScoreSeason.
-/
namespace Go.Am.Sc

open Go.Proofs

set_option maxRecDepth 100000

set_option maxHeartbeats 4000000

attribute [local irreducible] inR allR

variable {bs:List D} {pts:List (List Int)} {drop:Int}

def totL (pts:List (List Int))(drop:Int):List Int:=(List.range pts.length).map (totC pts drop)

theorem totL_len:(totL pts drop).length=pts.length:=by simp[totL]

theorem totL_get {i:Nat}(h:i<pts.length):(totL pts drop).getD i 0=totC pts drop i:=by simp[totL,List.getD,h]

theorem tot_get {i:Nat}(h:i<pts.length):D.eaddr 1 (Is (totL pts drop)) (In i)=some (.ptr [I (totC pts drop i)]):=by
 rw[←totL_get h]
 exact is_get (by rw[totL_len];exact h)

theorem idx_is {X:List Int}{i:Nat}(h:i<X.length):D.idx (Is X) (In i)=some (I (X.getD i 0)):=by
 simp[D.idx,h,List.getD]

theorem set_is {X:List Int}{i:Nat}(h:i<X.length)(y:Int):D.set (Is X) (In i) 0 (I y)=some (Is (X.set i y)):=by
 simp[D.set,h,D.putAt,D.one]

theorem e_cidx {x y:E}{env:List D}{X:List Int}{i:Nat}(h:i<X.length)(hx:x.eval env=some (Is X))(hy:y.eval env=some (In i)):(E.cell 0 (.idx x y)).eval env=some (I (X.getD i 0)):=by
 simp only[E.eval,hx,hy,Option.bind_some,idx_is h]
 rfl

def sumL (l:List Int)(k:Nat):Int:=(l.take k).foldl (·+·) 0

theorem sumL_succ {l:List Int}{k:Nat}(h:k<l.length):sumL l (k+1)=sumL l k+l[k]:=by
 rw[sumL,List.take_add_one,List.getElem?_eq_getElem h,Option.toList_some,List.foldl_append]
 rfl

theorem sumL_bd {l:List Int}(h:∀x,x∈l→0≤x∧x≤100000):∀{k:Nat},k≤l.length→0≤sumL l k∧sumL l k≤100000*k
 | 0,_=>by simp[sumL]
 | k+1,hk=>by
  have ih:=sumL_bd h (k:=k) (by omega)
  have:=h _ (List.getElem_mem (show k<l.length by omega))
  rw[sumL_succ (by omega)]
  omega

def totTo' (pts:List (List Int))(drop:Int)(i:Nat):List Int:=(List.range pts.length).map fun j=>if j<i then totC pts drop j else 0

theorem totTo'_len {i:Nat}:(totTo' pts drop i).length=pts.length:=by simp[totTo']

theorem totTo'_get {i:Nat}(h:i<pts.length):(totTo' pts drop i).getD i 0=0:=by simp[totTo',List.getD,h]

theorem totTo'_succ {i:Nat}(h:i<pts.length):totTo' pts drop (i+1)=(totTo' pts drop i).set i (totC pts drop i):=by
 refine List.ext_getElem (by simp[totTo']) fun k h1 h2=>?_
 rw[List.getElem_set]
 simp only[totTo',List.getElem_map,List.getElem_range]
 split
 ·split
  ·rename_i h3;rw[h3]
  ·rw[if_pos (by omega)]
 ·split
  ·omega
  ·rw[if_neg (by omega)]

theorem totTo'_end:totTo' pts drop pts.length=totL pts drop:=by
 unfold totTo' totL
 refine List.map_congr_left fun k hk=>?_
 rw[if_pos (List.mem_range.1 hk)]

theorem rep_is {n:Nat}(h:n≤1000):D.rep 8 (I n) (I 0)=some (Is (List.replicate n 0)):=by
 simp only[D.rep,Int.toNat_natCast,List.map_replicate]
 rw[if_pos ⟨by omega,by omega,Nat.le_trans h (by decide)⟩,show Is (List.replicate n 0)=.lst ((List.replicate n 0).map I) from rfl,List.map_replicate]

theorem allN (o:List Nat):allCells 1 (o.map In)=true:=by
 simp only[allCells,List.all_map,List.all_eq_true]
 exact fun _ _=>rfl

end Go.Am.Sc
