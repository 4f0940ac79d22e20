/-
  Several texts, one behind the other.
-/
import Derived.Test.YthkepocejfghcaaGreatScC1toScM2
import Derived.Test.YthkepocejfghcaaGreatAmSortP
set_option linter.unusedSimpArgs false
set_option linter.unusedVariables false
/-
 Championships: the order,by insertion,is the stable one.
-/
namespace Go.Am.Sc
open Srt (lt Ord so)

theorem cmpL_neg:∀xs ys:List Int,cmpL ys xs=- cmpL xs ys
 | [],[]=>rfl
 | [],_ :: _=>rfl
 | _ :: _,[]=>rfl
 | x :: xs,y :: ys=>by
  rw[cmpL,cmpL]
  have:=cmpL_neg xs ys
  rcases Int.lt_trichotomy x y with h | h | h
  ·rw[if_neg (by omega),if_pos h,if_pos h]
   rfl
  ·rw[if_neg (by omega),if_neg (by omega),if_neg (by omega),if_neg (by omega)]
   exact this
  ·rw[if_pos h,if_neg (by omega),if_pos h]

theorem cmpL_trans:∀xs ys zs:List Int,cmpL xs ys≤0→cmpL ys zs≤0→cmpL xs zs≤0
 | [],_,[],_,_=>by simp[cmpL]
 | [],_,_ :: _,_,_=>by simp[cmpL]
 | _ :: _,[],_,h,_=>by simp[cmpL] at h
 | x :: xs,y :: ys,[],_,h=>by simp[cmpL] at h
 | x :: xs,y :: ys,z :: zs,h1,h2=>by
  have ih:=cmpL_trans xs ys zs
  rw[cmpL] at h1 h2 ⊢
  split at h1
  ·split at h2
   ·rw[if_pos (by omega)];omega
   ·split at h2
    ·omega
    ·rw[if_pos (by omega)];omega
  ·split at h1
   ·omega
   ·split at h2
    ·rw[if_pos (by omega)];omega
    ·split at h2
     ·omega
     ·rw[if_neg (by omega),if_neg (by omega)]
      exact ih h1 h2

variable (pts:List (List Int)) (drop:Int)

def cmpI (x y:Int):Int:=cmpC pts drop x.toNat y.toNat

theorem cmpC_spec (a b:Nat):(totC pts drop a > totC pts drop b∧cmpC pts drop a b=-1)∨(totC pts drop a<totC pts drop b∧cmpC pts drop a b=1)∨(totC pts drop a=totC pts drop b∧cmpC pts drop a b=cmpL (fall (pt pts b)) (fall (pt pts a))):=by
 rcases Int.lt_trichotomy (totC pts drop a) (totC pts drop b) with h | h | h
 ·have e:cmp1 (totC pts drop b) (totC pts drop a)=1:=by rw[cmp1,if_neg (by omega),if_pos h]
  exact .inr (.inl ⟨h,by rw[cmpC,e,if_pos (by decide)]⟩)
 ·have e:cmp1 (totC pts drop b) (totC pts drop a)=0:=by rw[cmp1,if_neg (by omega),if_neg (by omega)]
  exact .inr (.inr ⟨h,by rw[cmpC,e,if_neg (by decide)]⟩)
 ·have e:cmp1 (totC pts drop b) (totC pts drop a)=-1:=by rw[cmp1,if_pos h]
  exact .inl ⟨h,by rw[cmpC,e,if_pos (by decide)]⟩

theorem ord_cmp (dom:Int→Prop):Ord (cmpI pts drop) dom where
 anti:=fun x y _ _=>by
  unfold cmpI
  have h1:=cmpC_spec pts drop x.toNat y.toNat
  have h2:=cmpC_spec pts drop y.toNat x.toNat
  have h3:=cmpL_neg (fall (pt pts x.toNat)) (fall (pt pts y.toNat))
  omega
 trans:=fun x y z _ _ _ a1 a2=>by
  unfold cmpI at *
  have h1:=cmpC_spec pts drop x.toNat y.toNat
  have h2:=cmpC_spec pts drop y.toNat z.toNat
  have h3:=cmpC_spec pts drop x.toNat z.toNat
  have h4:=cmpL_trans (fall (pt pts z.toNat)) (fall (pt pts y.toNat)) (fall (pt pts x.toNat))
  omega

theorem ahead_lt (a b:Nat):aheadB pts drop a b=decide (lt (cmpI pts drop) a b):=by
 rw[Bool.eq_iff_iff,decide_eq_true_eq]
 have h1:=cmpC_spec pts drop a b
 have h3:=cmpL_neg (fall (pt pts a)) (fall (pt pts b))
 unfold aheadB lt cmpI
 simp only[Int.toNat_natCast]
 split
 ·rw[decide_eq_true_eq]
  omega
 ·split
  ·rw[decide_eq_true_eq]
   omega
  ·rw[decide_eq_true_eq]
   omega

def insO (A:Nat→Nat→Bool)(i:Nat):List Nat→List Nat
 | []=>[i]
 | o :: r=>if A i o=true then i :: o :: r else o :: insO A i r

theorem insO_at {A:Nat→Nat→Bool}{i:Nat}:∀{l:List Nat} {k:Nat},k≤l.length→(∀j (h:j<k) (h2:j<l.length),A i l[j]=false)→(∀h:k<l.length,A i l[k]=true)→insO A i l=l.take k++[i]++l.drop k
 | [],k,hk,_,_=>by simp[insO]
 | x :: r,0,_,_,h3=>by
  have:A i x=true:=h3 (by simp)
  rw[insO,if_pos this]
  simp
 | x :: r,k+1,hk,h2,h3=>by
  have h0:A i x=false:=h2 0 (by omega) (by simp)
  have:=insO_at (A:=A) (i:=i) (l:=r) (k:=k) (by simpa using hk) (fun j h h'=>by have:=h2 (j+1) (by omega) (by simpa using h');rwa [List.getElem_cons_succ] at this) (fun h=>by have:=h3 (by simpa using h);rwa [List.getElem_cons_succ] at this)
  rw[insO,if_neg (by simp[h0]),this]
  simp

theorem insO_perm (A:Nat→Nat→Bool)(i:Nat):∀l:List Nat,(insO A i l).Perm (i :: l)
 | []=>.refl _
 | o :: r=>by
  rw[insO]
  split
  ·exact .refl _
  ·exact((insO_perm A i r).cons o).trans (.swap i o r)

def ordTo (A:Nat→Nat→Bool):Nat→List Nat
 | 0=>[]
 | n+1=>insO A n (ordTo A n)

theorem ordTo_perm (A:Nat→Nat→Bool):∀n,(ordTo A n).Perm (List.range n)
 | 0=>.refl _
 | n+1=>by
  rw[ordTo,List.range_succ]
  exact(insO_perm A n _).trans (((ordTo_perm A n).cons n).trans (List.perm_append_singleton n _).symm)

theorem ordTo_len (A:Nat→Nat→Bool)(n:Nat):(ordTo A n).length=n:=by simpa using(ordTo_perm A n).length_eq

theorem insO_sorted {i:Nat}:∀{l:List Nat},(∀x,x∈l→x≠i)→l.Pairwise (fun a b:Nat=>lt (cmpI pts drop) (a:Int) (b:Int))→(insO (aheadB pts drop) i l).Pairwise fun a b:Nat=>lt (cmpI pts drop) (a:Int) (b:Int)
 | [],_,_=>by simp[insO]
 | o :: r,hn,h=>by
  have hO:=ord_cmp pts drop (fun _=>True)
  have h1:=List.pairwise_cons.1 h
  rw[insO,ahead_lt]
  split
  ·rename_i hlt
   have hlt:=of_decide_eq_true hlt
   refine List.pairwise_cons.2 ⟨fun y hy=>?_,h⟩
   rcases List.mem_cons.1 hy with rfl | hy
   ·exact hlt
   ·exact hO.lt_trans trivial trivial trivial hlt (h1.1 y hy)
  ·rename_i hlt
   have hlt:¬lt (cmpI pts drop) (i:Int) (o:Int):=fun e=>hlt (decide_eq_true e)
   refine List.pairwise_cons.2 ⟨fun y hy=>?_,insO_sorted (fun x hx=>hn x (List.mem_cons_of_mem _ hx)) h1.2⟩
   rcases List.mem_cons.1 ((insO_perm _ i r).mem_iff.1 hy) with rfl | hy
   ·have hne:(o:Int)≠(y:Int):=by have:=hn o (List.mem_cons_self ..);omega
    rcases hO.lt_total trivial trivial hne with h2 | h2
    ·exact h2
    ·exact absurd h2 hlt
   ·exact h1.1 y hy

theorem ordTo_sorted:∀n,(ordTo (aheadB pts drop) n).Pairwise fun a b:Nat=>lt (cmpI pts drop) (a:Int) (b:Int)
 | 0=>.nil
 | n+1=>insO_sorted pts drop (fun x hx=>by
   have:=List.mem_range.1 ((ordTo_perm _ n).mem_iff.1 hx)
   omega) (ordTo_sorted n)

theorem ord_so (n:Nat):(ordTo (aheadB pts drop) n).map Int.ofNat=so (cmpI pts drop) ((List.range n).map Int.ofNat):=by
 have hO:=ord_cmp pts drop (fun _=>True)
 have hnd:((List.range n).map Int.ofNat).Nodup:=by
  rw[List.Nodup,List.pairwise_map]
  exact(List.nodup_range (n:=n)).imp fun h e=>h (by injection e)
 exact Srt.perm_unique hO (fun _ _=>trivial) (((ordTo_perm _ n).map Int.ofNat).trans (Srt.so_perm _).symm) (by
  rw[List.pairwise_map]
  exact ordTo_sorted pts drop n) (Srt.so_sorted hO (fun _ _=>trivial) hnd)

end Go.Am.Sc

/-
 Championships: who comes before whom,and the order,in the specification.
-/
namespace Go.Am.Sc
open Go.Proofs
set_option maxRecDepth 100000
set_option maxHeartbeats 4000000

attribute [local irreducible] inR allR

variable {bs:List D} {pts:List (List Int)} {drop:Int}

def totL (pts:List (List Int))(drop:Int):List Int:=(List.range pts.length).map (totC pts drop)
theorem totL_len:(totL pts drop).length=pts.length:=by simp[totL]
theorem totL_get {i:Nat}(h:i<pts.length):(totL pts drop).getD i 0=totC pts drop i:=by simp[totL,List.getD,h]
theorem tot_get {i:Nat}(h:i<pts.length):D.eaddr 1 (Is (totL pts drop)) (In i)=some (.ptr [I (totC pts drop i)]):=by
 rw[←totL_get h]
 exact is_get (by rw[totL_len];exact h)

theorem c87 (hs:SeaOk pts drop){a b:Nat}(ha:a<pts.length)(hb:b<pts.length):FSpecR Tryz.prog 87 (.st bs) [Pts pts,Is (totL pts drop),In a,In b] (B (aheadB pts drop a b)):=by
 have ea:=hs.each a ha
 have eb:=hs.each b hb
 have h86a:=c86 (bs:=bs) (l:=pt pts a) (by omega)
 have h86b:=c86 (bs:=bs) (l:=pt pts b) (by omega)
 have la:=fall_len (pt pts a)
 have lb:=fall_len (pt pts b)
 unfold aheadB
 by_cases ht:totC pts drop a=totC pts drop b
 ·have hf:(totC pts drop a != totC pts drop b)=false:=by simp[ht]
  rw[if_neg (by omega)]
  refine ku87.R rfl rfl ?_
  unfold u87
  simp only[ups_cons,ups_nil,List.cons_append,List.nil_append]
  repeat' (first|(apply u_iteF;rfl;exact hf)|(apply u_eaddr;rfl;rfl;(·first|exact tot_get ha|exact tot_get hb|exact pt_get ha|exact pt_get hb);simp only[sbe];rfl)|(apply u_ev;rfl;simp only[sbe];rfl)|(apply u_call;rfl;rfl;(·first|exact h86a|exact h86b);rfl;simp only[sbe];rfl)|refine u_join ?_)
  generalize fall (pt pts a)=xs at la ⊢
  generalize fall (pt pts b)=ys at lb ⊢
  refine u_range (fun i=>[In i]) (fun i=>∀k (h:k<i) (h1:k<xs.length) (h2:k<ys.length),xs[k]=ys[k]) xs.length rfl (fun _=>rfl) (fun k h=>absurd h (Nat.not_lt_zero _)) (fun i hi hJ R hR=>?_) (fun hJ R=>?_)
  ·have hli:decide ((i:Int)<(xs.length:Int))=true:=by simp;omega
   have h2:i<ys.length:=by omega
   by_cases he:xs[i]=ys[i]
   ·have hf:(xs[i] != ys[i])=false:=by simp[he]
    repeat' (first|(apply nrm;simp only[sbe];rfl)|(apply u_iteT;rfl;exact hli)|(apply u_iteF;rfl;exact hf)|(apply u_eaddr;rfl;rfl;(·first|exact eaddr_get hi rfl|exact eaddr_get h2 rfl);simp only[sbe];rfl)|(apply u_lenL;rfl;exact lenL_map;simp only[sbe];rfl)|(apply u_inc;rfl;omega;simp only[sbe];rfl)|(apply u_ev;rfl;simp only[sbe];rfl)|refine u_join ?_|(apply u_jump;rfl;rfl)|refine at_jump ?_|refine kj rfl ?_)
    refine hR fun k hk a b=>?_
    rcases Nat.lt_or_ge k i with h3 | h3
    ·exact hJ k h3 a b
    ·have e:k=i:=by omega
     subst e
     exact he
   ·have ht:(xs[i] != ys[i])=true:=by simp[he]
    have h0:cmpL xs ys=cmp1 xs[i] ys[i]:=by
     rw[cmpL_drop hJ (by omega) (by omega),List.drop_eq_getElem_cons hi,List.drop_eq_getElem_cons h2,cmpL,cmp1]
     split
     ·rfl
     ·split
      ·rfl
      ·omega
    have hv:(if cmpL xs ys≠0 then decide (cmpL xs ys > 0) else decide (a<b))=decide (xs[i] > ys[i]):=by
     rcases Int.lt_trichotomy xs[i] ys[i] with h | h | h
     ·have c1:cmp1 xs[i] ys[i]=-1:=by rw[cmp1,if_pos h]
      rw[h0,c1,if_pos (by decide)]
      simp
      omega
     ·exact absurd h he
     ·have c1:cmp1 xs[i] ys[i]=1:=by rw[cmp1,if_neg (by omega),if_pos h]
      rw[h0,c1,if_pos (by decide)]
      simp
      omega
    rw[hv]
    repeat' (first|(apply nrm;simp only[sbe];rfl)|(apply u_iteT;rfl;(·first|exact hli|exact ht))|(apply u_eaddr;rfl;rfl;(·first|exact eaddr_get hi rfl|exact eaddr_get h2 rfl);simp only[sbe];rfl)|(apply u_lenL;rfl;exact lenL_map;simp only[sbe];rfl)|(apply u_ev;rfl;simp only[sbe];rfl)|refine u_join ?_|(apply u_ret;rfl;first|exact rfl|(refine retB ?_)|(refine retI ?_)|(refine retD ?_)))
  ·have hlf:decide ((xs.length:Int)<(xs.length:Int))=false:=by simp
   have h0:cmpL xs ys=0:=by
    rw[cmpL_drop hJ (Nat.le_refl _) (by omega),List.drop_eq_nil_of_le (Nat.le_refl _),List.drop_eq_nil_of_le (by omega)]
    rfl
   rw[if_neg (by simp[h0])]
   repeat' (first|(apply nrm;simp only[sbe];rfl)|(apply u_iteF;rfl;exact hlf)|(apply u_lenL;rfl;exact lenL_map;simp only[sbe];rfl)|(apply u_ev;rfl;simp only[sbe];rfl)|(apply u_jump;rfl;rfl)|refine at_jump ?_|(refine over_jump (by decide) ?_)|refine kj rfl ?_|(apply u_ret;rfl;first|exact rfl|(refine retB ?_)|(refine retI ?_)|(refine retD ?_)))
   simp
 ·have hf:(totC pts drop a != totC pts drop b)=true:=by simp[ht]
  rw[if_pos ht]
  refine ku87.R rfl rfl ?_
  unfold u87
  simp only[ups_cons,ups_nil,List.cons_append,List.nil_append]
  repeat' (first|(apply u_iteT;rfl;exact hf)|(apply u_eaddr;rfl;rfl;(·first|exact tot_get ha|exact tot_get hb);simp only[sbe];rfl)|(apply u_ev;rfl;simp only[sbe];rfl)|exact u_ret rfl rfl)

theorem idx_is {X:List Int}{i:Nat}(h:i<X.length):D.idx (Is X) (In i)=some (I (X.getD i 0)):=by
 simp[D.idx,h,List.getD]
theorem set_is {X:List Int}{i:Nat}(h:i<X.length)(y:Int):D.set (Is X) (In i) 0 (I y)=some (Is (X.set i y)):=by
 simp[D.set,h,D.putAt,D.one]
theorem e_cidx {x y:E}{env:List D}{X:List Int}{i:Nat}(h:i<X.length)(hx:x.eval env=some (Is X))(hy:y.eval env=some (In i)):(E.cell 0 (.idx x y)).eval env=some (I (X.getD i 0)):=by
 simp only[E.eval,hx,hy,Option.bind_some,idx_is h]
 rfl

def sumL (l:List Int)(k:Nat):Int:=(l.take k).foldl (·+·) 0
theorem sumL_succ {l:List Int}{k:Nat}(h:k<l.length):sumL l (k+1)=sumL l k+l[k]:=by
 rw[sumL,List.take_add_one,List.getElem?_eq_getElem h,Option.toList_some,List.foldl_append]
 rfl
theorem sumL_bd {l:List Int}(h:∀x,x∈l→0≤x∧x≤100000):∀{k:Nat},k≤l.length→0≤sumL l k∧sumL l k≤100000*k
 | 0,_=>by simp[sumL]
 | k+1,hk=>by
  have ih:=sumL_bd h (k:=k) (by omega)
  have:=h _ (List.getElem_mem (show k<l.length by omega))
  rw[sumL_succ (by omega)]
  omega

def totTo' (pts:List (List Int))(drop:Int)(i:Nat):List Int:=(List.range pts.length).map fun j=>if j<i then totC pts drop j else 0

theorem totTo'_len {i:Nat}:(totTo' pts drop i).length=pts.length:=by simp[totTo']
theorem totTo'_get {i:Nat}(h:i<pts.length):(totTo' pts drop i).getD i 0=0:=by simp[totTo',List.getD,h]
theorem totTo'_succ {i:Nat}(h:i<pts.length):totTo' pts drop (i+1)=(totTo' pts drop i).set i (totC pts drop i):=by
 refine List.ext_getElem (by simp[totTo']) fun k h1 h2=>?_
 rw[List.getElem_set]
 simp only[totTo',List.getElem_map,List.getElem_range]
 split
 ·split
  ·rename_i h3;rw[h3]
  ·rw[if_pos (by omega)]
 ·split
  ·omega
  ·rw[if_neg (by omega)]
theorem totTo'_end:totTo' pts drop pts.length=totL pts drop:=by
 unfold totTo' totL
 refine List.map_congr_left fun k hk=>?_
 rw[if_pos (List.mem_range.1 hk)]

theorem rep_is {n:Nat}(h:n≤1000):D.rep 8 (I n) (I 0)=some (Is (List.replicate n 0)):=by
 simp only[D.rep,Int.toNat_natCast,List.map_replicate]
 rw[if_pos ⟨by omega,by omega,Nat.le_trans h (by decide)⟩,show Is (List.replicate n 0)=.lst ((List.replicate n 0).map I) from rfl,List.map_replicate]

theorem allN (o:List Nat):allCells 1 (o.map In)=true:=by
 simp only[allCells,List.all_map,List.all_eq_true]
 exact fun _ _=>rfl
theorem sub_ix {o:List Nat}{a b:Nat}(h1:a≤b)(h2:b≤o.length):D.sub 1 (Ix o) (In a) (In b)=some (Ix ((o.drop a).take (b-a))):=by
 simp only[D.sub]
 rw[if_pos ⟨by omega,by omega,by simp;omega,allN o⟩,show((a:Int)).toNat=a by omega,show((b:Int)-(a:Int)).toNat=b-a by omega]
 show some (D.lst _)=some (D.lst (List.map In _))
 rw[List.map_take,List.map_drop]
theorem app_ixs {xs ys:List Nat}(h:xs.length+ys.length≤100000):D.app 1 8 (Ix xs) (Ix ys)=some (Ix (xs++ys)):=app_lst (enc:=In) (by omega) (Nat.le_trans h (by decide)) (fun _=>rfl)


theorem c33 (hs:SeaOk pts drop):FSpecR Tryz.prog 33 (.st bs) [Pts pts,I drop] (.tup [Ix (ordTo (aheadB pts drop) pts.length),Is ((ordTo (aheadB pts drop) pts.length).map (totC pts drop))]):=by
 have hsl:=hs.len
 have hdr:=hs.dr
 refine ku33.R rfl rfl ?_
 unfold u33
 simp only[ups_cons,ups_nil,List.cons_append,List.nil_append]
 have hrep:=rep_is (n:=pts.length) (by omega)
 repeat' (first|(apply u_lenL;rfl;exact lenL_map;simp only[sbe];rfl)|(apply u_rep;rfl;exact hrep;simp only[sbe];rfl)|refine u_join ?_)
 refine u_range (fun i=>[In i,Is (totTo' pts drop i)]) (fun _=>True) pts.length ?_ (fun _=>rfl) trivial (fun i hi _ R hR=>?_) (fun _ R=>?_)
 ·have e:totTo' pts drop 0=List.replicate pts.length 0:=by
   refine List.ext_getElem (by simp[totTo']) fun k h1 h2=>?_
   simp[totTo']
  rw[e]
  rfl
 ·have hli:decide ((i:Int)<(pts.length:Int))=true:=by simp;omega
  have hR:=hR trivial
  have ei:=hs.each i hi
  have h86:=c86 (bs:=bs) (l:=pt pts i) (by omega)
  have hfl:=fall_len (pt pts i)
  have hfm:∀x,x∈fall (pt pts i)→0≤x∧x≤100000:=fun x hx=>ei.2.2.2.2 x (fall_mem.1 hx)
  rw[totTo'_succ hi] at hR
  have hT0:=totTo'_get (pts:=pts) (drop:=drop) hi
  have hTl:=totTo'_len (pts:=pts) (drop:=drop) (i:=i)
  have htc:totC pts drop i=sumL (fall (pt pts i)) (((pt pts i).length:Int)-drop).toNat:=rfl
  rw[htc] at hR
  generalize totTo' pts drop i=T at hR hT0 hTl ⊢
  obtain⟨m,hm⟩:∃m:Nat,((pt pts i).length:Int)-drop=m:=⟨(((pt pts i).length:Int)-drop).toNat,by omega⟩
  rw[hm,Int.toNat_natCast] at hR
  repeat' (first|(apply nrm;simp only[sbe];rfl)|(apply u_iteT;rfl;exact hli)|(apply u_eaddr;rfl;rfl;exact pt_get hi;simp only[sbe];rfl)|(apply u_lenL;rfl;exact lenL_map;simp only[sbe];rfl)|(apply u_ev;rfl;simp only[sbe];rfl)|(apply u_call;rfl;rfl;exact h86;rfl;simp only[sbe];rfl)|refine u_join ?_)
  generalize fall (pt pts i)=f at hfl hfm hR ⊢
  have hml:m≤f.length:=by omega
  have e0:T.set i 0=T:=by
   refine List.ext_getElem (by simp) fun k h1 h2=>?_
   rw[List.getElem_set]
   split
   ·rename_i h3
    subst h3
    simpa[List.getD,h2] using hT0.symm
   ·rfl
  refine u_range (fun k=>[In k,Is (T.set i (sumL f k))]) (fun _=>True) m ?_ (fun _=>rfl) trivial (fun k hk _ R2 hR2=>?_) (fun _ R2=>?_)
  ·rw[show sumL f 0=0 by rfl,e0]
   rfl
  ·have hlk:decide ((k:Int)<(f.length:Int)-drop)=true:=by simp;omega
   have hR2:=hR2 trivial
   have hkf:k<f.length:=by omega
   have hb:=sumL_bd hfm (k:=k) (by omega)
   have hx:=hfm _ (List.getElem_mem hkf)
   rw[sumL_succ hkf] at hR2
   have hil:i<(T.set i (sumL f k)).length:=by simp;omega
   have hg:(T.set i (sumL f k)).getD i 0=sumL f k:=by simp[List.getD,hTl,hi]
   have hix:=idx_is hil
   rw[hg] at hix
   have hst:=set_is hil (sumL f k+f[k])
   rw[List.set_set] at hst
   have hci:∀{env:List D} {x y:E},x.eval env=some (Is (T.set i (sumL f k)))→y.eval env=some (In i)→(E.cell 0 (.idx x y)).eval env=some (I (sumL f k)):=fun hx hy=>by
    have:=e_cidx hil hx hy
    rwa [hg] at this
   repeat' (first|(apply nrm;simp only[sbe];rfl)|(apply u_iteT;rfl;exact hlk)|(apply u_eaddr;rfl;rfl;exact eaddr_get hkf rfl;simp only[sbe];rfl)|(apply u_lenL;rfl;exact lenL_map;simp only[sbe];rfl)|(apply u_idx;rfl;rfl;exact hix;simp only[sbe];rfl)|(apply u_set;rfl;rfl;rfl;exact hst;simp only[sbe];rfl)|(apply u_inc;rfl;omega;simp only[sbe];rfl)|(apply u_add;rfl;rfl;omega;simp only[sbe];rfl)|(apply u_sub;rfl;rfl;omega;simp only[sbe];rfl)|(apply u_ev;exact hci rfl rfl;simp only[sbe];rfl)|(apply u_ev;rfl;simp only[sbe];rfl)|refine u_join ?_|(apply u_jump;rfl;rfl)|refine at_jump ?_|refine kj rfl ?_)
   exact hR2
  ·have hlk:decide ((m:Int)<(f.length:Int)-drop)=false:=by simp;omega
   repeat' (first|(apply nrm;simp only[sbe];rfl)|(apply u_iteF;rfl;exact hlk)|(apply u_lenL;rfl;exact lenL_map;simp only[sbe];rfl)|(apply u_inc;rfl;omega;simp only[sbe];rfl)|(apply u_sub;rfl;rfl;omega;simp only[sbe];rfl)|(apply u_ev;rfl;simp only[sbe];rfl)|(apply u_jump;rfl;rfl)|refine at_jump ?_|(refine over_jump (by decide) ?_)|refine kj rfl ?_)
   exact hR
 ·have hlf:decide ((pts.length:Int)<(pts.length:Int))=false:=by simp
  rw[totTo'_end]
  repeat' (first|(apply nrm;simp only[sbe];rfl)|(apply u_iteF;rfl;exact hlf)|(apply u_lenL;rfl;exact lenL_map;simp only[sbe];rfl)|(apply u_ev;rfl;simp only[sbe];rfl)|refine u_join ?_|(apply u_jump;rfl;rfl)|refine at_jump ?_|(refine over_jump (by decide) ?_)|refine kj rfl ?_)
  refine u_range (fun i=>[Ix (ordTo (aheadB pts drop) i),In i]) (fun _=>True) pts.length rfl (fun _=>rfl) trivial (fun i hi _ R hR=>?_) (fun _ R=>?_)
  ·have hli:decide ((i:Int)<(pts.length:Int))=true:=by simp;omega
   have hR:=hR trivial
   rw[ordTo] at hR
   have hol:=ordTo_len (aheadB pts drop) i
   have hom:∀x,x∈ordTo (aheadB pts drop) i→x<pts.length:=fun x hx=>by
    have:=List.mem_range.1 ((ordTo_perm _ i).mem_iff.1 hx)
    omega
   generalize ordTo (aheadB pts drop) i=o at hR hol hom ⊢
   repeat' (first|(apply nrm;simp only[sbe];rfl)|(apply u_iteT;rfl;exact hli)|(apply u_lenL;rfl;exact lenL_map;simp only[sbe];rfl)|(apply u_ev;rfl;simp only[sbe];rfl)|refine u_join ?_)
   refine u_range (fun j=>[In j]) (fun j=>∀m (h:m<j) (h2:m<o.length),aheadB pts drop i o[m]=false) o.length rfl (fun _=>rfl) (fun m h=>absurd h (Nat.not_lt_zero _)) (fun j hj hJ R2 hR2=>?_) (fun hJ R2=>?_)
   ·have hlj:decide ((j:Int)<(o.length:Int))=true:=by simp;omega
    have h87:=c87 (bs:=bs) hs hi (hom _ (List.getElem_mem hj))
    cases hA:aheadB pts drop i o[j]
    ·rw[hA] at h87
     have ht:(decide ((j:Int)<(o.length:Int))&&!false)=true:=by rw[hlj];rfl
     repeat' (first|(apply nrm;simp only[sbe];rfl)|(apply u_iteT;rfl;exact ht)|(apply u_eaddr;rfl;rfl;exact ix_get hj;simp only[sbe];rfl)|(apply u_lenL;rfl;exact lenL_map;simp only[sbe];rfl)|(apply u_inc;rfl;omega;simp only[sbe];rfl)|(apply u_ev;rfl;simp only[sbe];rfl)|(apply u_call;rfl;rfl;exact h87;rfl;simp only[sbe];rfl)|(apply u_and;rfl)|refine u_join ?_|(apply u_jump;rfl;rfl)|refine at_jump ?_|refine kj rfl ?_|exact u_ret rfl rfl|(intro hz;(try simp only[sbs] at hz)))
     refine hR2 fun m hm h2=>?_
     rcases Nat.lt_or_ge m j with h3 | h3
     ·exact hJ m h3 h2
     ·have e:m=j:=by omega
      subst e
      exact hA
    ·rw[hA] at h87
     have hf:(decide ((j:Int)<(o.length:Int))&&!true)=false:=by simp
     rw[insO_at (by omega) hJ (fun _=>hA)] at hR
     have hs1:D.sub 1 (Ix o) (I 0) (In j)=some (Ix (o.take j)):=by
      have:=sub_ix (o:=o) (a:=0) (b:=j) (by omega) (by omega)
      rw[List.drop_zero,Nat.sub_zero] at this
      exact this
     have hs2:D.sub 1 (Ix o) (In j) (I o.length)=some (Ix (o.drop j)):=by
      have:=sub_ix (o:=o) (a:=j) (b:=o.length) (by omega) (by omega)
      rwa [List.take_of_length_le (by simp)] at this
     have ha1:D.app 1 8 (.lst []) (Ix (o.take j))=some (Ix (o.take j)):=app_ixs (xs:=[]) (by simp;omega)
     have ha2:=app_ix (xs:=o.take j) (x:=i) (by simp;omega)
     have ha3:=app_ixs (xs:=o.take j++[i]) (ys:=o.drop j) (by simp;omega)
     repeat' (first|(apply nrm;simp only[sbe];rfl)|(apply u_iteF;rfl;exact hf)|(apply u_eaddr;rfl;rfl;exact ix_get hj;simp only[sbe];rfl)|(apply u_lenL;rfl;exact lenL_map;simp only[sbe];rfl)|(apply u_app;rfl;rfl;(·first|exact ha1|exact ha2|exact ha3);simp only[sbe];rfl)|(apply u_subl;rfl;rfl;rfl;exact hs1;simp only[sbe];rfl)|(apply u_inc;rfl;omega;simp only[sbe];rfl)|(apply u_ev;(·exact e_sub rfl rfl (e_lenL rfl lenL_map) hs2);simp only[sbe];rfl)|(apply u_ev;rfl;simp only[sbe];rfl)|(apply u_call;rfl;rfl;exact h87;rfl;simp only[sbe];rfl)|(apply u_and;rfl)|(apply u_jump;rfl;rfl)|refine at_jump ?_|(refine over_jump (by decide) ?_)|refine kj rfl ?_|exact u_ret rfl rfl|(intro hz;(try simp only[sbs] at hz)))
     exact hR
   ·have hf:decide ((o.length:Int)<(o.length:Int))=false:=by simp
    rw[insO_at (Nat.le_refl _) hJ (fun h=>absurd h (by omega))] at hR
    have hs1:D.sub 1 (Ix o) (I 0) (In o.length)=some (Ix (o.take o.length)):=by
     have:=sub_ix (o:=o) (a:=0) (b:=o.length) (by omega) (by omega)
     rw[List.drop_zero,Nat.sub_zero] at this
     exact this
    have hs2:D.sub 1 (Ix o) (In o.length) (I o.length)=some (Ix (o.drop o.length)):=by
     have:=sub_ix (o:=o) (a:=o.length) (b:=o.length) (by omega) (by omega)
     rwa [List.take_of_length_le (by simp)] at this
    have ha1:D.app 1 8 (.lst []) (Ix (o.take o.length))=some (Ix (o.take o.length)):=app_ixs (xs:=[]) (by simp;omega)
    have ha2:=app_ix (xs:=o.take o.length) (x:=i) (by simp;omega)
    have ha3:=app_ixs (xs:=o.take o.length++[i]) (ys:=o.drop o.length) (by simp;omega)
    repeat' (first|(apply nrm;simp only[sbe];rfl)|(apply u_andF;rfl;exact hf)|(apply u_iteF;rfl;exact rfl)|(apply u_lenL;rfl;exact lenL_map;simp only[sbe];rfl)|(apply u_app;rfl;rfl;(·first|exact ha1|exact ha2|exact ha3);simp only[sbe];rfl)|(apply u_subl;rfl;rfl;rfl;exact hs1;simp only[sbe];rfl)|(apply u_inc;rfl;omega;simp only[sbe];rfl)|(apply u_ev;(·exact e_sub rfl rfl (e_lenL rfl lenL_map) hs2);simp only[sbe];rfl)|(apply u_ev;rfl;simp only[sbe];rfl)|(apply u_jump;rfl;rfl)|refine at_jump ?_|(refine over_jump (by decide) ?_)|refine kj rfl ?_)
    exact hR
  ·have hlf:decide ((pts.length:Int)<(pts.length:Int))=false:=by simp
   repeat' (first|(apply nrm;simp only[sbe];rfl)|(apply u_iteF;rfl;exact hlf)|(apply u_lenL;rfl;exact lenL_map;simp only[sbe];rfl)|(apply u_ev;rfl;simp only[sbe];rfl)|refine u_join ?_|(apply u_jump;rfl;rfl)|refine at_jump ?_|(refine over_jump (by decide) ?_)|refine kj rfl ?_)
   have hol:=ordTo_len (aheadB pts drop) pts.length
   have hom:∀x,x∈ordTo (aheadB pts drop) pts.length→x<pts.length:=fun x hx=>List.mem_range.1 ((ordTo_perm _ _).mem_iff.1 hx)
   generalize ordTo (aheadB pts drop) pts.length=o at hol hom ⊢
   refine u_range (fun k=>[Is ((o.take k).map (totC pts drop)),In k]) (fun _=>True) o.length rfl (fun _=>rfl) trivial (fun k hk _ R hR=>?_) (fun _ R=>?_)
   ·have hlk:decide ((k:Int)<(o.length:Int))=true:=by simp;omega
    have hR:=hR trivial
    have e:(o.take (k+1)).map (totC pts drop)=(o.take k).map (totC pts drop)++[totC pts drop o[k]]:=by
     rw[List.take_add_one,List.getElem?_eq_getElem hk,List.map_append]
     rfl
    rw[e] at hR
    have happ:=app_is (xs:=(o.take k).map (totC pts drop)) (x:=totC pts drop o[k]) (by simp;omega)
    repeat' (first|(apply nrm;simp only[sbe];rfl)|(apply u_iteT;rfl;exact hlk)|(apply u_eaddr;rfl;rfl;(·first|exact ix_get hk|exact tot_get (hom _ (List.getElem_mem hk)));simp only[sbe];rfl)|(apply u_lenL;rfl;exact lenL_map;simp only[sbe];rfl)|(apply u_app;rfl;rfl;exact happ;simp only[sbe];rfl)|(apply u_inc;rfl;omega;simp only[sbe];rfl)|(apply u_ev;rfl;simp only[sbe];rfl)|refine u_join ?_|(apply u_jump;rfl;rfl)|refine at_jump ?_|refine kj rfl ?_)
    exact hR
   ·have hlk:decide ((o.length:Int)<(o.length:Int))=false:=by simp
    rw[List.take_length]
    repeat' (first|(apply nrm;simp only[sbe];rfl)|(apply u_iteF;rfl;exact hlk)|(apply u_lenL;rfl;exact lenL_map;simp only[sbe];rfl)|(apply u_ev;rfl;simp only[sbe];rfl)|(apply u_jump;rfl;rfl)|refine at_jump ?_|(refine over_jump (by decide) ?_)|refine kj rfl ?_|exact u_ret rfl rfl)

end Go.Am.Sc
