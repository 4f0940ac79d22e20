/-
  Several texts, one behind the other.
-/
import Derived.Test.YtgebemgmpfpjbaaWrP8toWrE8
import Derived.Test.YtgebemgmpfpjbaaAmOut
import Derived.Test.YtgebemgmpfpjbaaWrU1toWrE1
set_option linter.unusedSimpArgs false
set_option linter.unusedVariables false
/-
 The best report of a car at a place.
-/
namespace Go.Am.Wr
open Go.Proofs
set_option maxRecDepth 100000
set_option maxHeartbeats 4000000

attribute [local irreducible] inR

variable {bs:List D} {j n v:Nat} {f:Fld} {ss:List Src} {rs:List Rep} {W:List Rep}

structure Vw (bs:List D)(v j:Nat)(f:Fld)(ss:List Src)(W:List Rep):Prop where
 v:∃s,bs[v]? = some (.blk 121 3 [.loc j 0,.lst (W.map Rep.d),s])
 l:∃m,bs[j]? = some (.blk 80 5 [I f.cars,I f.places,Is f.least,.lst (ss.map Src.d),.mp m])

theorem Vw.keep {bs':List D}(h:Vw bs v j f ss W)(hk:∀i,i<bs.length→bs'[i]? = bs[i]?):Vw bs' v j f ss W where
 v:=by
  obtain⟨s,hs⟩:=h.v
  exact⟨s,by rw[hk _ (List.getElem?_eq_some_iff.1 hs).1];exact hs⟩
 l:=by
  obtain⟨s,hs⟩:=h.l
  exact⟨s,by rw[hk _ (List.getElem?_eq_some_iff.1 hs).1];exact hs⟩

theorem vwOf {s:D}{idx:List Nat}(h:Lg bs j f ss rs n)(hV:ViewAt bs v j W s idx):Vw bs v j f ss W where
 v:=⟨s,hV.blk⟩
 l:=by
  obtain⟨m,hm⟩:=h.log
  exact⟨m,hm.blk⟩

theorem ea_rep {a:Nat}(ha:a<W.length):D.eaddr 7 (.lst (W.map Rep.d)) (In a)=some (.ptr (rAt W a).cs):=by
 rw[rAt_get ha];exact eaddr_get ha rfl

theorem c100 (h:Vw bs v j f ss W){a b:Nat}(ha:a<W.length)(hb:b<W.length)(hsa:0≤(rAt W a).source∧(rAt W a).source<ss.length)(hsb:0≤(rAt W b).source∧(rAt W b).source<ss.length) :
  FSpecR Try.prog 100 (.st bs) [In a,In b,.ptr [.loc v 0]] (B (less4 ss (rAt W a) (rAt W b))):=by
 obtain⟨s,hv⟩:=h.v
 obtain⟨m,hl⟩:=h.l
 have hl4:=orL_lx [(srcOf ss (rAt W a)).kind,(srcOf ss (rAt W a)).error,(rAt W a).source,(rAt W a).number] [(srcOf ss (rAt W b)).kind,(srcOf ss (rAt W b)).error,(rAt W b).source,(rAt W b).number] rfl
 have hOr:FSpecR Try.prog 88 (.st bs) [.lst [I (cmpN (srcOf ss (rAt W a)).kind (srcOf ss (rAt W b)).kind),I (cmpN (srcOf ss (rAt W a)).error (srcOf ss (rAt W b)).error),I (cmpN (rAt W a).source (rAt W b).source),I (cmpN (rAt W a).number (rAt W b).number)]] (I _):=c88 [cmpN (srcOf ss (rAt W a)).kind (srcOf ss (rAt W b)).kind,cmpN (srcOf ss (rAt W a)).error (srcOf ss (rAt W b)).error,cmpN (rAt W a).source (rAt W b).source,cmpN (rAt W a).number (rAt W b).number] (by simp)
 refine ku100.R rfl rfl ?_
 unfold u100
 simp only[ups_cons,ups_nil,List.cons_append,List.nil_append]
 repeat' (first|(apply u_chk;rfl)|(apply u_ld;rfl;rfl;(·first|exact ld_blk hv rfl|exact ld_blk hl rfl);simp only[sbe];rfl)|(apply u_eaddr;rfl;rfl;(·first|exact ea_rep ha|exact ea_rep hb|exact ea_src hsa|exact ea_src hsb);simp only[sbe];rfl)|(apply u_ev;rfl;simp only[sbe];rfl)|(apply u_call;rfl;rfl;(·first|exact c101 _ _|exact c89 _ _|exact hOr);rfl;simp only[sbe];rfl)|(apply u_ret;rfl;first|exact rfl|(refine retB ?_)|(refine retI ?_)|(refine retD ?_)))
 exact hl4

def pickD (less:Nat→Nat→Bool)(l:List Nat):D:=match pick less l with
 | some b=>.tup [In b,B true]
 | none=>.tup [I 0,B false]

def pickGo (less:Nat→Nat→Bool)(o:Option Nat)(i:Nat):Option Nat:=match o with | none=>some i | some b=>if less i b=true then some i else some b

theorem pick_fold (less:Nat→Nat→Bool)(l:List Nat):pick less l=l.foldl (pickGo less) none:=rfl

theorem pickGo_some {less:Nat→Nat→Bool}{o:Option Nat}{i:Nat}:∃b,pickGo less o i=some b:=by
 unfold pickGo
 split
 ·exact⟨_,rfl⟩
 ·split <;> exact⟨_,rfl⟩

theorem pick_none {less:Nat→Nat→Bool}{l:List Nat}(h:l.foldl (pickGo less) none=none):l=[]:=by
 rcases List.eq_nil_or_concat l with rfl | ⟨r,x,rfl⟩
 ·rfl
 ·rw[List.concat_eq_append,List.foldl_append] at h
  obtain⟨b,hb⟩:=pickGo_some (less:=less) (o:=r.foldl (pickGo less) none) (i:=x)
  simp only[List.foldl_cons,List.foldl_nil,hb] at h
  cases h

theorem c99 {s:D}{xs:List Nat}{less:Nat→Nat→Bool}(hs:SlOf bs 3 1 ncs s xs)(hL:xs.length≤1000000){g:FuncId}{cs:List D}(hc:callable Try.prog g=true)(hf:∀a b,a∈xs→b∈xs→FSpecR Try.prog g (.st bs) ([]++[In a,In b]++cs) (B (less a b))) :
  FSpecR Try.prog 99 (.st bs) [s,.fn g [] cs] (pickD less xs):=by
 refine ku99.R rfl (by rcases hs with⟨_,rfl⟩ | ⟨_,rfl,_⟩ <;> rfl) ?_
 unfold u99
 simp only[ups_cons,ups_nil,List.cons_append,List.nil_append]
 repeat' (first|(apply u_lenL;rfl;exact hs.len;simp only[sbe];rfl)|refine u_join ?_)
 refine u_range (fun i=>[match((xs.take i).foldl (pickGo less) none) with | some b=>In b | none=>I 0,In i]) (fun i=>∀b,(xs.take i).foldl (pickGo less) none=some b→b∈xs) xs.length (by simp[evalAll,E.eval]) (fun _=>rfl) (fun b hb=>by simp at hb) (fun i hi hJ R hR=>?_) (fun hJ R=>?_)
 ·have hli:decide ((i:Int)<(xs.length:Int))=true:=by simp;omega
  obtain⟨b,rfl,hb⟩:=hs.get hi
  have hx:xs[i]? = some xs[i]:=List.getElem?_eq_getElem hi
  have htk:(xs.take (i+1)).foldl (pickGo less) none=pickGo less ((xs.take i).foldl (pickGo less) none) xs[i]:=by
   rw[List.take_succ_eq_append_getElem hi,List.foldl_append];rfl
  cases ho:(xs.take i).foldl (pickGo less) none with
  | none=>
   have hi0:i=0:=by
    rcases Nat.eq_zero_or_pos i with h0 | h0
    ·exact h0
    ·have hlt:i-1<xs.length:=by omega
     have:(xs.take (i-1+1)).foldl (pickGo less) none=pickGo less ((xs.take (i-1)).foldl (pickGo less) none) xs[i-1]:=by
      rw[List.take_succ_eq_append_getElem hlt,List.foldl_append];rfl
     rw[show i-1+1=i by omega,ho] at this
     obtain⟨b,hb⟩:=pickGo_some (less:=less) (o:=(xs.take (i-1)).foldl (pickGo less) none) (i:=xs[i-1])
     rw[hb] at this
     cases this
   have hz0:((i:Int)==0)=true:=by simp[hi0]
   have hzz:((i:Int)==0||true)=true:=by simp
   rw[ho] at htk
   simp only[htk,pickGo] at hR
   repeat' (first|(apply nrm;simp only[sbe];rfl)|(apply u_orT;rfl;exact hz0)|(apply u_iteT;rfl;exact hli)|(apply u_ld;rfl;rfl;(·exact ld_el0 hb (fun _=>rfl) hx rfl);simp only[sbe];rfl)|(apply u_eaddr;rfl;rfl;exact eaddr_sl hi;simp only[sbe];rfl)|(apply u_inc;rfl;omega;simp only[sbe];rfl)|(apply u_ev;rfl;simp only[sbe];rfl)|refine u_join ?_|(apply u_jump;rfl;rfl)|refine at_jump ?_|refine kj rfl ?_|(apply u_phi;rfl;(·intro hz;rfl);(·intro hz;rfl);rfl;(·simp only[sbe,List.zipWith_cons_cons,List.zipWith_nil_left,selD];rfl)))
   refine hR fun b hb=>?_
   cases hb
   exact List.getElem_mem hi
  | some c=>
   have hcm:=hJ c ho
   have hfc:=hf xs[i] c (List.getElem_mem hi) hcm
   have hi0:((i:Int)==0)=false:=by
    cases i with
    | zero=>simp at ho
    | succ k=>simp;omega
   rw[ho] at htk
   simp only[htk,pickGo] at hR
   cases hl:less xs[i] c
   ·rw[hl] at hfc hR
    simp only[Bool.false_eq_true,if_false] at hR
    repeat' (first|(apply nrm;simp only[sbe];rfl)|(apply u_iteT;rfl;exact hli)|(apply u_ld;rfl;rfl;(·exact ld_el0 hb (fun _=>rfl) hx rfl);simp only[sbe];rfl)|(apply u_eaddr;rfl;rfl;exact eaddr_sl hi;simp only[sbe];rfl)|(apply u_inc;rfl;omega;simp only[sbe];rfl)|(apply u_ev;rfl;simp only[sbe];rfl)|(apply u_callv;rfl;exact hc;rfl;rfl;exact hfc;rfl;simp only[sbe];rfl)|(apply u_or;rfl)|refine u_join ?_|(apply u_jump;rfl;rfl)|refine at_jump ?_|refine kj rfl ?_|(apply u_phi;rfl;(·intro hz;rfl);(·intro hz;rfl);rfl;(·simp only[sbe,List.zipWith_cons_cons,List.zipWith_nil_left,selD];rfl))|exact u_ret rfl rfl|(intro hz;(try simp only[sbs] at hz)))
    simp only[hi0,selD]
    exact hR fun b hb=>by cases hb;exact hcm
   ·rw[hl] at hfc hR
    simp only[if_true] at hR
    repeat' (first|(apply nrm;simp only[sbe];rfl)|(apply u_iteT;rfl;exact hli)|(apply u_ld;rfl;rfl;(·exact ld_el0 hb (fun _=>rfl) hx rfl);simp only[sbe];rfl)|(apply u_eaddr;rfl;rfl;exact eaddr_sl hi;simp only[sbe];rfl)|(apply u_inc;rfl;omega;simp only[sbe];rfl)|(apply u_ev;rfl;simp only[sbe];rfl)|(apply u_callv;rfl;exact hc;rfl;rfl;exact hfc;rfl;simp only[sbe];rfl)|(apply u_or;rfl)|refine u_join ?_|(apply u_jump;rfl;rfl)|refine at_jump ?_|refine kj rfl ?_|(apply u_phi;rfl;(·intro hz;rfl);(·intro hz;rfl);rfl;(·simp only[sbe,List.zipWith_cons_cons,List.zipWith_nil_left,selD];rfl))|exact u_ret rfl rfl|(intro hz;(try simp only[sbs] at hz)))
    simp only[hi0,selD]
    exact hR fun b hb=>by cases hb;exact List.getElem_mem hi
 ·have hli:decide ((xs.length:Int)<(xs.length:Int))=false:=by simp
  have hp:=pick_fold less xs
  rw[List.take_length]
  cases ho:xs.foldl (pickGo less) none with
  | none=>
   have hn:=pick_none ho
   subst hn
   repeat' (first
   |(apply nrm;simp only[sbe];rfl)
   |(apply u_iteF;rfl;exact hli)
   |(apply u_lenL;rfl;exact hs.len;simp only[sbe];rfl)
   |(apply u_lenL;rfl;exact lenL_map;simp only[sbe];rfl)
   |(apply u_inc;rfl;omega;simp only[sbe];rfl)
   |(apply u_add;rfl;rfl;omega;simp only[sbe];rfl)
   |(apply u_ev;rfl;simp only[sbe];rfl)
   |(apply u_or;rfl)
   |refine u_join ?_
   |(apply u_jump;rfl;rfl)
   |refine at_jump ?_
   |(refine over_jump (by decide) ?_)
   |refine kj rfl ?_
   |(apply u_phi;rfl;(·intro hz;rfl);(·intro hz;rfl);rfl;(·simp only[sbe,List.zipWith_cons_cons,List.zipWith_nil_left,selD];rfl))
   |(apply u_ite;rfl;all_goals (intro hz;(try simp only[sbs] at hz);first|(exact absurd hz (by decide))|(exfalso;omega)|skip))
   |exact u_ret rfl rfl
   |(apply u_ret;rfl;first|exact rfl|(refine retB ?_)|(refine retI ?_)|(refine retD ?_))
   |(intro hz;(try simp only[sbs] at hz)))
  | some c=>
   have hpos:decide ((xs.length:Int) > 0)=true:=by
    have:xs≠[]:=fun e=>by rw[e] at ho;cases ho
    have:=List.length_pos_iff.2 this
    simp
    omega
   repeat' (first|(apply nrm;simp only[sbe];rfl)|(apply u_iteF;rfl;exact hli)|(apply u_lenL;rfl;exact hs.len;simp only[sbe];rfl)|(apply u_ev;rfl;simp only[sbe];rfl)|(apply u_jump;rfl;rfl)|refine at_jump ?_|(refine over_jump (by decide) ?_)|refine kj rfl ?_|(apply u_ret;rfl;first|exact rfl|(refine retB ?_)|(refine retI ?_)|(refine retD ?_)))
   simp only[pickD,hp,ho,hpos]

def idxB (W:List Rep)(t car place:Int):List Nat:=(idxC W t car).filter fun i=>(rAt W i).kind==1&&(rAt W i).place==place

def bestN (ss:List Src)(W:List Rep)(t car place:Int):Int:=match pick (fun a b=>less4 ss (rAt W a) (rAt W b)) (idxB W t car place) with
 | some b=>(b:Int)
 | none=>-1

theorem Lg.src (h:Lg bs j f ss rs n){i:Nat}(hi:i<(logR rs).length):0≤(rAt (logR rs) i).source∧(rAt (logR rs) i).source<ss.length:=by
 rw[rAt_get hi]
 exact(right_bd (h.right _ ((mem_log _).1 (List.getElem_mem hi)).1)).1

theorem bestL (h:Lg bs j f ss rs n){s:D}{t:Int}(hV:ViewAt bs v j (logR rs) s (idxP (logR rs) t))(car place:Int):∃bs',FSpecW Try.prog 78 (.st bs) [.loc v 0,I car,I place] (I (bestN ss (logR rs) t car place)) (.st bs')∧Grow bs bs':=by
 obtain⟨b1,hb1⟩:∃b1,b1=bs++[D.blk 22 1 [.snil]]:=⟨_,rfl⟩
 have hb1l:b1.length=bs.length+1:=by rw[hb1];simp
 have hWl:(logR rs).length≤100000:=h.logL
 have hidx:=idxC_le (logR rs) t car
 have hvl:v<bs.length:=(List.getElem?_eq_some_iff.1 hV.blk).1
 have hny:=h.ny
 have hVw:=vwOf h hV
 obtain⟨P,hP⟩:∃P:Nat→Bool,P=fun i=>(rAt (logR rs) i).kind==1&&(rAt (logR rs) i).place==place:=⟨_,rfl⟩
 have hO0:OutI b1 bs.length 22 3 1 ncs b1 []:=⟨Nat.le_refl _,fun _ _ _=>rfl,⟨.snil,by rw[hb1];simp,.inl ⟨rfl,rfl⟩,fun b hb=>by cases hb⟩,by rw[hb1,noyls_app,hny];rfl⟩
 have hsub:∀k,(((idxC (logR rs) t car).take k).filter P).length≤100000:=fun k=>by
  have h1:=List.length_filter_le P ((idxC (logR rs) t car).take k)
  have h2:((idxC (logR rs) t car).take k).length≤(idxC (logR rs) t car).length:=by simp;omega
  omega
 obtain⟨g,hg0,hgI,hgR⟩:=seqOf (N:=(idxC (logR rs) t car).length) (s0:=b1)
  (J:=fun k st=>OutI b1 bs.length 22 3 1 ncs st (((idxC (logR rs) t car).take k).filter P))
  (R:=fun k st st'=>∀hk:k<(idxC (logR rs) t car).length,(P (idxC (logR rs) t car)[k]=true→∃s bs1 m,(st++[D.blk 45 7 (rAt (logR rs) (idxC (logR rs) t car)[k]).cs])[bs.length]? = some (.blk 22 1 [s])∧D.apph 3 1 8 (.st (st++[D.blk 45 7 (rAt (logR rs) (idxC (logR rs) t car)[k]).cs])) s (.lst [In (idxC (logR rs) t car)[k]])=some (.st bs1)∧D.apps (.st (st++[D.blk 45 7 (rAt (logR rs) (idxC (logR rs) t car)[k]).cs])) s (.lst [In (idxC (logR rs) t car)[k]])=some m∧D.sto 1 (.st bs1) (.loc bs.length 0) m=some (.st st')) ∧
    (P (idxC (logR rs) t car)[k]=false→st'=st++[D.blk 45 7 (rAt (logR rs) (idxC (logR rs) t car)[k]).cs])) hO0 (fun k st hk hJ=>by
   have hp:=hJ.push (by omega) (x:=D.blk 45 7 (rAt (logR rs) (idxC (logR rs) t car)[k]).cs) (by simp[D.noyl,Rep.cs,noyls])
   have htk:(idxC (logR rs) t car).take (k+1)=(idxC (logR rs) t car).take k++[(idxC (logR rs) t car)[k]]:=List.take_succ_eq_append_getElem hk
   have hlk:=hsub k
   cases hPk:P (idxC (logR rs) t car)[k]
   ·refine⟨st++[D.blk 45 7 (rAt (logR rs) (idxC (logR rs) t car)[k]).cs],fun _=>⟨fun e=>(by rw[hPk] at e;cases e),fun _=>rfl⟩,?_⟩
    rw[htk,List.filter_append]
    simpa[List.filter_cons,hPk] using hp
   ·obtain⟨s,bs1,st2,q1,q2,q3,q4,q5,_⟩:=hp.app (by omega) (bytes:=8) (x:=(idxC (logR rs) t car)[k]) (y:=In (idxC (logR rs) t car)[k]) (fun _=>rfl) rfl rfl rfl (by omega) (by simp[maxLen];omega)
    refine⟨st2,fun _=>⟨fun _=>⟨s,bs1,_,q1,q2,q3,q4⟩,fun e=>(by rw[hPk] at e;cases e)⟩,?_⟩
    rw[htk,List.filter_append]
    simpa[List.filter_cons,hPk] using q5)
 have hkeep:∀k,k≤(idxC (logR rs) t car).length→∀i,i<bs.length→(g k)[i]? = bs[i]?:=fun k hk i hi=>by
  rw[(hgI k hk).old i (by omega) (by omega),hb1,List.getElem?_append_left hi]
 have hend:=hgI _ (Nat.le_refl (idxC (logR rs) t car).length)
 rw[List.take_length] at hend
 obtain⟨so,ho1,ho2,_⟩:=hend.ov
 have hxs:∀i,i∈(idxC (logR rs) t car).filter P→i<(logR rs).length:=fun i hi=>idxC_lt (List.mem_filter.1 hi).1
 have h99:=c99 (less:=fun a b=>less4 ss (rAt (logR rs) a) (rAt (logR rs) b)) (g:=100) (cs:=[.ptr [.loc v 0]]) ho2 (by have:=hsub (idxC (logR rs) t car).length;rw[List.take_length] at this;omega) (by kernel_rfl) (fun a b ha hb=>c100 (hVw.keep (hkeep _ (Nat.le_refl _))) (hxs a ha) (hxs b hb) (h.src (hxs a ha)) (h.src (hxs b hb)))
 refine⟨g (idxC (logR rs) t car).length,?_,⟨by have:=hend.len;omega,hkeep _ (Nat.le_refl _),fun _=>hend.ny⟩⟩
 have hbn:bestN ss (logR rs) t car place=match pick (fun a b=>less4 ss (rAt (logR rs) a) (rAt (logR rs) b)) ((idxC (logR rs) t car).filter P) with | some b=>(b:Int) | none=>-1:=by
  rw[hP];rfl
 rw[hbn]
 refine ku78.W rfl ?_
 unfold u78
 simp only[ups_cons,ups_nil,List.cons_append,List.nil_append]
 repeat' (first|(apply u_ev;rfl;simp only[sbe];rfl)|(apply u_call;rfl;rfl;exact c69 _ _;rfl;simp only[sbe];rfl)|refine u_join ?_)
 refine u_rfor2 (.tup []) (.st (g (idxC (logR rs) t car).length)) rfl (by kernel_rfl) rfl ?_ ?_ (fun cds m0 rec hyl=>?_) (by simp only[sbe];rfl) ?_
 ·repeat' (first|exact evN_nil|((apply evN_cons);rfl;(·first|rfl|(simp[noyls,D.noyl,D.cells]))))
 ·simpa[D.noyl] using hend.ny
 ·have h95:=c95L (m0:=m0) (rec:=rec) (cds:=cds) (car:=car) (sl:=[0,1,2,3,5,6,7,12,13,14]) g (fun k hk=>hV.keep (hkeep k hk)) (by omega) (fun k hk=>?_)
  ·rw[hg0,hb1] at h95
   exact h95
  ·have hI:=hgI k (by omega)
   obtain⟨r1,r2⟩:=hgR k hk hk
   obtain⟨r,hr⟩:∃r,r=rAt (logR rs) (idxC (logR rs) t car)[k]:=⟨_,rfl⟩
   rw[←hr] at r1 r2 ⊢
   have hPr:P (idxC (logR rs) t car)[k]=(r.kind==1&&r.place==place):=by rw[hP,hr]
   generalize g k=st at hI r1 r2 ⊢
   have hst2:(D.st (g (k+1))).noyl=true:=by
    have:=(hgI (k+1) hk).ny
    simpa[D.noyl] using this
   generalize g (k+1)=st' at r1 r2 hst2 ⊢
   refine hyl _ _ _ (by simpa[D.noyl] using hI.ny) (by simp[noyls,D.noyl,rep_noyl]) rfl ?_
   have hrx:(st++[.blk 45 7 r.cs])[st.length]? = some (.blk 45 7 r.cs):=by simp
   cases hc:(r.kind==1&&r.place==place)
   ·have e:=r2 (by rw[hPr,hc])
    subst e
    repeat' (first|(apply nrm;simp only[sbe];rfl)|(apply u_iteF;rfl;exact hc)|(apply u_ld;rfl;rfl;exact ld_blk hrx rfl;simp only[sbe];rfl)|(apply u_sto;rfl;rfl;rfl;exact sto_all rfl rfl rfl;simp only[sbe];rfl)|(apply u_ev;rfl;simp only[sbe];rfl)|(apply u_and;rfl)|refine u_join ?_|(apply u_jump;rfl;rfl)|refine at_jump ?_|refine kj rfl ?_|exact u_ret rfl rfl|(intro hz;(try simp only[sbs] at hz)))
    rfl
   ·obtain⟨s2,bs1,m2,q1,q2,q3,q4⟩:=r1 (by rw[hPr,hc])
    repeat' (first|(apply nrm;simp only[sbe];rfl)|(apply u_iteT;rfl;exact hc)|(apply u_stoa;rfl;rfl;rfl;rfl;rfl;exact q3;exact q4;simp only[sbe];rfl)|(apply u_ld;rfl;rfl;(·first|exact ld_blk hrx rfl|exact ld_blk q1 rfl);simp only[sbe];rfl)|(apply u_sto;rfl;rfl;rfl;exact sto_all rfl rfl rfl;simp only[sbe];rfl)|(apply u_apph;rfl;rfl;rfl;exact q2;simp only[sbe];rfl)|(apply u_ev;rfl;simp only[sbe];rfl)|(apply u_and;rfl)|refine u_join ?_|(apply u_jump;rfl;rfl)|refine at_jump ?_|refine kj rfl ?_|exact u_ret rfl rfl|(intro hz;(try simp only[sbs] at hz)))
    rfl
 ·cases hpk:pick (fun a b=>less4 ss (rAt (logR rs) a) (rAt (logR rs) b)) ((idxC (logR rs) t car).filter P) with
  | none=>
   simp only[pickD,hpk] at h99
   repeat' (first
   |(apply nrm;simp only[sbe];rfl)
   |(apply u_iteT;rfl;exact rfl)
   |(apply u_ld;rfl;rfl;exact ld_blk ho1 rfl;simp only[sbe];rfl)
   |(apply u_ev;rfl;simp only[sbe];rfl)
   |(apply u_call;rfl;rfl;exact h99;rfl;simp only[sbe];rfl)
   |(apply u_and;rfl)
   |refine u_join ?_
   |(apply u_jump;rfl;rfl)
   |refine at_jump ?_
   |(refine over_jump (by decide) ?_)
   |refine kj rfl ?_
   |(apply u_ite;rfl;all_goals (intro hz;(try simp only[sbs] at hz);first|(exact absurd hz (by decide))|(exfalso;omega)|skip))
   |exact u_ret rfl rfl
   |(apply u_ret;rfl;first|exact rfl|(refine retB ?_)|(refine retI ?_)|(refine retD ?_))
   |(intro hz;(try simp only[sbs] at hz)))
  | some b=>
   simp only[pickD,hpk] at h99
   repeat' (first|(apply nrm;simp only[sbe];rfl)|(apply u_iteF;rfl;exact rfl)|(apply u_ld;rfl;rfl;exact ld_blk ho1 rfl;simp only[sbe];rfl)|(apply u_ev;rfl;simp only[sbe];rfl)|(apply u_call;rfl;rfl;exact h99;rfl;simp only[sbe];rfl)|(apply u_jump;rfl;rfl)|refine at_jump ?_|refine kj rfl ?_|exact u_ret rfl rfl)

end Go.Am.Wr

/-
 Time,Best,Merge's comparisons,and whether two reports quarrel.
-/
namespace Go.Am.Wr
open Go.Proofs
set_option maxRecDepth 100000
set_option maxHeartbeats 4000000

attribute [local irreducible] inR

variable {bs:List D} {j n v:Nat} {f:Fld} {ss:List Src} {rs:List Rep} {W:List Rep}

theorem c47 (h:Lg bs j f ss rs n){car place t:Int}(hb:chkB f car place t=true):∃bs',FSpecW Try.prog 47 (.st bs) [.loc j 0,I car,I place,I t] (.tup (if bestN ss (logR rs) t car place<0 then[I 0,I 5] else[I (bestN ss (logR rs) t car place),I 0])) (.st bs')∧Grow bs bs':=by
 have h65:=c65 h car place t
 rw[if_pos hb] at h65
 obtain⟨b1,v,s,h66,g1,hV,_⟩:=viewL h t
 obtain⟨b2,h78,g2⟩:=bestL (h.keep g1) hV car place
 refine⟨b2,?_,g1.trans g2⟩
 refine ku47.W rfl ?_
 unfold u47
 simp only[ups_cons,ups_nil,List.cons_append,List.nil_append]
 by_cases hlt:bestN ss (logR rs) t car place<0
 ·have hd:decide (bestN ss (logR rs) t car place<0)=true:=by simpa using hlt
  rw[if_pos hlt]
  repeat' (first|(apply u_iteT;rfl;exact hd)|(apply u_iteF;rfl;exact rfl)|(apply u_ev;rfl;simp only[sbe];rfl)|(apply u_call;rfl;rfl;exact h65;rfl;simp only[sbe];rfl)|(apply u_wcall;rfl;rfl;(·first|exact h66|exact h78);rfl;simp only[sbe];rfl)|exact u_ret rfl rfl)
 ·have hd:decide (bestN ss (logR rs) t car place<0)=false:=by simpa using hlt
  rw[if_neg hlt]
  repeat' (first|(apply u_iteF;rfl;(·first|exact rfl|exact hd))|(apply u_ev;rfl;simp only[sbe];rfl)|(apply u_call;rfl;rfl;exact h65;rfl;simp only[sbe];rfl)|(apply u_wcall;rfl;rfl;(·first|exact h66|exact h78);rfl;simp only[sbe];rfl)|exact u_ret rfl rfl)

theorem c47b {l:D}{e:Int}(hl:l.one=true){car place t:Int}(h65:FSpecR Try.prog 65 (.st bs) [l,I car,I place,I t] (I e))(he:(e != 0)=true):FSpecW Try.prog 47 (.st bs) [l,I car,I place,I t] (.tup [I 0,I e]) (.st bs):=by
 refine ku47.W (by simp[argsFit,hl,one_I]) ?_
 unfold u47
 simp only[ups_cons,ups_nil,List.cons_append,List.nil_append]
 repeat' (first|(apply u_iteT;rfl;exact he)|(apply u_ev;rfl;simp only[sbe];rfl)|(apply u_call;rfl;rfl;exact h65;rfl;simp only[sbe];rfl)|exact u_ret rfl rfl)

def knP (f:Fld)(ss:List Src)(n:Nat)(W:List Rep)(t car:Int)(p:Nat):Kn:=knAt ss f.least n (ofCar W t car) p

theorem ea_kn {f:Fld}{ss:List Src}{n:Nat}{l:List Rep}{place:Int}(h:0≤place∧place<(n:Int)):D.eaddr 6 (.lst ((knR ss f.least n l).map Kn.d)) (I place)=some (.ptr (knAt ss f.least n l place.toNat).cs):=by
 have e1:place=((place.toNat:Nat):Int):=by omega
 have hlt:place.toNat<n:=by omega
 have hg:(knR ss f.least n l)[place.toNat]? = some (knAt ss f.least n l place.toNat):=by simp[knR,hlt]
 have:=eaddr_lst (enc:=Kn.d) (sz:=6) hg rfl
 rw[←e1] at this
 exact this

theorem c46 (h:Lg bs j f ss rs n){car place t:Int}(hb:chkB f car place t=true):∃bs',FSpecW Try.prog 46 (.st bs) [.loc j 0,I car,I place,I t] (.tup (if(!(knP f ss n (logR rs) t car place.toNat).passed||((knP f ss n (logR rs) t car place.toNat).wrong||decide (bestN ss (logR rs) t car place<0)))=true then[I 0,I 0,I 5] else[I (knP f ss n (logR rs) t car place.toNat).low,I (knP f ss n (logR rs) t car place.toNat).high,I 0])) (.st bs')∧Grow bs bs':=by
 have h65:=c65 h car place t
 rw[if_pos hb] at h65
 have hpl:0≤place∧place<(n:Int):=by
  have hp:=h.pl
  unfold chkB inR at hb
  simp only[Bool.and_eq_true,decide_eq_true_eq] at hb
  omega
 obtain⟨b1,v,s,h66,g1,hV,_⟩:=viewL h t
 obtain⟨b2,h67,g2⟩:=knownL (h.keep g1) hV car
 have hV2:=hV.keep (fun i hi=>g2.old i hi)
 obtain⟨b3,h78,g3⟩:=bestL ((h.keep g1).keep g2) hV2 car place
 have hea:=ea_kn (f:=f) (ss:=ss) (l:=ofCar (logR rs) t car) hpl
 obtain⟨k,hk⟩:∃k,k=knP f ss n (logR rs) t car place.toNat:=⟨_,rfl⟩
 have hk':knAt ss f.least n (ofCar (logR rs) t car) place.toNat=k:=hk.symm
 rw[hk'] at hea
 rw[←hk]
 obtain⟨lo,hi,pa,ou,pr,wr⟩:=k
 cases pa
 ·refine⟨b2,?_,g1.trans g2⟩
  simp only[Bool.not_true,Bool.not_false,Bool.true_or,Bool.or_true,Bool.false_or,if_true]
  refine ku46.W rfl ?_
  unfold u46
  simp only[ups_cons,ups_nil,List.cons_append,List.nil_append]
  cases wr
  ·repeat' (first|(apply nrm;simp only[sbe];rfl)|((apply u_genWN (.v (.bool false)));rfl;(·(decide));rfl;simp only[sbe];rfl)|(apply u_orT;rfl;exact rfl)|(apply u_iteT;rfl;exact rfl)|(apply u_iteF;rfl;exact rfl)|(apply u_chk;rfl)|(apply u_eaddr;rfl;rfl;exact hea;simp only[sbe];rfl)|(apply u_ev;rfl;simp only[sbe];rfl)|(apply u_call;rfl;rfl;exact h65;rfl;simp only[sbe];rfl)|(apply u_wcall;rfl;rfl;(·first|exact h66|exact h67);rfl;simp only[sbe];rfl)|exact u_ret rfl rfl)
   all_goals exact true
  ·repeat' (first|(apply nrm;simp only[sbe];rfl)|((apply u_genWN (.v (.bool false)));rfl;(·(decide));rfl;simp only[sbe];rfl)|(apply u_orT;rfl;exact rfl)|(apply u_iteT;rfl;exact rfl)|(apply u_iteF;rfl;exact rfl)|(apply u_chk;rfl)|(apply u_eaddr;rfl;rfl;exact hea;simp only[sbe];rfl)|(apply u_ev;rfl;simp only[sbe];rfl)|(apply u_call;rfl;rfl;exact h65;rfl;simp only[sbe];rfl)|(apply u_wcall;rfl;rfl;(·first|exact h66|exact h67);rfl;simp only[sbe];rfl)|exact u_ret rfl rfl)
   all_goals exact true
 ·cases wr
  ·refine⟨b3,?_,(g1.trans g2).trans g3⟩
   cases hd:decide (bestN ss (logR rs) t car place<0)
   ·simp only[Bool.not_true,Bool.false_or,Bool.false_eq_true,if_false]
    have hd2:(!true||false||decide (bestN ss (logR rs) t car place<0))=false:=by rw[hd];rfl
    refine ku46.W rfl ?_
    unfold u46
    simp only[ups_cons,ups_nil,List.cons_append,List.nil_append]
    repeat' (first|(apply nrm;simp only[sbe];rfl)|(apply u_genW;rfl;exact rfl;rfl;rfl;exact h78;rfl;simp only[sbe];rfl)|(apply u_iteF;rfl;(·first|exact rfl|exact hd2))|(apply u_chk;rfl)|(apply u_eaddr;rfl;rfl;exact hea;simp only[sbe];rfl)|(apply u_ev;rfl;simp only[sbe];rfl)|(apply u_call;rfl;rfl;exact h65;rfl;simp only[sbe];rfl)|(apply u_wcall;rfl;rfl;(·first|exact h66|exact h67);rfl;simp only[sbe];rfl)|(apply u_or;rfl)|exact u_ret rfl rfl|(intro hz;(try simp only[sbs] at hz)))
   ·simp only[Bool.not_true,Bool.not_false,Bool.true_or,Bool.or_true,Bool.false_or,if_true]
    have hd2:(!true||false||decide (bestN ss (logR rs) t car place<0))=true:=by rw[hd];rfl
    refine ku46.W rfl ?_
    unfold u46
    simp only[ups_cons,ups_nil,List.cons_append,List.nil_append]
    repeat' (first|(apply nrm;simp only[sbe];rfl)|(apply u_genW;rfl;exact rfl;rfl;rfl;exact h78;rfl;simp only[sbe];rfl)|(apply u_iteT;rfl;exact hd2)|(apply u_iteF;rfl;exact rfl)|(apply u_chk;rfl)|(apply u_eaddr;rfl;rfl;exact hea;simp only[sbe];rfl)|(apply u_ev;rfl;simp only[sbe];rfl)|(apply u_call;rfl;rfl;exact h65;rfl;simp only[sbe];rfl)|(apply u_wcall;rfl;rfl;(·first|exact h66|exact h67);rfl;simp only[sbe];rfl)|(apply u_or;rfl)|exact u_ret rfl rfl|(intro hz;(try simp only[sbs] at hz)))
  ·refine⟨b2,?_,g1.trans g2⟩
   simp only[Bool.not_true,Bool.not_false,Bool.true_or,Bool.or_true,Bool.false_or,if_true]
   refine ku46.W rfl ?_
   unfold u46
   simp only[ups_cons,ups_nil,List.cons_append,List.nil_append]
   repeat' (first|(apply nrm;simp only[sbe];rfl)|((apply u_genWN (.v (.bool false)));rfl;(·(decide));rfl;simp only[sbe];rfl)|(apply u_iteT;rfl;exact rfl)|(apply u_iteF;rfl;exact rfl)|(apply u_chk;rfl)|(apply u_eaddr;rfl;rfl;exact hea;simp only[sbe];rfl)|(apply u_ev;rfl;simp only[sbe];rfl)|(apply u_call;rfl;rfl;exact h65;rfl;simp only[sbe];rfl)|(apply u_wcall;rfl;rfl;(·first|exact h66|exact h67);rfl;simp only[sbe];rfl)|(apply u_or;rfl)|exact u_ret rfl rfl|(intro hz;(try simp only[sbs] at hz)))
   all_goals exact true

theorem c46b {l:D}{e:Int}(hl:l.one=true){car place t:Int}(h65:FSpecR Try.prog 65 (.st bs) [l,I car,I place,I t] (I e))(he:(e != 0)=true):FSpecW Try.prog 46 (.st bs) [l,I car,I place,I t] (.tup [I 0,I 0,I e]) (.st bs):=by
 refine ku46.W (by simp[argsFit,hl,one_I]) ?_
 unfold u46
 simp only[ups_cons,ups_nil,List.cons_append,List.nil_append]
 repeat' (first|(apply u_iteT;rfl;exact he)|(apply u_ev;rfl;simp only[sbe];rfl)|(apply u_call;rfl;rfl;exact h65;rfl;simp only[sbe];rfl)|exact u_ret rfl rfl)

/-! ## quarrels -/

theorem c96 (h:Vw bs v j f ss W)(F:FOk n f.least ss){r:Rep}(hr:ROk n ss r):FSpecR Try.prog 96 (.st bs) [.loc v 0,r.d] (.tup [I (r.time+(srcOf ss r).error),B (r.kind==1)]):=by
 obtain⟨s,hv⟩:=h.v
 obtain⟨m,hl⟩:=h.l
 have he:=hr.err F
 have ht:=hr.time
 refine ku96.R rfl rfl ?_
 unfold u96
 simp only[ups_cons,ups_nil,List.cons_append,List.nil_append]
 repeat' (first|(apply u_chk;rfl)|(apply u_ld;rfl;rfl;(·first|exact ld_blk hv rfl|exact ld_blk hl rfl);simp only[sbe];rfl)|(apply u_eaddr;rfl;rfl;exact ea_src hr.src;simp only[sbe];rfl)|(apply u_add;rfl;rfl;omega;simp only[sbe];rfl)|(apply u_ev;rfl;simp only[sbe];rfl)|exact u_ret rfl rfl)

theorem c97 (h:Vw bs v j f ss W)(F:FOk n f.least ss){r:Rep}(hr:ROk n ss r)(hk:r.kind≠3):FSpecR Try.prog 97 (.st bs) [.loc v 0,r.d] (I (lowB ss r)):=by
 obtain⟨s,hv⟩:=h.v
 obtain⟨m,hl⟩:=h.l
 have he:=hr.err F
 have ht:=hr.time
 have hlow:lowB ss r=if r.kind=2 then r.time-(srcOf ss r).error+1 else r.time-(srcOf ss r).error:=by
  unfold lowB
  rcases hr.kind with h | h | h
  ·rw[if_pos h,if_neg (by omega)]
  ·rw[if_neg (by omega),if_pos h,if_pos h]
  ·exact absurd h hk
 rw[hlow]
 refine ku97.R rfl rfl ?_
 unfold u97
 simp only[ups_cons,ups_nil,List.cons_append,List.nil_append]
 by_cases h2:r.kind=2
 ·have hd:(r.kind==2)=true:=by simp[h2]
  rw[if_pos h2]
  repeat' (first|(apply nrm;simp only[sbe];rfl)|(apply u_iteT;rfl;exact hd)|(apply u_chk;rfl)|(apply u_ld;rfl;rfl;(·first|exact ld_blk hv rfl|exact ld_blk hl rfl);simp only[sbe];rfl)|(apply u_eaddr;rfl;rfl;exact ea_src hr.src;simp only[sbe];rfl)|(apply u_add;rfl;rfl;omega;simp only[sbe];rfl)|(apply u_sub;rfl;rfl;omega;simp only[sbe];rfl)|(apply u_ev;rfl;simp only[sbe];rfl)|refine u_join ?_|(apply u_jump;rfl;rfl)|refine at_jump ?_|refine kj rfl ?_|exact u_ret rfl rfl)
 ·have hd:(r.kind==2)=false:=by simp[h2]
  rw[if_neg h2]
  repeat' (first|(apply nrm;simp only[sbe];rfl)|(apply u_iteF;rfl;exact hd)|(apply u_chk;rfl)|(apply u_ld;rfl;rfl;(·first|exact ld_blk hv rfl|exact ld_blk hl rfl);simp only[sbe];rfl)|(apply u_eaddr;rfl;rfl;exact ea_src hr.src;simp only[sbe];rfl)|(apply u_sub;rfl;rfl;omega;simp only[sbe];rfl)|(apply u_ev;rfl;simp only[sbe];rfl)|refine u_join ?_|(apply u_jump;rfl;rfl)|refine at_jump ?_|refine kj rfl ?_|exact u_ret rfl rfl)

def quB (ss:List Src)(least:List Int)(a b:Rep):Bool:=b.kind==1&&decide (highB ss b<lowB ss a+btw least a.place.toNat (b.place.toNat-a.place.toNat))

theorem btw_snoc (least:List Int)(a d:Nat):btw least a (d+1)=btw least a d+least.getD (a+d) 0:=by
 rw[btw_add]
 simp[btw]

theorem c70 (h:Vw bs v j f ss W)(F:FOk n f.least ss){a b:Rep}(ha:ROk n ss a)(hb:ROk n ss b)(hk:a.kind≠3):FSpecR Try.prog 70 (.st bs) [.loc v 0,a.d,b.d] (B (quB ss f.least a b)):=by
 obtain⟨s,hv⟩:=h.v
 obtain⟨m,hl⟩:=h.l
 have h96:=c96 h F hb
 have h97:=c97 h F ha hk
 have hpa:=ha.place
 have hpb:=hb.place
 have hnh:=F.hi
 have hlen:=F.len
 have hlb:=lowB_bd F ha
 have hll:-10000000000000≤lowB ss a:=by
  have he:=ha.err F
  have ht:=ha.time
  unfold lowB
  split
  ·omega
  ·split <;> omega
 refine ku70.R rfl rfl ?_
 unfold u70
 simp only[ups_cons,ups_nil,List.cons_append,List.nil_append]
 by_cases h1:b.kind=1
 ·have hq:quB ss f.least a b=decide (b.time+(srcOf ss b).error<lowB ss a+btw f.least a.place.toNat (b.place.toNat-a.place.toNat)):=by
   unfold quB highB
   simp[h1]
  have hk1:(b.kind==1)=true:=by simp[h1]
  rw[hk1] at h96
  rw[hq]
  obtain⟨d,hd⟩:∃d,d=b.place.toNat-a.place.toNat:=⟨_,rfl⟩
  rw[←hd]
  have hbt:=btw_small F a.place.toNat (d:=d) (by omega)
  repeat' (first|(apply u_iteF;rfl;exact rfl)|(apply u_chk;rfl)|(apply u_ev;rfl;simp only[sbe];rfl)|(apply u_call;rfl;rfl;exact h96;rfl;simp only[sbe];rfl)|refine u_join ?_)
  refine u_range (fun k=>[I (btw f.least a.place.toNat k),I (a.place+(k:Int))]) (fun _=>True) d (by rw[show a.place+((0:Nat):Int)=a.place by omega];rfl) (fun _=>rfl) trivial (fun k hkd _ R hR=>?_) (fun _ R=>?_)
  ·have hc:decide (a.place+(k:Int)<b.place)=true:=by simp;omega
   have e1:a.place+(k:Int)=((a.place.toNat+k:Nat):Int):=by omega
   have hlt:a.place.toNat+k<f.least.length:=by rw[hlen];omega
   have hea:D.eaddr 1 (Is f.least) (I (a.place+(k:Int)))=some (.ptr [I (f.least.getD (a.place.toNat+k) 0)]):=by
    have hg:f.least[a.place.toNat+k]? = some (f.least.getD (a.place.toNat+k) 0):=by simp[hlt]
    rw[e1]
    exact eaddr_lst (enc:=I) hg rfl
   have b1:=btw_small F a.place.toNat (d:=k) (by omega)
   have b2:=least_bd F (a.place.toNat+k)
   have e2:a.place+(k:Int)+1=a.place+((k+1:Nat):Int):=by omega
   have e3:=btw_snoc f.least a.place.toNat k
   rw[e3,←e2] at hR
   repeat' (first|(apply nrm;simp only[sbe];rfl)|(apply u_iteT;rfl;exact hc)|(apply u_chk;rfl)|(apply u_ld;rfl;rfl;(·first|exact ld_blk hv rfl|exact ld_blk hl rfl);simp only[sbe];rfl)|(apply u_eaddr;rfl;rfl;exact hea;simp only[sbe];rfl)|(apply u_add;rfl;rfl;omega;simp only[sbe];rfl)|(apply u_ev;rfl;simp only[sbe];rfl)|refine u_join ?_|(apply u_jump;rfl;rfl)|refine at_jump ?_|refine kj rfl ?_)
   exact hR trivial
  ·have hc:decide (a.place+(d:Int)<b.place)=false:=by simp;omega
   repeat' (first|(apply nrm;simp only[sbe];rfl)|(apply u_iteF;rfl;exact hc)|(apply u_add;rfl;rfl;omega;simp only[sbe];rfl)|(apply u_ev;rfl;simp only[sbe];rfl)|(apply u_call;rfl;rfl;exact h97;rfl;simp only[sbe];rfl)|(apply u_jump;rfl;rfl)|refine at_jump ?_|(refine over_jump (by decide) ?_)|refine kj rfl ?_|exact u_ret rfl rfl)
 ·have hk1:(b.kind==1)=false:=by simp[h1]
  have hq:quB ss f.least a b=false:=by unfold quB;rw[hk1];rfl
  rw[hk1] at h96
  rw[hq]
  repeat' (first|(apply u_iteT;rfl;exact rfl)|(apply u_chk;rfl)|(apply u_ev;rfl;simp only[sbe];rfl)|(apply u_call;rfl;rfl;exact h96;rfl;simp only[sbe];rfl)|exact u_ret rfl rfl)

end Go.Am.Wr

/-
 Quarrels.
-/
namespace Go.Am.Wr
open Go.Proofs
set_option maxRecDepth 100000
set_option maxHeartbeats 4000000

attribute [local irreducible] inR

variable {bs:List D} {j n v:Nat} {f:Fld} {ss:List Src} {rs:List Rep} {W:List Rep}

def quS (W:List Rep)(i q:Nat):Bool:=decide ((i:Int)≥(q:Int))||(rAt W i).kind==3||(rAt W q).kind==3||((rAt W i).kind==2&&(rAt W q).kind==2)
def quK (ss:List Src)(least:List Int)(a b:Rep):Bool:=(decide (a.place≤b.place)&&quB ss least a b)||(decide (b.place≤a.place)&&quB ss least b a)
def quH (ss:List Src)(least:List Int)(W:List Rep)(i q:Nat):Bool:=!quS W i q&&quK ss least (rAt W i) (rAt W q)

def quL (ss:List Src)(least:List Int)(W:List Rep)(l r:List Nat):List (Nat×Nat):=l.flatMap fun i=>(r.filter (quH ss least W i)).map fun q=>(i,q)

def qcs (p:Nat×Nat):List D:=[In p.1,In p.2]
def qD (p:Nat×Nat):D:=.agg (qcs p)

def QR (ss:List Src)(least:List Int)(W:List Rep)(o i q:Nat)(st st':List D):Prop:=
 (quH ss least W i q=true→∃s bs1 m,(st++[D.blk 45 7 (rAt W q).cs])[o]? = some (.blk 56 1 [s])∧D.apph 94 2 16 (.st (st++[D.blk 45 7 (rAt W q).cs])) s (.lst [.agg [In i,In q]])=some (.st bs1)∧D.apps (.st (st++[D.blk 45 7 (rAt W q).cs])) s (.lst [.agg [In i,In q]])=some m∧D.sto 1 (.st bs1) (.loc o 0) m=some (.st st')) ∧
 (quH ss least W i q=false→st'=st++[D.blk 45 7 (rAt W q).cs])

structure QJ (b1:List D)(o A:Nat)(W:List Rep)(i:Nat)(st:List D)(xs:List (Nat×Nat)):Prop where
 out:OutI b1 o 56 94 2 qcs st xs
 vi:st[A]? = some (.blk 3 1 [In i])
 va:st[A+1]? = some (.blk 45 7 (rAt W i).cs)

theorem QJ.step {b1:List D}{o A i:Nat}{st:List D}{xs:List (Nat×Nat)}{least:List Int}(h:QJ b1 o A W i st xs)(ho:o<b1.length)(hA:b1.length≤A)(hl:xs.length≤100000000000)(q:Nat) :
  ∃st',QR ss least W o i q st st'∧QJ b1 o A W i st' (xs++if quH ss least W i q=true then[(i,q)] else[]):=by
 have hp:=h.out.push ho (x:=D.blk 45 7 (rAt W q).cs) (by simp[D.noyl,Rep.cs,noyls])
 have hAl:A+1<st.length:=(List.getElem?_eq_some_iff.1 h.va).1
 have hvi:(st++[D.blk 45 7 (rAt W q).cs])[A]? = some (.blk 3 1 [In i]):=by rw[List.getElem?_append_left (by omega)];exact h.vi
 have hva:(st++[D.blk 45 7 (rAt W q).cs])[A+1]? = some (.blk 45 7 (rAt W i).cs):=by rw[List.getElem?_append_left hAl];exact h.va
 cases hq:quH ss least W i q
 ·refine⟨st++[D.blk 45 7 (rAt W q).cs],⟨fun e=>(by rw[hq] at e;cases e),fun _=>rfl⟩,⟨?_,hvi,hva⟩⟩
  simpa using hp
 ·obtain⟨s,bs1,st2,q1,q2,q3,q4,q5,q6,q7⟩:=hp.app ho (bytes:=16) (x:=(i,q)) (y:=.agg [In i,In q]) (fun _=>rfl) rfl rfl rfl (by omega) (by simp[maxLen];omega)
  refine⟨st2,⟨fun _=>⟨s,bs1,_,q1,q2,q3,q4⟩,fun e=>(by rw[hq] at e;cases e)⟩,⟨by simpa using q5,q7 _ _ _ _ hvi (by decide) (by omega),q7 _ _ _ _ hva (by decide) (by omega)⟩⟩

theorem innerQ {b1:List D}{o A i:Nat}{st:List D}{xs:List (Nat×Nat)}{least:List Int}{L:List Nat}(h:QJ b1 o A W i st xs)(ho:o<b1.length)(hA:b1.length≤A)(hL:L.length≤100000)(hl:xs.length≤10000000000) :
  ∃g:Nat→List D,g 0=st∧(∀k,k≤L.length→QJ b1 o A W i (g k) (xs++((L.take k).filter (quH ss least W i)).map fun q=>(i,q)))∧∀k (hk:k<L.length),QR ss least W o i L[k] (g k) (g (k+1)):=by
 obtain⟨g,g0,g1,g2⟩:=seqOf (N:=L.length) (s0:=st) (J:=fun k st=>QJ b1 o A W i st (xs++((L.take k).filter (quH ss least W i)).map fun q=>(i,q)))
  (R:=fun k st st'=>∀hk:k<L.length,QR ss least W o i L[k] st st') (by simpa using h) (fun k st hk hJ=>by
   have hlen:(((L.take k).filter (quH ss least W i)).map fun q=>(i,q)).length≤100000:=by
    have h1:=List.length_filter_le (quH ss least W i) (L.take k)
    have h2:(L.take k).length≤L.length:=by simp;omega
    simp only[List.length_map]
    omega
   obtain⟨st',r1,r2⟩:=hJ.step (ss:=ss) (least:=least) ho hA (by rw[List.length_append];omega) L[k]
   refine⟨st',fun _=>r1,?_⟩
   rw[List.take_succ_eq_append_getElem hk,List.filter_append,List.map_append,←List.append_assoc]
   have hf:([L[k]].filter (quH ss least W i)).map (fun q=>(i,q))=if quH ss least W i L[k]=true then[(i,L[k])] else[]:=by
    rw[List.filter_cons,List.filter_nil]
    split <;> rfl
   rw[hf]
   exact r2)
 exact⟨g,g0,g1,fun k hk=>g2 k hk hk⟩

theorem outerQ {b1:List D}{o:Nat}{least:List Int}{L:List Nat}(h:OutI b1 o 56 94 2 qcs b1 [])(ho:o<b1.length)(hL:L.length≤100000) :
  ∃f:Nat→List D,f 0=b1∧(∀k,k≤L.length→OutI b1 o 56 94 2 qcs (f k) (quL ss least W (L.take k) L))∧∀k (hk:k<L.length),∃g:Nat→List D,g 0=f k++[D.blk 3 1 [In L[k]]]++[D.blk 45 7 (rAt W L[k]).cs]∧g L.length=f (k+1)∧(∀q,q≤L.length→∃xs,QJ b1 o (f k).length W L[k] (g q) xs)∧∀q (hq:q<L.length),QR ss least W o L[k] L[q] (g q) (g (q+1)):=by
 obtain⟨f,f0,f1,f2⟩:=seqOf (N:=L.length) (s0:=b1) (J:=fun k st=>OutI b1 o 56 94 2 qcs st (quL ss least W (L.take k) L)∧(quL ss least W (L.take k) L).length≤k*100000)
  (R:=fun k st st'=>∀hk:k<L.length,∃g:Nat→List D,g 0=st++[D.blk 3 1 [In L[k]]]++[D.blk 45 7 (rAt W L[k]).cs]∧g L.length=st'∧(∀q,q≤L.length→∃xs,QJ b1 o st.length W L[k] (g q) xs)∧∀q (hq:q<L.length),QR ss least W o L[k] L[q] (g q) (g (q+1)))
  ⟨h,by simp[quL]⟩ (fun k st hk hJ=>by
   obtain⟨hO,hlen⟩:=hJ
   have hp:=(hO.push ho (x:=D.blk 3 1 [In L[k]]) (by simp[D.noyl,noyls])).push ho (x:=D.blk 45 7 (rAt W L[k]).cs) (by simp[D.noyl,Rep.cs,noyls])
   have hQ:QJ b1 o st.length W L[k] (st++[D.blk 3 1 [In L[k]]]++[D.blk 45 7 (rAt W L[k]).cs]) (quL ss least W (L.take k) L):=⟨hp,by simp,by simp⟩
   obtain⟨g,g0,g1,g2⟩:=innerQ (ss:=ss) (least:=least) (L:=L) hQ ho hO.len hL (by omega)
   have hend:=g1 _ (Nat.le_refl L.length)
   rw[List.take_length] at hend
   have hqs:quL ss least W (L.take (k+1)) L=quL ss least W (L.take k) L++(L.filter (quH ss least W L[k])).map fun q=>(L[k],q):=by
    unfold quL
    rw[List.take_succ_eq_append_getElem hk,List.flatMap_append,List.flatMap_cons,List.flatMap_nil,List.append_nil]
   have hfl:=List.length_filter_le (quH ss least W L[k]) L
   refine⟨g L.length,fun _=>⟨g,g0,rfl,fun q hq=>⟨_,g1 q hq⟩,g2⟩,?_,?_⟩
   ·rw[hqs];exact hend.out
   ·rw[hqs,List.length_append,List.length_map];omega)
 exact⟨f,f0,fun k hk=>(f1 k hk).1,fun k hk=>f2 k hk hk⟩

theorem vw_of {b0 st:List D}{i A:Nat}{xs:List (Nat×Nat)}(hVw:Vw b0 v j f ss W)(h:QJ (b0++[D.blk 106 1 [.loc v 0]]++[D.blk 56 1 [.snil]]) (b0.length+1) A W i st xs)(x:D) :
  Vw (st++[x]) v j f ss W∧(st++[x])[b0.length]? = some (.blk 106 1 [.loc v 0])∧(st++[x])[A]? = some (.blk 3 1 [In i])∧(st++[x])[A+1]? = some (.blk 45 7 (rAt W i).cs):=by
 have hl:=h.out.len
 simp only[List.length_append,List.length_cons,List.length_nil] at hl
 have hAl:=(List.getElem?_eq_some_iff.1 h.va).1
 refine⟨hVw.keep fun k hk=>?_,?_,?_,?_⟩
 ·rw[List.getElem?_append_left (by omega),h.out.old k (by simp;omega) (by omega),List.append_assoc,List.getElem?_append_left hk]
 ·rw[List.getElem?_append_left (by omega),h.out.old _ (by simp) (by omega)]
  simp
 ·rw[List.getElem?_append_left (by omega)];exact h.vi
 ·rw[List.getElem?_append_left (by omega)];exact h.va

theorem c33raw (h:Lg bs j f ss rs n){car t:Int}(hb:chkB f car 0 t=true):∃s b0 v fN,FSpecW Try.prog 33 (.st bs) [.loc j 0,I car,I t] (.tup [s,I 0]) (.st fN)∧Grow bs b0∧OutI (b0++[D.blk 106 1 [.loc v 0]]++[D.blk 56 1 [.snil]]) (b0.length+1) 56 94 2 qcs fN (quL ss f.least (logR rs) (idxC (logR rs) t car) (idxC (logR rs) t car))∧fN[b0.length+1]? = some (.blk 56 1 [s]):=by
 have h65:=c65 h car 0 t
 rw[if_pos hb] at h65
 obtain⟨b0,v,sv,h66,g1,hV,_⟩:=viewL h t
 have h':=h.keep g1
 have hVw:=vwOf h' hV
 have hny:=h'.ny
 have hWl:(logR rs).length≤100000:=h.logL
 have hidx:=idxC_le (logR rs) t car
 obtain⟨b1,hb1⟩:∃b1,b1=b0++[D.blk 106 1 [.loc v 0]]++[D.blk 56 1 [.snil]]:=⟨_,rfl⟩
 have hb1l:b1.length=b0.length+2:=by rw[hb1];simp
 have hO0:OutI b1 (b0.length+1) 56 94 2 qcs b1 []:=⟨Nat.le_refl _,fun _ _ _=>rfl,⟨.snil,by rw[hb1];simp,.inl ⟨rfl,rfl⟩,fun b hb=>by cases hb⟩,by rw[hb1,noyls_app,noyls_app,hny];simp[noyls,D.noyl]⟩
 obtain⟨F,F0,F1,F2⟩:=outerQ (W:=logR rs) (ss:=ss) (least:=f.least) (L:=idxC (logR rs) t car) hO0 (by omega) (by omega)
 have hend:=F1 _ (Nat.le_refl _)
 rw[List.take_length] at hend
 obtain⟨s,ho1,ho2,_⟩:=hend.ov
 have hkeep:∀st xs,OutI b1 (b0.length+1) 56 94 2 qcs st xs→∀i,i<b0.length→st[i]? = b0[i]?:=fun st xs hst i hi=>by
  rw[hst.old i (by omega) (by omega),hb1,List.append_assoc,List.getElem?_append_left hi]
 refine⟨s,b0,v,F (idxC (logR rs) t car).length,?_,g1,by rw[←hb1];exact hend,ho1⟩
 have hroks:∀k (hk:k<(idxC (logR rs) t car).length),ROk n ss (rAt (logR rs) (idxC (logR rs) t car)[k]):=fun k hk=>by
  refine h.rok (t:=t) (car:=car) _ ?_
  rw[←idxC_map]
  exact List.mem_map_of_mem (List.getElem_mem hk)
 refine ku33.W rfl ?_
 unfold u33
 simp only[ups_cons,ups_nil,List.cons_append,List.nil_append]
 have hvv1:(b0++[D.blk 106 1 [.loc v 0]]++[D.blk 56 1 [.snil]])[b0.length]? = some (.blk 106 1 [.loc v 0]):=by simp
 repeat' (first|(apply u_iteF;rfl;exact rfl)|(apply u_ld;rfl;rfl;exact ld_blk hvv1 rfl;simp only[sbe];rfl)|(apply u_sto;rfl;rfl;rfl;exact sto_all rfl rfl rfl;simp only[sbe];rfl)|(apply u_ev;rfl;simp only[sbe];rfl)|(apply u_call;rfl;rfl;(·first|exact h65|exact c69 _ _);rfl;simp only[sbe];rfl)|(apply u_wcall;rfl;rfl;exact h66;rfl;simp only[sbe];rfl)|refine u_join ?_)
 refine u_rfor2 (.tup []) (.st (F (idxC (logR rs) t car).length)) rfl (by kernel_rfl) rfl ?_ ?_ (fun cds m0 rec hyl=>?_) (by simp only[sbe];rfl) ?_
 ·repeat' (first|exact evN_nil|((apply evN_cons);rfl;(·first|rfl|(simp[noyls,D.noyl,D.cells]))))
 ·simpa[D.noyl] using hend.ny
 ·have h95:=c95L (m0:=m0) (rec:=rec) (cds:=cds) (car:=car) (sl:=[0,1,2,4,7,8,9,10,15,16,17,18,19,20,22,23,24,25,26,27]) F (fun k hk=>hV.keep (hkeep _ _ (F1 k hk))) (by omega) (fun k hk=>?_)
  ·rw[F0,hb1] at h95
   exact h95
  ·have hI:=F1 k (by omega)
   have hI2:=(F1 (k+1) hk).ny
   obtain⟨g,g0,gN,gJ,gR⟩:=F2 k hk
   have hra:=hroks k hk
   obtain⟨i,hi⟩:∃i,i=(idxC (logR rs) t car)[k]:=⟨_,rfl⟩
   rw[←hi] at g0 gJ gR hra ⊢
   generalize F k=st at hI g0 gJ ⊢
   generalize F (k+1)=st' at hI2 gN ⊢
   refine hyl _ _ _ (by simpa[D.noyl] using hI.ny) (by simp[noyls,D.noyl,rep_noyl]) rfl ?_
   obtain⟨xs0,hJ0⟩:=gJ 0 (Nat.zero_le _)
   have hvv0:(st++[D.blk 3 1 [In i]]++[D.blk 45 7 (rAt (logR rs) i).cs])[b0.length]? = some (.blk 106 1 [.loc v 0]):=by
    rw[←g0,hJ0.out.old _ (by omega) (by omega),hb1]
    simp
   repeat' (first|(apply u_ld;rfl;rfl;exact ld_blk hvv0 rfl;simp only[sbe];rfl)|(apply u_sto;rfl;rfl;rfl;exact sto_all rfl rfl rfl;simp only[sbe];rfl)|(apply u_ev;rfl;simp only[sbe];rfl)|(apply u_call;rfl;rfl;exact c69 _ _;rfl;simp only[sbe];rfl)|refine u_join ?_)
   refine u_rfor2 (.tup []) (.st (g (idxC (logR rs) t car).length)) rfl (by kernel_rfl) rfl ?_ ?_ (fun cds m0 rec hyl=>?_) (by simp only[sbe];rfl) ?_
   ·repeat' (first|exact evN_nil|((apply evN_cons);rfl;(·first|rfl|(simp[noyls,D.noyl,D.cells,rep_noyl]))))
   ·rw[gN]
    simpa[D.noyl] using hI2
   ·have h95:=c95L (m0:=m0) (rec:=rec) (cds:=cds) (car:=car) (sl:=[0,1,2,4,7,8,9,10,11,12,15,16,17,18,19,20,22,23,24,25,26,27,28,29,30,31,32]) g (fun q hq=>by
     obtain⟨xs,hJ⟩:=gJ q hq
     exact hV.keep (hkeep _ _ hJ.out)) (by omega) (fun q hq=>?_)
    ·rw[g0] at h95
     exact h95
    ·obtain⟨xs,hJ⟩:=gJ q (by omega)
     obtain⟨xs2,hJ2⟩:=gJ (q+1) hq
     have hn2:=hJ2.out.ny
     obtain⟨r1,r2⟩:=gR q hq
     have hrb:=hroks q hq
     obtain⟨p,hp⟩:∃p,p=(idxC (logR rs) t car)[q]:=⟨_,rfl⟩
     rw[←hp] at r1 r2 hrb ⊢
     clear hJ2
     generalize g q=st2 at hJ r1 r2 ⊢
     generalize g (q+1)=st3 at hn2 r1 r2 ⊢
     refine hyl _ _ _ (by simpa[D.noyl] using hJ.out.ny) (by simp[noyls,D.noyl,rep_noyl]) rfl ?_
     rw[hb1] at hJ
     obtain⟨k1,k2,k3,k4⟩:=vw_of hVw hJ (D.blk 45 7 (rAt (logR rs) p).cs)
     have k4':(st2++[D.blk 45 7 (rAt (logR rs) p).cs])[(st++[D.blk 3 1 [In i]]).length]? = some (.blk 45 7 (rAt (logR rs) i).cs):=by
      rw[show(st++[D.blk 3 1 [In i]]).length=st.length+1 by simp]
      exact k4
     have k5:(st2++[D.blk 45 7 (rAt (logR rs) p).cs])[st2.length]? = some (.blk 45 7 (rAt (logR rs) p).cs):=by simp
     have l4:D.ld true 7 (.st (st2++[D.blk 45 7 (rAt (logR rs) p).cs])) (.loc (st++[D.blk 3 1 [In i]]).length 0)=some (rAt (logR rs) i).d:=ldN_blk k4' (by simp[Rep.cs])
     have l5:D.ld true 7 (.st (st2++[D.blk 45 7 (rAt (logR rs) p).cs])) (.loc st2.length 0)=some (rAt (logR rs) p).d:=ldN_blk k5 (by simp[Rep.cs])
     cases hS:quS (logR rs) i p
     ·have hS':=hS
      unfold quS at hS'
      have hka:(rAt (logR rs) i).kind≠3:=by
       simp only[Bool.or_eq_false_iff,beq_eq_false_iff_ne] at hS'
       exact hS'.1.1.2
      have hkb:(rAt (logR rs) p).kind≠3:=by
       simp only[Bool.or_eq_false_iff,beq_eq_false_iff_ne] at hS'
       exact hS'.1.2
      have q1:=c70 k1 h.fok hra hrb hka
      have q2:=c70 k1 h.fok hrb hra hkb
      cases hK:quK ss f.least (rAt (logR rs) i) (rAt (logR rs) p)
      ·have hK':=hK
       unfold quK at hK'
       have e:=r2 (by unfold quH;rw[hS,hK];rfl)
       subst e
       repeat' (first|(apply nrm;simp only[sbe];rfl)|(apply u_iteF;rfl;(·first|exact hS'|exact hK'))|(apply u_ld;rfl;rfl;(·first|exact ld_blk k2 rfl|exact ld_blk k3 rfl|exact ld_blk k4' rfl|exact ld_blk k5 rfl|exact l4|exact l5);simp only[sbe];rfl)|(apply u_sto;rfl;rfl;rfl;exact sto_all rfl rfl rfl;simp only[sbe];rfl)|(apply u_ev;rfl;simp only[sbe];rfl)|(apply u_call;rfl;rfl;(·first|exact q1|exact q2);rfl;simp only[sbe];rfl)|(apply u_or;rfl)|(apply u_and;rfl)|refine u_join ?_|(apply u_jump;rfl;rfl)|refine at_jump ?_|refine kj rfl ?_|exact u_ret rfl rfl|(intro hz;(try simp only[sbs] at hz)))
       rfl
      ·have hK':=hK
       unfold quK at hK'
       obtain⟨s2,bs1,m2,a1,a2,a3,a4⟩:=r1 (by unfold quH;rw[hS,hK];rfl)
       have ho1':b0.length+1=(b0++[D.blk 106 1 [.loc v 0]]).length:=by simp
       rw[ho1'] at a1 a4
       repeat' (first|(apply nrm;simp only[sbe];rfl)|(apply u_iteT;rfl;exact hK')|(apply u_iteF;rfl;exact hS')|(apply u_stoa;rfl;rfl;rfl;rfl;rfl;exact a3;exact a4;simp only[sbe];rfl)|(apply u_ld;rfl;rfl;(·first|exact ld_blk k2 rfl|exact ld_blk k3 rfl|exact ld_blk k4' rfl|exact ld_blk k5 rfl|exact l4|exact l5|exact ld_blk a1 rfl);simp only[sbe];rfl)|(apply u_sto;rfl;rfl;rfl;exact sto_all rfl rfl rfl;simp only[sbe];rfl)|(apply u_apph;rfl;rfl;rfl;exact a2;simp only[sbe];rfl)|(apply u_ev;rfl;simp only[sbe];rfl)|(apply u_call;rfl;rfl;(·first|exact q1|exact q2);rfl;simp only[sbe];rfl)|(apply u_or;rfl)|(apply u_and;rfl)|refine u_join ?_|(apply u_jump;rfl;rfl)|refine at_jump ?_|refine kj rfl ?_|exact u_ret rfl rfl|(intro hz;(try simp only[sbs] at hz)))
       rfl
     ·have hS':=hS
      unfold quS at hS'
      have e:=r2 (by unfold quH;rw[hS];rfl)
      subst e
      repeat' (first|(apply nrm;simp only[sbe];rfl)|(apply u_iteT;rfl;exact hS')|(apply u_ld;rfl;rfl;(·first|exact ld_blk k3 rfl|exact ld_blk k4' rfl|exact ld_blk k5 rfl);simp only[sbe];rfl)|(apply u_sto;rfl;rfl;rfl;exact sto_all rfl rfl rfl;simp only[sbe];rfl)|(apply u_ev;rfl;simp only[sbe];rfl)|(apply u_or;rfl)|(apply u_and;rfl)|refine u_join ?_|(apply u_jump;rfl;rfl)|refine at_jump ?_|refine kj rfl ?_|exact u_ret rfl rfl|(intro hz;(try simp only[sbs] at hz)))
      rfl
   ·rw[gN]
    repeat' (first|(apply nrm;simp only[sbe];rfl)|(apply u_jump;rfl;rfl)|refine at_jump ?_|refine kj rfl ?_)
    rfl
 ·have ho1':b0.length+1=(b0++[D.blk 106 1 [.loc v 0]]).length:=by simp
  rw[ho1'] at ho1
  repeat' (first|(apply nrm;simp only[sbe];rfl)|(apply u_ld;rfl;rfl;exact ld_blk ho1 rfl;simp only[sbe];rfl)|(apply u_jump;rfl;rfl)|refine at_jump ?_|refine kj rfl ?_|exact u_ret rfl rfl)

theorem c33 (h:Lg bs j f ss rs n){car t:Int}(hb:chkB f car 0 t=true):∃bs',FSpecW Try.prog 33 (.st bs) [.loc j 0,I car,I t] (.tup [.lst ((quL ss f.least (logR rs) (idxC (logR rs) t car) (idxC (logR rs) t car)).map qD),I 0]) (.st bs')∧Grow bs bs':=by
 obtain⟨s,b0,v,fN,h1,g1,hO,hs⟩:=c33raw h hb
 obtain⟨s',e1,e2,e3⟩:=hO.ov
 rw[hs] at e1
 cases e1
 obtain⟨b2,h2,hl2,ho2,hn2⟩:=FSpecW.frzS (sz:=2) (enc:=qcs) (d:=qD) (fun _=>rfl) (fun _=>rfl) h1 e2
 have hol:=hO.len
 simp only[List.length_append,List.length_cons,List.length_nil] at hol
 refine⟨b2,h2,by rw[hl2];have:=g1.le;omega,fun i hi=>?_,fun _=>hn2 hO.ny⟩
 have hg:=g1.le
 rw[ho2 i (fun e=>by have:=e3 i e;simp at this;omega),hO.old i (by simp;omega) (by omega),List.append_assoc,List.getElem?_append_left (by omega),g1.old i hi]

end Go.Am.Wr

/-
 On.
-/
namespace Go.Am.Wr
open Go.Proofs
set_option maxRecDepth 100000
set_option maxHeartbeats 4000000

attribute [local irreducible] inR

variable {bs:List D} {j n v:Nat} {f:Fld} {ss:List Src} {rs:List Rep} {W:List Rep}

theorem c74 (k:Kn):FSpecR Try.prog 74 (.st bs) [k.d] (B k.out):=by
 refine ku74.R rfl rfl ?_
 unfold u74
 simp only[ups_cons,ups_nil,List.cons_append,List.nil_append]
 repeat' (first|(apply u_chk;rfl)|exact u_ret rfl rfl)

theorem c98 {P:Kn→Bool}{f:Nat}{us cs:List D}{l:List Kn}(hL:l.length≤1000000000)(hc:callable Try.prog f=true)(hf:∀x,x∈l→FSpecR Try.prog f (.st bs) (us++[Kn.d x]++cs) (B (P x))):FSpecR Try.prog 98 (.st bs) [.lst (l.map Kn.d),.fn f us cs] (I (fi P l)):=by
 refine ku98.R rfl rfl ?_
 unfold u98
 simp only[ups_cons,ups_nil,List.cons_append,List.nil_append]
 repeat' (first|(apply u_lenL;rfl;exact lenL_map;simp only[sbe];rfl)|refine u_join ?_)
 refine u_range (fun i=>[I i]) (fun i=>∀k (h:k<i) (h2:k<l.length),P l[k]=false) l.length rfl (fun _=>rfl) (fun k h=>absurd h (Nat.not_lt_zero _)) (fun i hi hJ R hR=>?_) (fun hJ R=>?_)
 ·have hcal:=hf l[i] (List.getElem_mem hi)
  have hli:decide ((i:Int)<(l.length:Int))=true:=by simp;omega
  cases hP:P l[i]
  ·rw[hP] at hcal
   repeat' (first|(apply nrm;simp only[sbe];rfl)|(apply u_iteT;rfl;exact hli)|(apply u_iteF;rfl;exact rfl)|(apply u_eaddr;rfl;rfl;exact eaddr_get hi rfl;simp only[sbe];rfl)|(apply u_inc;rfl;omega;simp only[sbe];rfl)|(apply u_ev;rfl;simp only[sbe];rfl)|(apply u_callv;rfl;exact hc;rfl;rfl;exact hcal;rfl;simp only[sbe];rfl)|refine u_join ?_|(apply u_jump;rfl;rfl)|refine at_jump ?_|refine kj rfl ?_)
   refine hR fun k hk h2=>?_
   rcases Nat.lt_or_ge k i with h3 | h3
   ·exact hJ k h3 h2
   ·have e:k=i:=by omega
    subst e
    exact hP
  ·rw[hP] at hcal
   repeat' (first|(apply nrm;simp only[sbe];rfl)|(apply u_iteT;rfl;(·first|exact hli|exact rfl))|(apply u_eaddr;rfl;rfl;exact eaddr_get hi rfl;simp only[sbe];rfl)|(apply u_ev;rfl;simp only[sbe];rfl)|(apply u_callv;rfl;exact hc;rfl;rfl;exact hcal;rfl;simp only[sbe];rfl)|refine u_join ?_|(apply u_ret;rfl;first|exact rfl|(refine retB ?_)|(refine retI ?_)|(refine retD ?_)))
   exact(fi_at hi hP fun k hk=>hJ k hk (by omega)).symm
 ·repeat' (first|(apply nrm;simp only[sbe];rfl)|(apply u_ev;rfl;simp only[sbe];rfl)|(apply u_jump;rfl;rfl)|refine at_jump ?_|(refine over_jump (by decide) ?_)|refine kj rfl ?_|(apply u_ite;rfl;all_goals (intro hz;(try simp only[sbs] at hz);first|(exact absurd hz (by decide))|(exfalso;omega)|skip))|(apply u_ret;rfl;first|exact rfl|(refine retB ?_)|(refine retI ?_)|(refine retD ?_)))
  refine(fi_no fun a ha=>?_).symm
  obtain⟨k,hk,rfl⟩:=List.mem_iff_getElem.1 ha
  exact hJ k hk hk

theorem c73 {l:List Kn}(hL:l.length≤1000000000):FSpecR Try.prog 73 (.st bs) [.lst (l.map Kn.d),.fn 74 [] []] (B (l.any fun k=>k.out)):=by
 have h98:=c98 (bs:=bs) (P:=fun k=>k.out) (f:=74) (us:=[]) (cs:=[]) (l:=l) hL (by kernel_rfl) (fun x _=>c74 x)
 refine ku73.R rfl rfl ?_
 unfold u73
 simp only[ups_cons,ups_nil,List.cons_append,List.nil_append]
 repeat' (first|(apply u_ev;rfl;simp only[sbe];rfl)|(apply u_call;rfl;rfl;exact h98;rfl;simp only[sbe];rfl)|(apply u_ret;rfl;first|exact rfl|(refine retB ?_)|(refine retI ?_)|(refine retD ?_)))
 exact fi_any _ l

def onB (f:Fld)(ss:List Src)(n:Nat)(W:List Rep)(t from_ to car:Int):Bool:=
 !(knAt ss f.least n (ofCar W t car) to.toNat).passed&&((knAt ss f.least n (ofCar W t car) from_.toNat).passed||(!(((knR ss f.least n (ofCar W t car)).take from_.toNat).any fun k=>k.out)&&decide ((knAt ss f.least n (ofCar W t car) from_.toNat).low≤t)))

def onL (f:Fld)(ss:List Src)(n:Nat)(W:List Rep)(t from_ to:Int)(k:Nat):List Int:=((List.range k).map fun(i:Nat)=>(i:Int)+1).filter (onB f ss n W t from_ to)

theorem onL_succ (t from_ to:Int)(k:Nat):onL f ss n W t from_ to (k+1)=onL f ss n W t from_ to k++if onB f ss n W t from_ to ((k:Int)+1)=true then[(k:Int)+1] else[]:=by
 unfold onL
 rw[List.range_succ,List.map_append,List.filter_append,List.map_cons,List.map_nil,List.filter_cons,List.filter_nil]

theorem onL_len (t from_ to:Int)(k:Nat):(onL f ss n W t from_ to k).length≤k:=by
 unfold onL
 refine Nat.le_trans (List.length_filter_le _ _) ?_
 simp

theorem sub_kn {l:List Kn}{x:Int}(h:0≤x∧x≤l.length):D.sub 6 (.lst (l.map Kn.d)) (I 0) (I x)=some (.lst ((l.take x.toNat).map Kn.d)):=by
 simp only[D.sub]
 rw[if_pos ⟨Int.le_refl _,h.1,by simpa using h.2,by simp[allCells,Kn.d,Kn.cs,D.cells]⟩]
 simp[List.map_take]

theorem c36 (h:Lg bs j f ss rs n){from_ to t:Int}(hb:inR t 0 1000000000000=true)(hft:0≤from_∧from_<to∧to<(n:Int)):∃bs',FSpecW Try.prog 36 (.st bs) [.loc j 0,I from_,I to,I t] (.tup [Is (onL f ss n (logR rs) t from_ to f.cars.toNat),I 0]) (.st bs')∧Grow bs bs':=by
 have h65:=c65 h 1 0 t
 have hcars:=h.cars
 have hpl:=h.pl
 have hnh:=h.fok.hi
 rw[if_pos (by unfold chkB;rw[hb];simp[inR,hcars,hpl];omega)] at h65
 obtain⟨b1,v,s,h66,g1,hV,_⟩:=viewL h t
 have h':=h.keep g1
 obtain⟨F,F0,F1,F2⟩:=seqOf (N:=f.cars.toNat) (s0:=b1) (J:=fun k st=>Grow b1 st) (R:=fun k st st'=>FSpecW Try.prog 67 (.st st) [.loc v 0,I ((k:Int)+1)] (.lst ((knR ss f.least n (ofCar (logR rs) t ((k:Int)+1))).map Kn.d)) (.st st')) (Grow.refl b1) (fun k st _ hJ=>by
  obtain⟨st',h1,h2⟩:=knownL (h'.keep hJ) (hV.keep hJ.old) ((k:Int)+1)
  exact⟨st',h1,hJ.trans h2⟩)
 refine⟨F f.cars.toNat,?_,g1.trans (F1 _ (Nat.le_refl _))⟩
 obtain⟨m,hm⟩:=h.log
 obtain⟨m',hm'⟩:=h'.log
 have c1:decide (from_<0)=false:=by simp;omega
 have c2:decide (from_≥to)=false:=by simp;omega
 have c3:decide (to≥f.places)=false:=by simp;omega
 have c4:(decide (from_<0)||decide (from_≥to)||decide (to≥f.places))=false:=by rw[c1,c2,c3];rfl
 refine ku36.W rfl ?_
 unfold u36
 simp only[ups_cons,ups_nil,List.cons_append,List.nil_append]
 repeat' (first|(apply nrm;simp only[sbe];rfl)|(apply u_iteF;rfl;(·first|exact rfl|exact c4))|(apply u_chk;rfl)|(apply u_ld;rfl;rfl;exact ld_blk hm.blk rfl;simp only[sbe];rfl)|(apply u_ev;rfl;simp only[sbe];rfl)|(apply u_call;rfl;rfl;exact h65;rfl;simp only[sbe];rfl)|(apply u_wcall;rfl;rfl;exact h66;rfl;simp only[sbe];rfl)|(apply u_or;rfl)|refine u_join ?_|exact u_ret rfl rfl|(intro hz;(try simp only[sbs] at hz)))
 refine u_range (fun k=>[Is (onL f ss n (logR rs) t from_ to k),I ((k:Int)+1),.st (F k)]) (fun _=>True) f.cars.toNat (by rw[F0];rfl) (fun _=>rfl) trivial (fun k hk _ R hR=>?_) (fun _ R=>?_)
 ·have hli:decide ((k:Int)+1≤f.cars)=true:=by simp;omega
  have hlk:(F k)[j]? = some (.blk 80 5 [I f.cars,I f.places,Is f.least,.lst (ss.map Src.d),.mp m']):=by
   rw[(F1 k (by omega)).old j (List.getElem?_eq_some_iff.1 hm'.blk).1];exact hm'.blk
  have h67:=F2 k hk
  have hkl:(knR ss f.least n (ofCar (logR rs) t ((k:Int)+1))).length=n:=by simp[knR]
  have hsub:=sub_kn (l:=knR ss f.least n (ofCar (logR rs) t ((k:Int)+1))) (x:=from_) (by rw[hkl];omega)
  have h73:=c73 (bs:=F (k+1)) (l:=(knR ss f.least n (ofCar (logR rs) t ((k:Int)+1))).take from_.toNat) (by simp;omega)
  have he1:=ea_kn (f:=f) (ss:=ss) (n:=n) (l:=ofCar (logR rs) t ((k:Int)+1)) (place:=from_) (by omega)
  have he2:=ea_kn (f:=f) (ss:=ss) (n:=n) (l:=ofCar (logR rs) t ((k:Int)+1)) (place:=to) (by omega)
  have hon:onB f ss n (logR rs) t from_ to ((k:Int)+1)=onB f ss n (logR rs) t from_ to ((k:Int)+1):=rfl
  have hsc:=onL_succ (f:=f) (ss:=ss) (n:=n) (W:=logR rs) t from_ to k
  have hll:=onL_len (f:=f) (ss:=ss) (n:=n) (W:=logR rs) t from_ to k
  have happ:=app_int (out:=onL f ss n (logR rs) t from_ to k) (x:=(k:Int)+1) (by omega)
  have e2:(k:Int)+1+1=((k+1:Nat):Int)+1:=by omega
  cases hc:onB f ss n (logR rs) t from_ to ((k:Int)+1)
  ·have hc':=hc
   unfold onB at hc'
   rw[hc,if_neg (by decide),List.append_nil] at hsc
   rw[hsc,←e2] at hR
   repeat' (first|(apply nrm;simp only[sbe];rfl)|(apply u_iteT;rfl;exact hli)|(apply u_iteF;rfl;exact hc')|(apply u_chk;rfl)|(apply u_ld;rfl;rfl;exact ld_blk hlk rfl;simp only[sbe];rfl)|(apply u_eaddr;rfl;rfl;(·first|exact he1|exact he2);simp only[sbe];rfl)|(apply u_subl;rfl;rfl;rfl;exact hsub;simp only[sbe];rfl)|(apply u_add;rfl;rfl;omega;simp only[sbe];rfl)|(apply u_ev;rfl;simp only[sbe];rfl)|(apply u_call;rfl;rfl;exact h73;rfl;simp only[sbe];rfl)|(apply u_wcall;rfl;rfl;exact h67;rfl;simp only[sbe];rfl)|(apply u_or;rfl)|(apply u_and;rfl)|refine u_join ?_|(apply u_jump;rfl;rfl)|refine at_jump ?_|refine kj rfl ?_|exact u_ret rfl rfl|(intro hz;(try simp only[sbs] at hz)))
   exact hR trivial
  ·have hc':=hc
   unfold onB at hc'
   rw[hc,if_pos rfl] at hsc
   rw[hsc,←e2] at hR
   repeat' (first|(apply nrm;simp only[sbe];rfl)|(apply u_iteT;rfl;(·first|exact hli|exact hc'))|(apply u_chk;rfl)|(apply u_ld;rfl;rfl;exact ld_blk hlk rfl;simp only[sbe];rfl)|(apply u_eaddr;rfl;rfl;(·first|exact he1|exact he2);simp only[sbe];rfl)|(apply u_app;rfl;rfl;exact happ;simp only[sbe];rfl)|(apply u_subl;rfl;rfl;rfl;exact hsub;simp only[sbe];rfl)|(apply u_add;rfl;rfl;omega;simp only[sbe];rfl)|(apply u_ev;rfl;simp only[sbe];rfl)|(apply u_call;rfl;rfl;exact h73;rfl;simp only[sbe];rfl)|(apply u_wcall;rfl;rfl;exact h67;rfl;simp only[sbe];rfl)|(apply u_or;rfl)|(apply u_and;rfl)|refine u_join ?_|(apply u_jump;rfl;rfl)|refine at_jump ?_|refine kj rfl ?_|exact u_ret rfl rfl|(intro hz;(try simp only[sbs] at hz)))
   exact hR trivial
 ·have hli:decide ((f.cars.toNat:Int)+1≤f.cars)=false:=by simp;omega
  have hlk:(F f.cars.toNat)[j]? = some (.blk 80 5 [I f.cars,I f.places,Is f.least,.lst (ss.map Src.d),.mp m']):=by
   rw[(F1 _ (Nat.le_refl _)).old j (List.getElem?_eq_some_iff.1 hm'.blk).1];exact hm'.blk
  repeat' (first|(apply nrm;simp only[sbe];rfl)|(apply u_iteF;rfl;exact hli)|(apply u_chk;rfl)|(apply u_ld;rfl;rfl;exact ld_blk hlk rfl;simp only[sbe];rfl)|(apply u_ev;rfl;simp only[sbe];rfl)|(apply u_jump;rfl;rfl)|refine at_jump ?_|(refine over_jump (by decide) ?_)|refine kj rfl ?_|exact u_ret rfl rfl)

end Go.Am.Wr

/-
 New,Add: what comes of a log;comparisons of lists.
-/
namespace Go.Am.Wr
open Go.Proofs
set_option maxRecDepth 100000
set_option maxHeartbeats 4000000

attribute [local irreducible] inR

variable {bs:List D} {j n v:Nat} {f:Fld} {ss:List Src} {rs:List Rep} {W:List Rep}

structure GrowX (bs bs':List D)(j:Nat):Prop where
 le:bs.length≤bs'.length
 old:∀i,i<bs.length→i≠j→bs'[i]? = bs[i]?
 ny:noyls bs=true→noyls bs'=true

theorem mapOk_fold:∀(rs:List Rep) {m:List (Rep×Int)},MapOk m→MapOk (rs.foldl put m)
 | [],_,h=>h
 | r :: rs,_,h=>mapOk_fold rs (put_ok h r)

theorem fld_noyl (f:Fld)(ss:List Src)(m:Nat):(D.blk 80 5 [I f.cars,I f.places,Is f.least,.lst (ss.map Src.d),.mp m]).noyl=true:=by
 have h1:noyls (f.least.map I)=true:=noyls_map fun _ _=>rfl
 have h2:noyls (ss.map Src.d)=true:=noyls_map fun s _=>by simp[Src.d,Src.cs,D.noyl,noyls]
 simp[D.noyl,noyls,h1,h2]

theorem kv_noyl (kv:List (Rep×Int)):(D.mblk (kv.map kvD)).noyl=true:=by
 have h:noyls (kv.map kvD)=true:=noyls_map fun e _=>by simp[kvD,D.noyl,noyls,rep_noyl]
 simpa[D.noyl] using h

theorem addL (h:Lg bs j f ss rs n){l:List Rep}(hl:l.length≤1000000)(hr:∀r,r∈l→rightB f ss r=true)(hlen:((rs++l).foldl put []).length≤5000) :
  ∃bs',FSpecW Try.prog 21 (.st bs) [.loc j 0,.lst (l.map Rep.d)] (I 0) (.st bs')∧Lg bs' j f ss (rs++l) n∧GrowX bs bs' j:=by
 obtain⟨m,hm⟩:=h.log
 have hs:=h.srcs
 have hp:=h.pl
 have hnh:=h.fok.hi
 have hjl:j<bs.length:=(List.getElem?_eq_some_iff.1 hm.blk).1
 have hfold:l.foldl put (rs.foldl put [])=(rs++l).foldl put []:=by rw[List.foldl_append]
 have hany:l.any (fun r=>!rightB f ss r)=false:=by
  rw[List.any_eq_false]
  intro r hr'
  simp[hr r hr']
 have h21:=c21 hm (mapOk_fold rs map_nil) (by omega) (by omega) hl hany
 rw[hfold,if_neg (by omega),if_neg (by omega)] at h21
 refine⟨_,h21,⟨⟨bs.length,?_,?_⟩,by omega,h.fok,hp,h.cars,hs,fun r hr'=>?_,?_⟩,⟨by simp,fun i hi hne=>?_,fun hn=>?_⟩⟩
 ·rw[List.getElem?_set_self (by simp;omega)]
 ·rw[List.getElem?_set_ne (by omega)]
  simp
 ·rcases List.mem_append.1 hr' with h1 | h1
  ·exact h.right r h1
  ·exact hr r h1
 ·refine noyls_set _ _ _ ?_ (fld_noyl _ _ _)
  rw[noyls_app,h.ny]
  simp[noyls,kv_noyl]
 ·rw[List.getElem?_set_ne (Ne.symm hne),List.getElem?_append_left hi]
 ·refine noyls_set _ _ _ ?_ (fld_noyl _ _ _)
  rw[noyls_app,hn]
  simp[noyls,kv_noyl]

theorem put_len (m:List (Rep×Int))(r:Rep):(put m r).length≤m.length+1:=by
 cases h:m.any (fun e=>decide (e.1=plainR r)) with
 | true=>rw[put_len_has h];omega
 | false=>rw[put_len_new h];omega

theorem fold_len:∀(rs:List Rep) (m:List (Rep×Int)),(rs.foldl put m).length≤m.length+rs.length
 | [],m=>by simp
 | r :: rs,m=>by
  have h1:=fold_len rs (put m r)
  have h2:=put_len m r
  simp only[List.foldl_cons,List.length_cons]
  omega

theorem fok_of (hf:fielded f ss=true):FOk f.places.toNat f.least ss∧f.places=((f.places.toNat:Nat):Int)∧(1≤f.cars∧f.cars≤200)∧ss.length≤50:=by
 unfold fielded inR srcBad inR at hf
 simp only[Bool.and_eq_true,decide_eq_true_eq,Bool.not_eq_true',List.any_eq_false,Bool.not_eq_false'] at hf
 obtain⟨h1,h2,h3,h4,h5,h6⟩:=hf
 refine⟨⟨by omega,by omega,by omega,fun x hx=>?_,fun s hs=>?_⟩,by omega,by omega,by omega⟩
 ·have:=h5 x hx
  simp at this
  omega
 ·have:=h6 s hs
  simp at this
  omega

theorem newL (hf:fielded f ss=true)(hn:noyls bs=true):∃bs' j,FSpecW Try.prog 18 (.st bs) [f.d,.lst (ss.map Src.d)] (.tup [.loc j 0,I 0]) (.st bs')∧Lg bs' j f ss [] f.places.toNat∧Grow bs bs'∧bs.length≤j:=by
 obtain⟨h1,h2,h3,h4⟩:=fok_of hf
 have h5:=h1.len
 have h6:=h1.hi
 have hi:i64 f.places:=⟨by omega,by omega⟩
 have hny:noyls (newSt bs f ss)=true:=by
  have:=fld_noyl f ss bs.length
  rw[newSt,noyls_app,hn]
  simp only[noyls,this]
  rfl
 refine⟨newSt bs f ss,bs.length+1,c18 (by omega) (by omega) hi hf,⟨⟨bs.length,newSt_log⟩,by simp,h1,h2,h3,h4,by simp,hny⟩,⟨by simp[newSt],fun i hi=>?_,fun _=>hny⟩,by omega⟩
 simp only[newSt]
 rw[List.getElem?_append_left hi]

/-! ## equal lists -/

theorem neq_kn (a b:Kn):D.bin .neq (.agg [0,0,1,1,1,1]) a.d b.d=some (B (decide (a≠b))):=by
 obtain⟨a1,a2,a3,a4,a5,a6⟩:=a
 obtain⟨b1,b2,b3,b4,b5,b6⟩:=b
 simp only[Kn.d,Kn.cs,D.bin,D.eqs,cmpI,Kn.mk.injEq,ne_eq]
 by_cases h1:a1=b1 <;> by_cases h2:a2=b2 <;> by_cases h3:a3=b3 <;> by_cases h4:a4=b4 <;> by_cases h5:a5=b5 <;> by_cases h6:a6=b6 <;> simp_all

theorem neq_q (a b:Nat×Nat):D.bin .neq (.agg [0,0]) (qD a) (qD b)=some (B (decide (a≠b))):=by
 obtain⟨a1,a2⟩:=a
 obtain⟨b1,b2⟩:=b
 simp only[qD,qcs,D.bin,D.eqs,cmpI,Prod.mk.injEq,ne_eq]
 by_cases h1:a1=b1 <;> by_cases h2:a2=b2 <;> simp_all <;> omega

theorem neq_int (a b:Int):D.bin .neq .int (I a) (I b)=some (B (decide (a≠b))):=by
 by_cases h:a=b
 ·subst h;simp[D.bin,cmpI]
 ·simp[D.bin,cmpI,h]

theorem c30 (a b:List Kn)(hL:a.length≤1000000):FSpecR Try.prog 30 (.st bs) [.lst (a.map Kn.d),.lst (b.map Kn.d)] (B (decide (a=b))):=by
 refine ku30.R rfl rfl ?_
 unfold u30
 simp only[ups_cons,ups_nil,List.cons_append,List.nil_append]
 by_cases hlen:a.length=b.length
 ·have h1:(((a.length:Nat):Int) != ((b.length:Nat):Int))=false:=by simp[hlen]
  repeat' (first|(apply u_iteF;rfl;exact h1)|(apply u_lenL;rfl;exact lenL_map;simp only[sbe];rfl)|(apply u_ev;rfl;simp only[sbe];rfl)|refine u_join ?_)
  refine u_range (fun i=>[In i]) (fun i=>∀k (h:k<i) (h2:k<a.length),a[k]=b[k]'(by omega)) a.length rfl (fun _=>rfl) (fun k h=>absurd h (Nat.not_lt_zero _)) (fun i hi hJ R hR=>?_) (fun hJ R=>?_)
  ·have hli:decide ((i:Int)<((a.length:Nat):Int))=true:=by simp;omega
   have hib:i<b.length:=by omega
   have hn:=neq_kn a[i] b[i]
   by_cases he:a[i]=b[i]
   ·have hne:decide (a[i]≠b[i])=false:=by simp[he]
    repeat' (first|(apply nrm;simp only[sbe];rfl)|(apply u_iteT;rfl;exact hli)|(apply u_iteF;rfl;exact hne)|(apply u_eaddr;rfl;rfl;(·first|exact eaddr_get hi rfl|exact eaddr_get hib rfl);simp only[sbe];rfl)|(apply u_bin;rfl;rfl;exact hn;simp only[sbe];rfl)|(apply u_lenL;rfl;exact lenL_map;simp only[sbe];rfl)|(apply u_inc;rfl;omega;simp only[sbe];rfl)|(apply u_ev;rfl;simp only[sbe];rfl)|refine u_join ?_|(apply u_jump;rfl;rfl)|refine at_jump ?_|refine kj rfl ?_)
    refine hR fun k hk h2=>?_
    rcases Nat.lt_or_ge k i with h3 | h3
    ·exact hJ k h3 h2
    ·have e:k=i:=by omega
     subst e
     exact he
   ·have hne:decide (a[i]≠b[i])=true:=by simp[he]
    repeat' (first|(apply nrm;simp only[sbe];rfl)|(apply u_iteT;rfl;(·first|exact hli|exact hne))|(apply u_eaddr;rfl;rfl;(·first|exact eaddr_get hi rfl|exact eaddr_get hib rfl);simp only[sbe];rfl)|(apply u_bin;rfl;rfl;exact hn;simp only[sbe];rfl)|(apply u_lenL;rfl;exact lenL_map;simp only[sbe];rfl)|(apply u_ev;rfl;simp only[sbe];rfl)|refine u_join ?_|(apply u_ret;rfl;first|exact rfl|(refine retB ?_)|(refine retI ?_)|(refine retD ?_)))
    rw[decide_eq_false]
    rintro rfl
    exact he rfl
  ·have hli:decide (((a.length:Nat):Int)<((a.length:Nat):Int))=false:=by simp
   repeat' (first|(apply nrm;simp only[sbe];rfl)|(apply u_iteF;rfl;exact hli)|(apply u_lenL;rfl;exact lenL_map;simp only[sbe];rfl)|(apply u_ev;rfl;simp only[sbe];rfl)|(apply u_jump;rfl;rfl)|refine at_jump ?_|(refine over_jump (by decide) ?_)|refine kj rfl ?_|(apply u_ret;rfl;first|exact rfl|(refine retB ?_)|(refine retI ?_)|(refine retD ?_)))
   rw[decide_eq_true]
   exact List.ext_getElem hlen fun k h1 h2=>hJ k h1 h1
 ·have h1:(((a.length:Nat):Int) != ((b.length:Nat):Int))=true:=by simp;omega
  repeat' (first|(apply u_iteT;rfl;exact h1)|(apply u_lenL;rfl;exact lenL_map;simp only[sbe];rfl)|(apply u_ev;rfl;simp only[sbe];rfl)|(apply u_ret;rfl;first|exact rfl|(refine retB ?_)|(refine retI ?_)|(refine retD ?_)))
  rw[decide_eq_false]
  rintro rfl
  exact hlen rfl

theorem c34 (a b:List (Nat×Nat))(hL:a.length≤1000000):FSpecR Try.prog 34 (.st bs) [.lst (a.map qD),.lst (b.map qD)] (B (decide (a=b))):=by
 refine ku34.R rfl rfl ?_
 unfold u34
 simp only[ups_cons,ups_nil,List.cons_append,List.nil_append]
 by_cases hlen:a.length=b.length
 ·have h1:(((a.length:Nat):Int) != ((b.length:Nat):Int))=false:=by simp[hlen]
  repeat' (first|(apply u_iteF;rfl;exact h1)|(apply u_lenL;rfl;exact lenL_map;simp only[sbe];rfl)|(apply u_ev;rfl;simp only[sbe];rfl)|refine u_join ?_)
  refine u_range (fun i=>[In i]) (fun i=>∀k (h:k<i) (h2:k<a.length),a[k]=b[k]'(by omega)) a.length rfl (fun _=>rfl) (fun k h=>absurd h (Nat.not_lt_zero _)) (fun i hi hJ R hR=>?_) (fun hJ R=>?_)
  ·have hli:decide ((i:Int)<((a.length:Nat):Int))=true:=by simp;omega
   have hib:i<b.length:=by omega
   have hn:=neq_q a[i] b[i]
   by_cases he:a[i]=b[i]
   ·have hne:decide (a[i]≠b[i])=false:=by simp[he]
    repeat' (first|(apply nrm;simp only[sbe];rfl)|(apply u_iteT;rfl;exact hli)|(apply u_iteF;rfl;exact hne)|(apply u_eaddr;rfl;rfl;(·first|exact eaddr_get hi rfl|exact eaddr_get hib rfl);simp only[sbe];rfl)|(apply u_bin;rfl;rfl;exact hn;simp only[sbe];rfl)|(apply u_lenL;rfl;exact lenL_map;simp only[sbe];rfl)|(apply u_inc;rfl;omega;simp only[sbe];rfl)|(apply u_ev;rfl;simp only[sbe];rfl)|refine u_join ?_|(apply u_jump;rfl;rfl)|refine at_jump ?_|refine kj rfl ?_)
    refine hR fun k hk h2=>?_
    rcases Nat.lt_or_ge k i with h3 | h3
    ·exact hJ k h3 h2
    ·have e:k=i:=by omega
     subst e
     exact he
   ·have hne:decide (a[i]≠b[i])=true:=by simp[he]
    repeat' (first|(apply nrm;simp only[sbe];rfl)|(apply u_iteT;rfl;(·first|exact hli|exact hne))|(apply u_eaddr;rfl;rfl;(·first|exact eaddr_get hi rfl|exact eaddr_get hib rfl);simp only[sbe];rfl)|(apply u_bin;rfl;rfl;exact hn;simp only[sbe];rfl)|(apply u_lenL;rfl;exact lenL_map;simp only[sbe];rfl)|(apply u_ev;rfl;simp only[sbe];rfl)|refine u_join ?_|(apply u_ret;rfl;first|exact rfl|(refine retB ?_)|(refine retI ?_)|(refine retD ?_)))
    rw[decide_eq_false]
    rintro rfl
    exact he rfl
  ·have hli:decide (((a.length:Nat):Int)<((a.length:Nat):Int))=false:=by simp
   repeat' (first|(apply nrm;simp only[sbe];rfl)|(apply u_iteF;rfl;exact hli)|(apply u_lenL;rfl;exact lenL_map;simp only[sbe];rfl)|(apply u_ev;rfl;simp only[sbe];rfl)|(apply u_jump;rfl;rfl)|refine at_jump ?_|(refine over_jump (by decide) ?_)|refine kj rfl ?_|(apply u_ret;rfl;first|exact rfl|(refine retB ?_)|(refine retI ?_)|(refine retD ?_)))
   rw[decide_eq_true]
   exact List.ext_getElem hlen fun k h1 h2=>hJ k h1 h1
 ·have h1:(((a.length:Nat):Int) != ((b.length:Nat):Int))=true:=by simp;omega
  repeat' (first|(apply u_iteT;rfl;exact h1)|(apply u_lenL;rfl;exact lenL_map;simp only[sbe];rfl)|(apply u_ev;rfl;simp only[sbe];rfl)|(apply u_ret;rfl;first|exact rfl|(refine retB ?_)|(refine retI ?_)|(refine retD ?_)))
  rw[decide_eq_false]
  rintro rfl
  exact hlen rfl

theorem c37 (a b:List Int)(hL:a.length≤1000000):FSpecR Try.prog 37 (.st bs) [.lst (a.map I),.lst (b.map I)] (B (decide (a=b))):=by
 refine ku37.R rfl rfl ?_
 unfold u37
 simp only[ups_cons,ups_nil,List.cons_append,List.nil_append]
 by_cases hlen:a.length=b.length
 ·have h1:(((a.length:Nat):Int) != ((b.length:Nat):Int))=false:=by simp[hlen]
  repeat' (first|(apply u_iteF;rfl;exact h1)|(apply u_lenL;rfl;exact lenL_map;simp only[sbe];rfl)|(apply u_ev;rfl;simp only[sbe];rfl)|refine u_join ?_)
  refine u_range (fun i=>[In i]) (fun i=>∀k (h:k<i) (h2:k<a.length),a[k]=b[k]'(by omega)) a.length rfl (fun _=>rfl) (fun k h=>absurd h (Nat.not_lt_zero _)) (fun i hi hJ R hR=>?_) (fun hJ R=>?_)
  ·have hli:decide ((i:Int)<((a.length:Nat):Int))=true:=by simp;omega
   have hib:i<b.length:=by omega
   have hn:=neq_int a[i] b[i]
   by_cases he:a[i]=b[i]
   ·have hne:decide (a[i]≠b[i])=false:=by simp[he]
    repeat' (first|(apply nrm;simp only[sbe];rfl)|(apply u_iteT;rfl;exact hli)|(apply u_iteF;rfl;exact hne)|(apply u_eaddr;rfl;rfl;(·first|exact eaddr_get hi rfl|exact eaddr_get hib rfl);simp only[sbe];rfl)|(apply u_bin;rfl;rfl;exact hn;simp only[sbe];rfl)|(apply u_lenL;rfl;exact lenL_map;simp only[sbe];rfl)|(apply u_inc;rfl;omega;simp only[sbe];rfl)|(apply u_ev;rfl;simp only[sbe];rfl)|refine u_join ?_|(apply u_jump;rfl;rfl)|refine at_jump ?_|refine kj rfl ?_)
    refine hR fun k hk h2=>?_
    rcases Nat.lt_or_ge k i with h3 | h3
    ·exact hJ k h3 h2
    ·have e:k=i:=by omega
     subst e
     exact he
   ·have hne:decide (a[i]≠b[i])=true:=by simp[he]
    repeat' (first|(apply nrm;simp only[sbe];rfl)|(apply u_iteT;rfl;(·first|exact hli|exact hne))|(apply u_eaddr;rfl;rfl;(·first|exact eaddr_get hi rfl|exact eaddr_get hib rfl);simp only[sbe];rfl)|(apply u_bin;rfl;rfl;exact hn;simp only[sbe];rfl)|(apply u_lenL;rfl;exact lenL_map;simp only[sbe];rfl)|(apply u_ev;rfl;simp only[sbe];rfl)|refine u_join ?_|(apply u_ret;rfl;first|exact rfl|(refine retB ?_)|(refine retI ?_)|(refine retD ?_)))
    rw[decide_eq_false]
    rintro rfl
    exact he rfl
  ·have hli:decide (((a.length:Nat):Int)<((a.length:Nat):Int))=false:=by simp
   repeat' (first|(apply nrm;simp only[sbe];rfl)|(apply u_iteF;rfl;exact hli)|(apply u_lenL;rfl;exact lenL_map;simp only[sbe];rfl)|(apply u_ev;rfl;simp only[sbe];rfl)|(apply u_jump;rfl;rfl)|refine at_jump ?_|(refine over_jump (by decide) ?_)|refine kj rfl ?_|(apply u_ret;rfl;first|exact rfl|(refine retB ?_)|(refine retI ?_)|(refine retD ?_)))
   rw[decide_eq_true]
   exact List.ext_getElem hlen fun k h1 h2=>hJ k h1 h1
 ·have h1:(((a.length:Nat):Int) != ((b.length:Nat):Int))=true:=by simp;omega
  repeat' (first|(apply u_iteT;rfl;exact h1)|(apply u_lenL;rfl;exact lenL_map;simp only[sbe];rfl)|(apply u_ev;rfl;simp only[sbe];rfl)|(apply u_ret;rfl;first|exact rfl|(refine retB ?_)|(refine retI ?_)|(refine retD ?_)))
  rw[decide_eq_false]
  rintro rfl
  exact hlen rfl

theorem c25:FSpecR Try.prog 25 (.st bs) [] (Fld.d ⟨2,3,[100,100]⟩):=by
 refine ku25.R rfl rfl ?_
 unfold u25
 simp only[ups_cons,ups_nil,List.cons_append,List.nil_append]
 repeat' (first|(apply u_chk;rfl)|(apply u_ev;rfl;simp only[sbe];rfl)|exact u_ret rfl rfl)

theorem c26:FSpecR Try.prog 26 (.st bs) [] (.lst ([⟨1,1⟩,⟨3,50⟩].map Src.d)):=by
 refine ku26.R rfl rfl ?_
 unfold u26
 simp only[ups_cons,ups_nil,List.cons_append,List.nil_append]
 repeat' (first|(apply u_ev;rfl;simp only[sbe];rfl)|exact u_ret rfl rfl)

end Go.Am.Wr

/-
 The laws' functions,as texts.
-/
namespace Go.Am.Wr
open Go.Proofs

noncomputable def u11:U:=(ups [.chk (.aggN 5 y0),
 .call 27 (.const (.st [])) [(.m4 .noids (agc 5 y0) .nil .nil .nil)] [true],
 .ev (.un .not y4)]
 (.ite y5 (ups [.wcall 17 y3 [] [true]]
 (.ret (.tcons y6 (.tcons y7 .tnil)))) (ups [.wcall 28 y3 [(agc 5 y0)] [true,true],
 .ev (.un .not (.tget 1 y6))]
 (.ite y8 (.ret (.tcons (kb false) (.tcons y7 .tnil))) (ups [.wcall 41 y7 [(.tget 0 y6),y1] [true,true],
 .wcall 42 y10 [(.tget 0 y6),y2] [true,true],
 .call 22 (.const (.st [])) [(.m4 .noids (.cell 4 y0) .nil .nil .nil)] [true],
 .ev (.bin .lss .int y1 (ki 0)),
 .chain true y14 (ups [.ev (.bin .gtr .int y1 (ki 1000000000000))]
 (.ret y15)),
 .join 0 0 (.ite y15 (ups [.ev (.bin .neq .int (.tget 1 y9) (ki 2)),
 .chain true y16 (ups [.chk (.tget 0 y9),
 .ev (.lenL (.tget 0 y9)),
 .ev (.bin .neq .int y17 (ki 0))]
 (.ret y18))]
 (.ite y17 (.ret (.tcons (kb false) (.tcons y12 .tnil))) (.jump 0 [] []))) (ups [.ev (.bin .neq .int (.tget 1 y9) (ki 0)),
 .chain true y16 (ups [.chk (.tget 0 y9),
 .call 32 (.const (.st [])) [(.m4 .noids y13 .nil .nil .nil),(.m4 .noids y1 .nil .nil .nil)] [true],
 .call 37 (.const (.st [])) [(.m4 .noids (.tget 0 y9) .nil .nil .nil),(.m4 .noids y17 .nil .nil .nil)] [true],
 .ev (.un .not y18)]
 (.ret y19))]
 (.ite y17 (.ret (.tcons (kb false) (.tcons y12 .tnil))) (.jump 0 [] [])))),
 .ev (.bin .lss .int y2 (ki 0)),
 .chain true y16 (ups [.chk (.cell 3 y0),
 .ev (.lenL (.cell 3 y0)),
 .ev (.bin .geq .int y2 y17)]
 (.ret y18))]
 (.ite y17 (ups [.ev (.bin .eql .int (.tget 1 y11) (ki 2)),
 .chain false y18 (ups [.chk (.tget 0 y11),
 .ev (.lenL (.tget 0 y11)),
 .ev (.bin .eql .int y19 (ki 0))]
 (.ret y20)),
 .gen (.wcall [(y19,true)] 17 y12 [] [true]),
 .ev (.ite y19 (.tget 0 y20) (kb false))]
 (.ret (.tcons y21 (.tcons (.tget 1 y20) .tnil)))) (ups [.ev (.bin .eql .int (.tget 1 y11) (ki 0)),
 .chain false y18 (ups [.chk (.tget 0 y11),
 .call 43 (.const (.st [])) [(.m4 .noids y13 .nil .nil .nil),(.m4 .noids y2 .nil .nil .nil)] [true],
 .call 37 (.const (.st [])) [(.m4 .noids (.tget 0 y11) .nil .nil .nil),(.m4 .noids y19 .nil .nil .nil)] [true]]
 (.ret y20)),
 .gen (.wcall [(y19,true)] 17 y12 [] [true]),
 .ev (.ite y19 (.tget 0 y20) (kb false))]
 (.ret (.tcons y21 (.tcons (.tget 1 y20) .tnil))))))))))
theorem ku11:UOk Try.prog 11 .plain (wcf false [] [] Try.f11) [false,true,true] u11:=UOk.plain Try.func11 (by kernel_rfl) (by kernel_rfl)

noncomputable def u14:U:=(ups [.chk (.aggN 5 y0),
 .call 27 (.const (.st [])) [(.m4 .noids (agc 5 y0) .nil .nil .nil)] [true],
 .ev (.un .not y5)]
 (.ite y6 (ups [.wcall 17 y4 [] [true]]
 (.ret (.tcons y7 (.tcons y8 .tnil)))) (ups [.wcall 28 y4 [(agc 5 y0)] [true,true],
 .ev (.un .not (.tget 1 y7))]
 (.ite y9 (.ret (.tcons (kb false) (.tcons y8 .tnil))) (ups [.wcall 46 y8 [(.tget 0 y7),y1,y2,y3] [true,true,true],
 .wcall 47 y11 [(.tget 0 y7),y1,y2,y3] [true,true],
 .ev (.bin .lss .int y1 (ki 1)),
 .chain true y14 (ups [.chk (.cell 0 y0),
 .ev (.bin .gtr .int y1 (.cell 0 y0))]
 (.ret y15)),
 .chain true y15 (ups [.ev (.bin .lss .int y2 (ki 0))]
 (.ret y16)),
 .chain true y16 (ups [.chk (.cell 1 y0),
 .ev (.bin .geq .int y2 (.cell 1 y0))]
 (.ret y17)),
 .chain true y17 (ups [.ev (.bin .lss .int y3 (ki 0))]
 (.ret y18)),
 .chain true y18 (ups [.ev (.bin .gtr .int y3 (ki 1000000000000))]
 (.ret y19))]
 (.ite y19 (ups [.ev (.bin .eql .int (.tget 2 y10) (ki 2)),
 .chain false y20 (ups [.chk (.tget 1 y12),
 .ev (.bin .eql .int (.tget 1 y12) (ki 2))]
 (.ret y21)),
 .chain false y21 (ups [.chk (.tget 0 y10),
 .ev (.bin .eql .int (.tget 0 y10) (ki 0))]
 (.ret y22)),
 .chain false y22 (ups [.chk (.tget 1 y10),
 .ev (.bin .eql .int (.tget 1 y10) (ki 0))]
 (.ret y23)),
 .chain false y23 (ups [.chk (.tget 0 y12),
 .ev (.bin .eql .int (.tget 0 y12) (ki 0))]
 (.ret y24)),
 .gen (.wcall [(y24,true)] 17 y13 [] [true]),
 .ev (.ite y24 (.tget 0 y25) (kb false))]
 (.ret (.tcons y26 (.tcons (.tget 1 y25) .tnil)))) (ups [.call 22 (.const (.st [])) [(.m4 .noids (.cell 4 y0) .nil .nil .nil)] [true],
 .call 32 (.const (.st [])) [(.m4 .noids y20 .nil .nil .nil),(.m4 .noids y3 .nil .nil .nil)] [true],
 .call 48 (.const (.st [])) [(.m4 .noids (agc 3 y0) .nil .nil .nil),(.m4 .noids (.cell 3 y0) .nil .nil .nil),(.m4 .noids y20 .nil .nil .nil),(.m4 .noids y21 .nil .nil .nil),(.m4 .noids y1 .nil .nil .nil),(.m4 .noids y2 .nil .nil .nil)] [true,true,true],
 .chain false (.tget 2 y22) (ups [.chk (.tget 2 y10),
 .ev (.bin .neq .int (.tget 2 y10) (ki 0)),
 .chain true y23 (ups [.chk (.tget 0 y10),
 .chk (.tget 0 y22),
 .ev (.bin .neq .int (.tget 0 y10) (.tget 0 y22))]
 (.ret y24)),
 .chain true y24 (ups [.chk (.tget 1 y10),
 .chk (.tget 1 y22),
 .ev (.bin .neq .int (.tget 1 y10) (.tget 1 y22))]
 (.ret y25))]
 (.ret y25)),
 .chain true y23 (ups [.chk (.tget 2 y22),
 .ev (.un .not (.tget 2 y22)),
 .chain false y24 (ups [.chk (.tget 2 y10),
 .ev (.bin .neq .int (.tget 2 y10) (ki 5)),
 .chain true y25 (ups [.chk (.tget 0 y10),
 .ev (.bin .neq .int (.tget 0 y10) (ki 0))]
 (.ret y26)),
 .chain true y26 (ups [.chk (.tget 1 y10),
 .ev (.bin .neq .int (.tget 1 y10) (ki 0))]
 (.ret y27))]
 (.ret y27))]
 (.ret y25))]
 (.ite y24 (.ret (.tcons (kb false) (.tcons y13 .tnil))) (ups [.call 49 (.const (.st [])) [(.m4 .noids (.cell 3 y0) .nil .nil .nil),(.m4 .noids y20 .nil .nil .nil),(.m4 .noids y21 .nil .nil .nil),(.m4 .noids y1 .nil .nil .nil),(.m4 .noids y2 .nil .nil .nil)] [true],
 .ev (.bin .lss .int y25 (ki 0))]
 (.ite y26 (ups [.ev (.bin .eql .int (.tget 1 y12) (ki 5)),
 .chain false y27 (ups [.chk (.tget 0 y12),
 .ev (.bin .eql .int (.tget 0 y12) (ki 0))]
 (.ret y28)),
 .gen (.wcall [(y28,true)] 17 y13 [] [true]),
 .ev (.ite y28 (.tget 0 y29) (kb false))]
 (.ret (.tcons y30 (.tcons (.tget 1 y29) .tnil)))) (ups [.ev (.bin .eql .int (.tget 1 y12) (ki 0)),
 .chain false y27 (ups [.chk (.tget 0 y12),
 .ev (.bin .eql .int (.tget 0 y12) y25)]
 (.ret y28)),
 .gen (.wcall [(y28,true)] 17 y13 [] [true]),
 .ev (.ite y28 (.tget 0 y29) (kb false))]
 (.ret (.tcons y30 (.tcons (.tget 1 y29) .tnil))))))))))))))
theorem ku14:UOk Try.prog 14 .plain (wcf false [] [] Try.f14) [false,true,true,true] u14:=UOk.plain Try.func14 (by kernel_rfl) (by kernel_rfl)

noncomputable def u17:U:=(ups [.ev (.cons (.const (.agg [(.v (.int .i64 0))])) (.cons (.const (.agg [(.v (.int .i64 0))])) (.cons (.scal (ki 1)) (.cons (.scal (ki 1)) (.cons (.const (.agg [(.v (.int .i64 0))])) (.cons (.scal (ki 1000)) (.cons (.scal (ki 2000)) .nil))))))),
 .chk (.aggN 7 y1),
 .ev (.cons (.scal (ki 1)) (.cons (.const (.agg [(.v (.int .i64 0))])) (.cons (.scal (ki 1)) (.cons (.scal (ki 1)) (.cons (.scal (ki 1)) (.cons (.scal (ki 1180)) (.cons (.scal (ki 1500)) .nil))))))),
 .chk (.aggN 7 y2),
 .ev (.cons (.scal (ki 1)) (.cons (.scal (ki 3)) (.cons (.scal (ki 1)) (.cons (.scal (ki 1)) (.cons (.scal (ki 2)) (.cons (.scal (ki 1100)) (.cons (.scal (ki 3000)) .nil))))))),
 .chk (.aggN 7 y3),
 .call 25 (.const (.st [])) [] [false],
 .call 26 (.const (.st [])) [] [true],
 .wcall 18 y0 [y4,y5] [true,true],
 .ev (.bin .neq .int (.tget 1 y6) (ki 0)),
 .chain true y8 (ups [.chk (.tget 0 y6),
 .ev (.bin .eql .ptr (.tget 0 y6) (.const (.v (.pointer none))))]
 (.ret y9)),
 .ev (.guard y9 false (.tget 0 y6)),
 .ev (.guard y9 false (.lcons (.aggN 7 (agc 7 y3)) (.lcons (.aggN 7 (agc 7 y1)) (.lcons (.aggN 7 (agc 7 y2)) (.const (.lst [])))))),
 .gen (.wcall [(y9,false)] 21 y7 [y10,y11] [true]),
 .chain true y9 (ups [.ev (.bin .neq .int (.tget 0 y12) (ki 0))]
 (.ret y13))]
 (.ite y13 (.ret (.tcons (kb false) (.tcons (.tget 1 y12) .tnil))) (ups [.wcall 29 (.tget 1 y12) [(.tget 0 y6),(ki 1),(ki 2500)] [true,true],
 .wcall 33 y15 [(.tget 0 y6),(ki 1),(ki 3000)] [true,true],
 .wcall 36 y17 [(.tget 0 y6),(ki 0),(ki 2),(ki 2500)] [true,true],
 .wcall 42 y19 [(.tget 0 y6),(ki 1)] [true,true],
 .ev (.bin .neq .int (.tget 1 y14) (ki 0)),
 .chain true y22 (ups [.chk (.tget 1 y16),
 .ev (.bin .neq .int (.tget 1 y16) (ki 0))]
 (.ret y23)),
 .chain true y23 (ups [.chk (.tget 1 y18),
 .ev (.bin .neq .int (.tget 1 y18) (ki 0))]
 (.ret y24)),
 .chain true y24 (ups [.chk (.tget 1 y20),
 .ev (.bin .neq .int (.tget 1 y20) (ki 0))]
 (.ret y25))]
 (.ite y25 (.ret (.tcons (kb false) (.tcons y21 .tnil))) (ups [.ev (.cons (.scal (ki 999)) (.cons (.scal (ki 1001)) (.cons (.scal (kb true)) (.cons (.const (.agg [(.v (.bool false))])) (.cons (.const (.agg [(.v (.bool false))])) (.cons (.const (.agg [(.v (.bool false))])) .nil)))))),
 .ev (.cons (.scal (ki 1130)) (.cons (.scal (ki 1230)) (.cons (.scal (kb true)) (.cons (.const (.agg [(.v (.bool false))])) (.cons (.scal (kb true)) (.cons (.const (.agg [(.v (.bool false))])) .nil)))))),
 .ev (.cons (.scal (ki 1230)) (.cons (.scal (ki 10000000000000)) (.cons (.const (.agg [(.v (.bool false))])) (.cons (.const (.agg [(.v (.bool false))])) (.cons (.const (.agg [(.v (.bool false))])) (.cons (.const (.agg [(.v (.bool false))])) .nil)))))),
 .ev (.lcons (.aggN 6 y26) (.lcons (.aggN 6 y27) (.lcons (.aggN 6 y28) (.const (.lst []))))),
 .call 30 (.const (.st [])) [(.m4 .noids (.tget 0 y14) .nil .nil .nil),(.m4 .noids y29 .nil .nil .nil)] [true],
 .chain false y30 (ups [.chk (.tget 0 y16),
 .ev (.cons (.scal (ki 0)) (.cons (.scal (ki 2)) .nil)),
 .ev (.cons (.scal (ki 1)) (.cons (.scal (ki 2)) .nil)),
 .ev (.lcons (.aggN 2 y31) (.lcons (.aggN 2 y32) (.const (.lst [])))),
 .call 34 (.const (.st [])) [(.m4 .noids (.tget 0 y16) .nil .nil .nil),(.m4 .noids y33 .nil .nil .nil)] [true]]
 (.ret y34)),
 .chain false y31 (ups [.chk (.tget 0 y18),
 .ev (.lcons (.scal (ki 1)) (.lcons (.scal (ki 2)) (.const (.lst [])))),
 .call 37 (.const (.st [])) [(.m4 .noids (.tget 0 y18) .nil .nil .nil),(.m4 .noids y32 .nil .nil .nil)] [true]]
 (.ret y33)),
 .chain false y32 (ups [.chk (.tget 0 y20),
 .ev (.lcons (.scal (ki 1)) (.lcons (.scal (ki 2)) (.const (.lst [])))),
 .call 37 (.const (.st [])) [(.m4 .noids (.tget 0 y20) .nil .nil .nil),(.m4 .noids y33 .nil .nil .nil)] [true]]
 (.ret y34))]
 (.ret (.tcons y33 (.tcons y21 .tnil))))))))
theorem ku17:UOk Try.prog 17 .plain (wcf false [19] [] Try.f17) [] u17:=UOk.plain Try.func17 (by kernel_rfl) (by kernel_rfl)

end Go.Am.Wr

/-
 The chapter's example.
-/
namespace Go.Am.Wr
open Go.Proofs
set_option maxRecDepth 100000
set_option maxHeartbeats 4000000

attribute [local irreducible] inR

variable {bs:List D}

theorem GrowX.grow {bs bs':List D}{j:Nat}{b0:List D}(h:GrowX bs bs' j)(h0:Grow b0 bs)(hj:b0.length≤j):Grow b0 bs':=⟨Nat.le_trans h0.le h.le,fun i hi=>by rw[h.old i (Nat.lt_of_lt_of_le hi h0.le) (by omega),h0.old i hi],fun hn=>h.ny (h0.ny hn)⟩

def FK:Fld:=⟨2,3,[100,100]⟩
def SK:List Src:=[⟨1,1⟩,⟨3,50⟩]
def RA:Rep:=⟨0,0,1,1,0,1000,2000⟩
def RB:Rep:=⟨1,0,1,1,1,1180,1500⟩
def RC:Rep:=⟨1,3,1,1,2,1100,3000⟩
def KW:List Kn:=[⟨999,1001,true,false,false,false⟩,⟨1130,1230,true,false,true,false⟩,⟨1230,10000000000000,false,false,false,false⟩]

theorem k_kn:knR SK FK.least 3 (ofCar (logR [RC,RA,RB]) 2500 1)=KW:=by decide +kernel
theorem k_qu:quL SK FK.least (logR [RC,RA,RB]) (idxC (logR [RC,RA,RB]) 3000 1) (idxC (logR [RC,RA,RB]) 3000 1)=[(0,2),(1,2)]:=by decide +kernel
theorem k_on:onL FK SK 3 (logR [RC,RA,RB]) 2500 0 2 2=[1,2]:=by decide +kernel
theorem k_gaps:gapsR (logR [RC,RA,RB]) 1=[1,2]:=by decide +kernel

set_option allowUnsafeReducibility true in
attribute [local semireducible] inR in
theorem k_f:fielded FK SK=true:=by decide +kernel
set_option allowUnsafeReducibility true in
attribute [local semireducible] inR in
theorem k_r:∀r,r∈[RC,RA,RB]→rightB FK SK r=true:=by decide +kernel
set_option allowUnsafeReducibility true in
attribute [local semireducible] inR in
theorem k_c:chkB FK 1 0 2500=true∧chkB FK 1 0 3000=true∧inR 2500 0 1000000000000=true∧inR 1 0 ((SK.length:Int)-1)=true:=by decide +kernel

theorem knownOK (hn:noyls bs=true):∃bs',FSpecW Try.prog 17 (.st bs) [] (B true) (.st bs')∧Grow bs bs':=by
 obtain⟨b1,j,h18,L1,g1,hj⟩:=newL k_f hn
 have hlen:((([]:List Rep)++[RC,RA,RB]).foldl put []).length≤5000:=by decide +kernel
 obtain⟨b2,h21,L2,g2⟩:=addL L1 (l:=[RC,RA,RB]) (by decide) k_r hlen
 obtain⟨b3,h29,g3⟩:=c29 L2 (car:=1) (t:=2500) k_c.1
 have L3:=L2.keep g3
 obtain⟨b4,h33,g4⟩:=c33 L3 (car:=1) (t:=3000) k_c.2.1
 have L4:=L3.keep g4
 obtain⟨b5,h36,g5⟩:=c36 L4 (from_:=0) (to:=2) (t:=2500) k_c.2.2.1 (by decide)
 have L5:=L4.keep g5
 obtain⟨b6,h42,g6⟩:=c42 L5 (src:=1) k_c.2.2.2
 refine⟨b6,?_,(((g2.grow g1 hj).trans g3).trans g4).trans (g5.trans g6)⟩
 rw[show([]++[RC,RA,RB]:List Rep)=[RC,RA,RB] from rfl] at h29 h33 h36 h42
 rw[show FK.places.toNat=3 from rfl] at h29 h36
 rw[k_kn] at h29
 rw[k_qu] at h33
 rw[show FK.cars.toNat=2 from rfl,k_on] at h36
 rw[k_gaps] at h42
 have q30:=c30 (bs:=[]) KW KW (by decide)
 have q34:=c34 (bs:=[]) [(0,2),(1,2)] [(0,2),(1,2)] (by decide)
 have q37:=c37 (bs:=[]) [1,2] [1,2] (by decide)
 refine ku17.W rfl ?_
 unfold u17
 simp only[ups_cons,ups_nil,List.cons_append,List.nil_append]
 repeat' (first|(apply nrm;simp only[sbe];rfl)|(apply u_genW;rfl;exact rfl;rfl;rfl;exact h21;rfl;simp only[sbe];rfl)|(apply u_iteF;rfl;exact rfl)|(apply u_chk;rfl)|(apply u_ev;rfl;simp only[sbe];rfl)|(apply u_call;rfl;rfl;(·first|exact c25|exact c26);rfl;simp only[sbe];rfl)|(apply u_call;rfl;(·exact evA2 (ev_noids rfl rfl) (ev_noids rfl rfl));(·first|exact q30|exact q34|exact q37);rfl;simp only[sbe];rfl)|(apply u_wcall;rfl;rfl;(·first|exact h18|exact h29|exact h33|exact h36|exact h42);rfl;simp only[sbe];rfl)|(apply u_or;rfl)|(apply u_and;rfl)|exact u_ret rfl rfl|(intro hz;(try simp only[sbs] at hz)))

end Go.Am.Wr

/-
 What the specification tells of fields,sources and reports;a play begins.
-/
namespace Go.Am.Wr
open Go.Proofs
set_option maxRecDepth 100000
set_option maxHeartbeats 4000000

attribute [local irreducible] inR

variable {bs:List D} {f:Fld} {ss:List Src}

theorem evA3 {env:List D}{x y z:E}{d e g:D}(hx:x.eval env=some d)(hy:y.eval env=some e)(hz:z.eval env=some g):evalAll env [x,y,z]=some [d,e,g]:=by simp[evalAll,hx,hy,hz]

theorem c54 (x lo hi:Int):FSpecR Try.prog 54 (.st bs) [I x,I lo,I hi] (B (inR x lo hi)):=by
 have h:=ku54
 refine h.R rfl rfl ?_
 unfold u54 inR
 simp only[ups_cons,ups_nil,List.cons_append,List.nil_append]
 repeat' (first|(apply nrm;simp only[sbe];rfl)|(apply u_ev;rfl;simp only[sbe];rfl)|(apply u_and;rfl)|exact u_ret rfl rfl|(intro hz;(try simp only[sbs] at hz)))

theorem fielded_iff:fielded f ss=true↔(inR f.cars 1 200=true∧inR f.places 2 30=true∧(f.least.length:Int)=f.places-1∧(ss.length:Int)≤50)∧(∀x,x∈f.least→inR x 0 100000000=true)∧∀s,s∈ss→srcBad s=false:=by
 unfold fielded
 simp only[Bool.and_eq_true,decide_eq_true_eq,Bool.not_eq_true',List.any_eq_false]
 constructor
 ·rintro⟨h1,h2,h3,h4,h5,h6⟩
  exact⟨⟨h1,h2,h3,h4⟩,fun x hx=>by have:=h5 x hx;simpa using this,fun s hs=>by have:=h6 s hs;simpa using this⟩
 ·rintro⟨⟨h1,h2,h3,h4⟩,h5,h6⟩
  exact⟨h1,h2,h3,h4,fun x hx=>by simp[h5 x hx],fun s hs=>by simp[h6 s hs]⟩

theorem c19 (h1:f.least.length≤1000000000)(h2:ss.length≤1000000000)(hp:i64 f.places):FSpecR Try.prog 19 (.st bs) [f.d,.lst (ss.map Src.d)] (B (fielded f ss)):=by
 have a1:=c54 (bs:=[]) f.cars 1 200
 have a2:=c54 (bs:=[]) f.places 2 30
 cases hc:(!inR f.cars 1 200||!inR f.places 2 30||((f.least.length:Int) != f.places-1)||decide ((ss.length:Int) > 50))
 ·obtain⟨⟨⟨g1,g2⟩,g3⟩,g4⟩:((inR f.cars 1 200=true∧inR f.places 2 30=true)∧(f.least.length:Int)=f.places-1)∧(ss.length:Int)≤50:=by
   simpa using hc
  have g2':=g2
  unfold inR at g2'
  simp only[Bool.and_eq_true,decide_eq_true_eq] at g2'
  refine ku19.R rfl rfl ?_
  unfold u19
  simp only[ups_cons,ups_nil,List.cons_append,List.nil_append]
  repeat' (first|(apply nrm;simp only[sbe];rfl)|(apply u_iteF;rfl;exact hc)|(apply u_chk;rfl)|(apply u_lenL;rfl;exact lenL_map;simp only[sbe];rfl)|(apply u_sub;rfl;rfl;omega;simp only[sbe];rfl)|(apply u_ev;rfl;simp only[sbe];rfl)|(apply u_call;rfl;(·exact evA3 (ev_noids rfl rfl) (ev_noids rfl rfl) (ev_noids rfl rfl));(·first|exact a1|exact a2);rfl;simp only[sbe];rfl)|(apply u_or;rfl)|refine u_join ?_|exact u_ret rfl rfl|(intro hz;(try simp only[sbs] at hz)))
  refine u_range (fun i=>[In i]) (fun i=>∀k (h:k<i) (h2:k<f.least.length),inR f.least[k] 0 100000000=true) f.least.length rfl (fun _=>rfl) (fun k h=>absurd h (Nat.not_lt_zero _)) (fun i hi hJ R hR=>?_) (fun hJ R=>?_)
  ·have hli:decide ((i:Int)<(f.least.length:Int))=true:=by simp;omega
   have a3:=c54 (bs:=[]) f.least[i] 0 100000000
   have hea:D.eaddr 1 (Is f.least) (In i)=some (.ptr [I f.least[i]]):=eaddr_get hi rfl
   cases he:inR f.least[i] 0 100000000
   ·rw[he] at a3
    have hf:fielded f ss=false:=by
     cases hf:fielded f ss with
     | false=>rfl
     | true=>have:=(fielded_iff.1 hf).2.1 _ (List.getElem_mem hi);rw[he] at this;cases this
    rw[hf]
    repeat' (first|(apply nrm;simp only[sbe];rfl)|(apply u_iteT;rfl;(·first|exact hli|exact rfl))|(apply u_eaddr;rfl;rfl;exact hea;simp only[sbe];rfl)|(apply u_lenL;rfl;exact lenL_map;simp only[sbe];rfl)|(apply u_ev;rfl;simp only[sbe];rfl)|(apply u_call;rfl;(·exact evA3 (ev_noids rfl rfl) (ev_noids rfl rfl) (ev_noids rfl rfl));exact a3;rfl;simp only[sbe];rfl)|refine u_join ?_|(apply u_ret;rfl;first|exact rfl|(refine retB ?_)|(refine retI ?_)|(refine retD ?_)))
   ·rw[he] at a3
    repeat' (first|(apply nrm;simp only[sbe];rfl)|(apply u_iteT;rfl;exact hli)|(apply u_iteF;rfl;exact rfl)|(apply u_eaddr;rfl;rfl;exact hea;simp only[sbe];rfl)|(apply u_lenL;rfl;exact lenL_map;simp only[sbe];rfl)|(apply u_inc;rfl;omega;simp only[sbe];rfl)|(apply u_ev;rfl;simp only[sbe];rfl)|(apply u_call;rfl;(·exact evA3 (ev_noids rfl rfl) (ev_noids rfl rfl) (ev_noids rfl rfl));exact a3;rfl;simp only[sbe];rfl)|refine u_join ?_|(apply u_jump;rfl;rfl)|refine at_jump ?_|refine kj rfl ?_)
    refine hR fun k hk h2=>?_
    rcases Nat.lt_or_ge k i with h3 | h3
    ·exact hJ k h3 h2
    ·have e:k=i:=by omega
     subst e
     exact he
  ·have hli:decide ((f.least.length:Int)<(f.least.length:Int))=false:=by simp
   have hall:∀x,x∈f.least→inR x 0 100000000=true:=fun x hx=>by
    obtain⟨k,hk,rfl⟩:=List.mem_iff_getElem.1 hx
    exact hJ k hk hk
   repeat' (first|(apply nrm;simp only[sbe];rfl)|(apply u_iteF;rfl;exact hli)|(apply u_lenL;rfl;exact lenL_map;simp only[sbe];rfl)|(apply u_ev;rfl;simp only[sbe];rfl)|refine u_join ?_|(apply u_jump;rfl;rfl)|refine at_jump ?_|(refine over_jump (by decide) ?_)|refine kj rfl ?_)
   refine u_range (fun i=>[In i]) (fun i=>∀k (h:k<i) (h2:k<ss.length),srcBad ss[k]=false) ss.length rfl (fun _=>rfl) (fun k h=>absurd h (Nat.not_lt_zero _)) (fun i hi hJ R hR=>?_) (fun hJ R=>?_)
   ·have hli:decide ((i:Int)<(ss.length:Int))=true:=by simp;omega
    have a3:=c54 (bs:=[]) ss[i].error 0 10000000
    have hea:D.eaddr 2 (.lst (ss.map Src.d)) (In i)=some (.ptr ss[i].cs):=eaddr_get hi rfl
    have hsb:(decide (ss[i].kind<1)||decide (ss[i].kind > 3)||!inR ss[i].error 0 10000000)=srcBad ss[i]:=by simp[srcBad,Bool.or_assoc]
    cases he:srcBad ss[i]
    ·rw[he] at hsb
     repeat' (first|(apply nrm;simp only[sbe];rfl)|(apply u_iteT;rfl;exact hli)|(apply u_iteF;rfl;exact hsb)|(apply u_chk;rfl)|(apply u_eaddr;rfl;rfl;exact hea;simp only[sbe];rfl)|(apply u_lenL;rfl;exact lenL_map;simp only[sbe];rfl)|(apply u_inc;rfl;omega;simp only[sbe];rfl)|(apply u_ev;rfl;simp only[sbe];rfl)|(apply u_call;rfl;(·exact evA3 (ev_noids rfl rfl) (ev_noids rfl rfl) (ev_noids rfl rfl));exact a3;rfl;simp only[sbe];rfl)|(apply u_or;rfl)|refine u_join ?_|(apply u_jump;rfl;rfl)|refine at_jump ?_|refine kj rfl ?_|exact u_ret rfl rfl|(intro hz;(try simp only[sbs] at hz)))
     refine hR fun k hk h2=>?_
     rcases Nat.lt_or_ge k i with h3 | h3
     ·exact hJ k h3 h2
     ·have e:k=i:=by omega
      subst e
      exact he
    ·rw[he] at hsb
     have hf:fielded f ss=false:=by
      cases hf:fielded f ss with
      | false=>rfl
      | true=>have:=(fielded_iff.1 hf).2.2 _ (List.getElem_mem hi);rw[he] at this;cases this
     rw[hf]
     repeat' (first|(apply nrm;simp only[sbe];rfl)|(apply u_iteT;rfl;(·first|exact hli|exact hsb))|(apply u_chk;rfl)|(apply u_eaddr;rfl;rfl;exact hea;simp only[sbe];rfl)|(apply u_lenL;rfl;exact lenL_map;simp only[sbe];rfl)|(apply u_ev;rfl;simp only[sbe];rfl)|(apply u_call;rfl;(·exact evA3 (ev_noids rfl rfl) (ev_noids rfl rfl) (ev_noids rfl rfl));exact a3;rfl;simp only[sbe];rfl)|(apply u_or;rfl)|refine u_join ?_|exact u_ret rfl rfl|(apply u_ret;rfl;first|exact rfl|(refine retB ?_)|(refine retI ?_)|(refine retD ?_))|(intro hz;(try simp only[sbs] at hz)))
   ·have hli:decide ((ss.length:Int)<(ss.length:Int))=false:=by simp
    have hf:fielded f ss=true:=fielded_iff.2 ⟨⟨g1,g2,g3,g4⟩,hall,fun s hs=>by
     obtain⟨k,hk,rfl⟩:=List.mem_iff_getElem.1 hs
     exact hJ k hk hk⟩
    rw[hf]
    repeat' (first|(apply nrm;simp only[sbe];rfl)|(apply u_iteF;rfl;exact hli)|(apply u_lenL;rfl;exact lenL_map;simp only[sbe];rfl)|(apply u_ev;rfl;simp only[sbe];rfl)|(apply u_jump;rfl;rfl)|refine at_jump ?_|(refine over_jump (by decide) ?_)|refine kj rfl ?_|exact u_ret rfl rfl)
 ·have hf:fielded f ss=false:=by
   cases hf:fielded f ss with
   | false=>rfl
   | true=>
    obtain⟨⟨g1,g2,g3,g4⟩,_⟩:=fielded_iff.1 hf
    rw[g1,g2,g3] at hc
    simp at hc
    omega
  rw[hf]
  by_cases hq:inR f.places 2 30=true
  ·have g2':=hq
   unfold inR at g2'
   simp only[Bool.and_eq_true,decide_eq_true_eq] at g2'
   refine ku19.R rfl rfl ?_
   unfold u19
   simp only[ups_cons,ups_nil,List.cons_append,List.nil_append]
   repeat' (first|(apply nrm;simp only[sbe];rfl)|(apply u_iteT;rfl;exact hc)|(apply u_chk;rfl)|(apply u_lenL;rfl;exact lenL_map;simp only[sbe];rfl)|(apply u_sub;rfl;rfl;omega;simp only[sbe];rfl)|(apply u_ev;rfl;simp only[sbe];rfl)|(apply u_call;rfl;(·exact evA3 (ev_noids rfl rfl) (ev_noids rfl rfl) (ev_noids rfl rfl));(·first|exact a1|exact a2);rfl;simp only[sbe];rfl)|(apply u_or;rfl)|exact u_ret rfl rfl|(intro hz;(try simp only[sbs] at hz)))
  ·have hq':inR f.places 2 30=false:=by simpa using hq
   have hc2:(!inR f.cars 1 200||!false||true||decide ((ss.length:Int) > 50))=true:=by simp
   have hot:(!inR f.cars 1 200||!false)=true:=by simp
   rw[hq'] at a2
   refine ku19.R rfl rfl ?_
   unfold u19
   simp only[ups_cons,ups_nil,List.cons_append,List.nil_append]
   repeat' (first|(apply nrm;simp only[sbe];rfl)|(apply u_orT;rfl;(·first|exact hot|exact rfl))|(apply u_iteT;rfl;exact rfl)|(apply u_chk;rfl)|(apply u_ev;rfl;simp only[sbe];rfl)|(apply u_call;rfl;(·exact evA3 (ev_noids rfl rfl) (ev_noids rfl rfl) (ev_noids rfl rfl));(·first|exact a1|exact a2);rfl;simp only[sbe];rfl)|(apply u_or;rfl)|exact u_ret rfl rfl|(intro hz;(try simp only[sbs] at hz)))

end Go.Am.Wr

/-
 A play: is it as defined,does it begin.
-/
namespace Go.Am.Wr
open Go.Proofs
set_option maxRecDepth 100000
set_option maxHeartbeats 4000000

attribute [local irreducible] inR

variable {bs:List D} {f:Fld} {ss:List Src}

theorem noid_rep (r:Rep):r.d.noid=true:=by simp[Rep.d,Rep.cs,D.noid,noids]
theorem noid_reps (l:List Rep):(D.lst (l.map Rep.d)).noid=true:=by
 simp only[D.noid]
 exact noid_map noid_rep l
theorem noid_pla (x:Pla):x.d.noid=true:=by
 have h1:=noid_Is x.f.least
 have h2:=noid_srcs x.s
 have h3:=noid_reps x.l
 simp only[Pla.d,Pla.cs,D.noid,noids] at h1 h2 h3 ⊢
 simp only[h1,h2,h3,Bool.and_self]

theorem evN3 {env:List D}{x y z:E}{d e g:D}(hx:x.eval env=some d)(hy:y.eval env=some e)(hz:z.eval env=some g)(h1:d.noid=true)(h2:e.noid=true)(h3:g.noid=true):evalAll env [E.m4 .noids x .nil .nil .nil,E.m4 .noids y .nil .nil .nil,E.m4 .noids z .nil .nil .nil]=some [d,e,g]:=evA3 (ev_noids hx h1) (ev_noids hy h2) (ev_noids hz h3)

theorem c40 (h2:ss.length≤1000000000)(hp:0≤f.places∧f.places≤1000000)(r:Rep):FSpecR Try.prog 40 (.st bs) [f.d,.lst (ss.map Src.d),r.d] (B (rightB f ss r)):=by
 have a1:=c54 (bs:=[]) r.source 0 ((ss.length:Int)-1)
 have a2:=c54 (bs:=[]) r.number 0 1000000000
 have a3:=c54 (bs:=[]) r.time 0 1000000000000
 have a4:=c54 (bs:=[]) r.arrived 0 1000000000000
 have a5:=c54 (bs:=[]) r.car 1 f.cars
 have a6:=c54 (bs:=[]) r.place 0 (f.places-1)
 have a7:=c54 (bs:=[]) r.car 0 (r.number-1)
 cases hc:(!inR r.source 0 ((ss.length:Int)-1)||!inR r.number 0 1000000000||!inR r.time 0 1000000000000||!inR r.arrived 0 1000000000000)
 ·obtain⟨⟨⟨g1,g2⟩,g3⟩,g4⟩:((inR r.source 0 ((ss.length:Int)-1)=true∧inR r.number 0 1000000000=true)∧inR r.time 0 1000000000000=true)∧inR r.arrived 0 1000000000000=true:=by simpa using hc
  have g2':=g2
  unfold inR at g2'
  simp only[Bool.and_eq_true,decide_eq_true_eq] at g2'
  unfold rightB
  rw[g1,g2,g4]
  simp only[Bool.true_and]
  by_cases k1:r.kind=1
  ·have e1:(r.kind==1)=true:=by simp[k1]
   rw[if_neg (by omega),if_pos (.inl k1),g3,Bool.and_true]
   refine ku40.R rfl rfl ?_
   unfold u40
   simp only[ups_cons,ups_nil,List.cons_append,List.nil_append]
   repeat' (first|(apply nrm;simp only[sbe];rfl)|(apply u_iteT;rfl;exact e1)|(apply u_iteF;rfl;exact hc)|(apply u_chk;rfl)|(apply u_lenL;rfl;exact lenL_map;simp only[sbe];rfl)|(apply u_sub;rfl;rfl;omega;simp only[sbe];rfl)|(apply u_ev;rfl;simp only[sbe];rfl)|(apply u_call;rfl;exact evN3 rfl rfl rfl rfl rfl rfl;(·first|exact a1|exact a2|exact a3|exact a4|exact a5|exact a6);rfl;simp only[sbe];rfl)|(apply u_or;rfl)|(apply u_and;rfl)|refine u_join ?_|(apply u_jump;rfl;rfl)|refine at_jump ?_|refine kj rfl ?_|exact u_ret rfl rfl|(apply u_ret;rfl;first|exact rfl|(refine retB ?_)|(refine retI ?_)|(refine retD ?_))|(intro hz;(try simp only[sbs] at hz)))
  ·have e1:(r.kind==1)=false:=by simp[k1]
   by_cases k2:r.kind=2
   ·have e2:(r.kind==2)=true:=by simp[k2]
    rw[if_neg (by omega),if_pos (.inr k2),g3,Bool.and_true]
    refine ku40.R rfl rfl ?_
    unfold u40
    simp only[ups_cons,ups_nil,List.cons_append,List.nil_append]
    repeat' (first|(apply nrm;simp only[sbe];rfl)|(apply u_iteT;rfl;exact e2)|(apply u_iteF;rfl;(·first|exact hc|exact e1))|(apply u_chk;rfl)|(apply u_lenL;rfl;exact lenL_map;simp only[sbe];rfl)|(apply u_sub;rfl;rfl;omega;simp only[sbe];rfl)|(apply u_ev;rfl;simp only[sbe];rfl)|(apply u_call;rfl;exact evN3 rfl rfl rfl rfl rfl rfl;(·first|exact a1|exact a2|exact a3|exact a4|exact a5|exact a6);rfl;simp only[sbe];rfl)|(apply u_or;rfl)|(apply u_and;rfl)|refine u_join ?_|(apply u_jump;rfl;rfl)|refine at_jump ?_|refine kj rfl ?_|exact u_ret rfl rfl|(apply u_ret;rfl;first|exact rfl|(refine retB ?_)|(refine retI ?_)|(refine retD ?_))|(intro hz;(try simp only[sbs] at hz)))
   ·have e2:(r.kind==2)=false:=by simp[k2]
    by_cases k3:r.kind=3
    ·have e3:(r.kind==3)=true:=by simp[k3]
     rw[if_neg (by omega),if_neg (by omega),if_pos k3]
     refine ku40.R rfl rfl ?_
     unfold u40
     simp only[ups_cons,ups_nil,List.cons_append,List.nil_append]
     repeat' (first|(apply nrm;simp only[sbe];rfl)|(apply u_iteT;rfl;exact e3)|(apply u_iteF;rfl;(·first|exact hc|exact e1|exact e2))|(apply u_chk;rfl)|(apply u_lenL;rfl;exact lenL_map;simp only[sbe];rfl)|(apply u_sub;rfl;rfl;omega;simp only[sbe];rfl)|(apply u_ev;rfl;simp only[sbe];rfl)|(apply u_call;rfl;exact evN3 rfl rfl rfl rfl rfl rfl;(·first|exact a1|exact a2|exact a3|exact a4|exact a5|exact a6);rfl;simp only[sbe];rfl)|(apply u_or;rfl)|(apply u_and;rfl)|refine u_join ?_|(apply u_jump;rfl;rfl)|refine at_jump ?_|refine kj rfl ?_|exact u_ret rfl rfl|(apply u_ret;rfl;first|exact rfl|(refine retB ?_)|(refine retI ?_)|(refine retD ?_))|(intro hz;(try simp only[sbs] at hz)))
     simp[Bool.and_assoc]
    ·have e3:(r.kind==3)=false:=by simp[k3]
     by_cases k4:r.kind=4
     ·have e4:(r.kind==4)=true:=by simp[k4]
      rw[if_pos k4]
      refine ku40.R rfl rfl ?_
      unfold u40
      simp only[ups_cons,ups_nil,List.cons_append,List.nil_append]
      repeat' (first|(apply nrm;simp only[sbe];rfl)|(apply u_iteT;rfl;exact e4)|(apply u_iteF;rfl;(·first|exact hc|exact e1|exact e2|exact e3))|(apply u_chk;rfl)|(apply u_lenL;rfl;exact lenL_map;simp only[sbe];rfl)|(apply u_sub;rfl;rfl;omega;simp only[sbe];rfl)|(apply u_ev;rfl;simp only[sbe];rfl)|(apply u_call;rfl;exact evN3 rfl rfl rfl rfl rfl rfl;(·first|exact a1|exact a2|exact a3|exact a4|exact a7);rfl;simp only[sbe];rfl)|(apply u_or;rfl)|(apply u_and;rfl)|refine u_join ?_|(apply u_jump;rfl;rfl)|refine at_jump ?_|refine kj rfl ?_|exact u_ret rfl rfl|(apply u_ret;rfl;first|exact rfl|(refine retB ?_)|(refine retI ?_)|(refine retD ?_))|(intro hz;(try simp only[sbs] at hz)))
     ·have e4:(r.kind==4)=false:=by simp[k4]
      rw[if_neg k4,if_neg (by omega),if_neg k3,Bool.and_false,Bool.and_false]
      refine ku40.R rfl rfl ?_
      unfold u40
      simp only[ups_cons,ups_nil,List.cons_append,List.nil_append]
      repeat' (first|(apply nrm;simp only[sbe];rfl)|(apply u_iteF;rfl;(·first|exact hc|exact e1|exact e2|exact e3|exact e4))|(apply u_chk;rfl)|(apply u_lenL;rfl;exact lenL_map;simp only[sbe];rfl)|(apply u_sub;rfl;rfl;omega;simp only[sbe];rfl)|(apply u_ev;rfl;simp only[sbe];rfl)|(apply u_call;rfl;exact evN3 rfl rfl rfl rfl rfl rfl;(·first|exact a1|exact a2|exact a3|exact a4);rfl;simp only[sbe];rfl)|(apply u_or;rfl)|refine u_join ?_|(apply u_jump;rfl;rfl)|refine at_jump ?_|refine kj rfl ?_|exact u_ret rfl rfl|(intro hz;(try simp only[sbs] at hz)))
 ·have hf:rightB f ss r=false:=by
   cases hf:rightB f ss r with
   | false=>rfl
   | true=>
    obtain⟨b1,b2,b3,b4,_⟩:=right_bd hf
    exfalso
    unfold inR at hc
    simp at hc
    omega
  rw[hf]
  refine ku40.R rfl rfl ?_
  unfold u40
  simp only[ups_cons,ups_nil,List.cons_append,List.nil_append]
  repeat' (first|(apply nrm;simp only[sbe];rfl)|(apply u_iteT;rfl;exact hc)|(apply u_chk;rfl)|(apply u_lenL;rfl;exact lenL_map;simp only[sbe];rfl)|(apply u_sub;rfl;rfl;omega;simp only[sbe];rfl)|(apply u_ev;rfl;simp only[sbe];rfl)|(apply u_call;rfl;exact evN3 rfl rfl rfl rfl rfl rfl;(·first|exact a1|exact a2|exact a3|exact a4);rfl;simp only[sbe];rfl)|(apply u_or;rfl)|exact u_ret rfl rfl|(intro hz;(try simp only[sbs] at hz)))

variable {x:Pla}

theorem evN1 {env:List D}{y:E}{d:D}(hx:y.eval env=some d)(h1:d.noid=true):evalAll env [E.m4 .noids y .nil .nil .nil]=some [d]:=evA1 (ev_noids hx h1)

theorem c20 (h2:x.s.length≤1000000000)(hp:0≤x.f.places∧x.f.places≤1000000)(hl:x.l.length≤1000000000):FSpecR Try.prog 20 (.st bs) [x.d] (B (x.l.all (rightB x.f x.s))):=by
 refine ku20.R rfl rfl ?_
 unfold u20
 simp only[ups_cons,ups_nil,List.cons_append,List.nil_append]
 repeat' (first|(apply u_chk;rfl)|refine u_join ?_)
 refine u_range (fun i=>[In i]) (fun i=>∀k (h:k<i) (h2:k<x.l.length),rightB x.f x.s x.l[k]=true) x.l.length rfl (fun _=>rfl) (fun k h=>absurd h (Nat.not_lt_zero _)) (fun i hi hJ R hR=>?_) (fun hJ R=>?_)
 ·have hli:decide ((i:Int)<(x.l.length:Int))=true:=by simp;omega
  have h40:=c40 (bs:=[]) h2 hp x.l[i]
  have hea:D.eaddr 7 (.lst (x.l.map Rep.d)) (In i)=some (.ptr x.l[i].cs):=eaddr_get hi rfl
  cases he:rightB x.f x.s x.l[i]
  ·rw[he] at h40
   repeat' (first|(apply nrm;simp only[sbe];rfl)|(apply u_iteT;rfl;(·first|exact hli|exact rfl))|(apply u_eaddr;rfl;rfl;exact hea;simp only[sbe];rfl)|(apply u_lenL;rfl;exact lenL_map;simp only[sbe];rfl)|(apply u_ev;rfl;simp only[sbe];rfl)|(apply u_call;rfl;(·exact evN3 rfl rfl rfl (noid_fld x.f) (noid_srcs x.s) (noid_rep _));exact h40;rfl;simp only[sbe];rfl)|refine u_join ?_|(apply u_ret;rfl;first|exact rfl|(refine retB ?_)|(refine retI ?_)|(refine retD ?_)))
   rw[List.all_eq_false.2 ⟨_,List.getElem_mem hi,by simp[he]⟩]
  ·rw[he] at h40
   repeat' (first|(apply nrm;simp only[sbe];rfl)|(apply u_iteT;rfl;exact hli)|(apply u_iteF;rfl;exact rfl)|(apply u_eaddr;rfl;rfl;exact hea;simp only[sbe];rfl)|(apply u_lenL;rfl;exact lenL_map;simp only[sbe];rfl)|(apply u_inc;rfl;omega;simp only[sbe];rfl)|(apply u_ev;rfl;simp only[sbe];rfl)|(apply u_call;rfl;(·exact evN3 rfl rfl rfl (noid_fld x.f) (noid_srcs x.s) (noid_rep _));exact h40;rfl;simp only[sbe];rfl)|refine u_join ?_|(apply u_jump;rfl;rfl)|refine at_jump ?_|refine kj rfl ?_)
   refine hR fun k hk h3=>?_
   rcases Nat.lt_or_ge k i with h4 | h4
   ·exact hJ k h4 h3
   ·have e:k=i:=by omega
    subst e
    exact he
 ·have hli:decide ((x.l.length:Int)<(x.l.length:Int))=false:=by simp
  repeat' (first|(apply nrm;simp only[sbe];rfl)|(apply u_iteF;rfl;exact hli)|(apply u_lenL;rfl;exact lenL_map;simp only[sbe];rfl)|(apply u_ev;rfl;simp only[sbe];rfl)|(apply u_jump;rfl;rfl)|refine at_jump ?_|(refine over_jump (by decide) ?_)|refine kj rfl ?_|(apply u_ret;rfl;first|exact rfl|(refine retB ?_)|(refine retI ?_)|(refine retD ?_)))
  rw[List.all_eq_true.2 fun r hr=>?_]
  obtain⟨k,hk,rfl⟩:=List.mem_iff_getElem.1 hr
  exact hJ k hk hk

def fitB (x:Pla):Bool:=decide ((x.f.least.length:Int)≤40)&&(decide (x.f.cars≤8)||decide (x.f.cars > 200))&&decide ((x.s.length:Int)≤60)&&decide ((x.l.length:Int)≤25)

theorem c16:FSpecR Try.prog 16 (.st bs) [x.d] (B (fitB x)):=by
 refine ku16.R rfl rfl ?_
 unfold fitB
 unfold u16
 simp only[ups_cons,ups_nil,List.cons_append,List.nil_append]
 repeat' (first|(apply nrm;simp only[sbe];rfl)|(apply u_chk;rfl)|(apply u_lenL;rfl;exact lenL_map;simp only[sbe];rfl)|(apply u_ev;rfl;simp only[sbe];rfl)|(apply u_or;rfl)|(apply u_and;rfl)|exact u_ret rfl rfl|(intro hz;(try simp only[sbs] at hz)))

def fineB (x:Pla):Bool:=fitB x&&fielded x.f x.s&&x.l.all (rightB x.f x.s)

structure Fit (x:Pla):Prop where
 least:x.f.least.length≤40
 cars:x.f.cars≤8∨200<x.f.cars
 s:x.s.length≤60
 l:x.l.length≤25

theorem fit_of (h:fitB x=true):Fit x:=by
 unfold fitB at h
 simp only[Bool.and_eq_true,Bool.or_eq_true,decide_eq_true_eq] at h
 exact⟨by omega,by omega,by omega,by omega⟩

theorem c27 (hp:i64 x.f.places):FSpecR Try.prog 27 (.st bs) [x.d] (B (fineB x)):=by
 have h16:=c16 (bs:=[]) (x:=x)
 have hn:=noid_pla x
 unfold fineB
 cases hf:fitB x
 ·rw[hf] at h16
  refine ku27.R rfl rfl ?_
  unfold u27
  simp only[ups_cons,ups_nil,List.cons_append,List.nil_append]
  repeat' (first|(apply nrm;simp only[sbe];rfl)|(apply u_andF;rfl;exact rfl)|(apply u_chk;rfl)|(apply u_call;rfl;exact evN1 rfl hn;exact h16;rfl;simp only[sbe];rfl)|exact u_ret rfl rfl)
 ·have F:=fit_of hf
  have g1:=F.least
  have g2:=F.s
  have g3:=F.l
  rw[hf] at h16
  have h19:=c19 (bs:=[]) (f:=x.f) (ss:=x.s) (by omega) (by omega) hp
  cases hg:fielded x.f x.s
  ·rw[hg] at h19
   refine ku27.R rfl rfl ?_
   unfold u27
   simp only[ups_cons,ups_nil,List.cons_append,List.nil_append]
   repeat' (first|(apply nrm;simp only[sbe];rfl)|(apply u_andF;rfl;exact rfl)|(apply u_chk;rfl)|(apply u_call;rfl;(·first|exact evN1 rfl hn|exact evA2 (ev_noids rfl (noid_fld x.f)) (ev_noids rfl (noid_srcs x.s)));(·first|exact h16|exact h19);rfl;simp only[sbe];rfl)|(apply u_and;rfl)|exact u_ret rfl rfl|(intro hz;(try simp only[sbs] at hz)))
  ·obtain⟨k1,k2,k3,k4⟩:=fok_of hg
   have k5:=k1.hi
   rw[hg] at h19
   have h20:=c20 (bs:=[]) (x:=x) (by omega) (by omega) (by omega)
   refine ku27.R rfl rfl ?_
   unfold u27
   simp only[ups_cons,ups_nil,List.cons_append,List.nil_append]
   repeat' (first|(apply nrm;simp only[sbe];rfl)|(apply u_chk;rfl)|(apply u_call;rfl;(·first|exact evN1 rfl hn|exact evA2 (ev_noids rfl (noid_fld x.f)) (ev_noids rfl (noid_srcs x.s)));(·first|exact h16|exact h19|exact h20);rfl;simp only[sbe];rfl)|(apply u_and;rfl)|exact u_ret rfl rfl|(intro hz;(try simp only[sbs] at hz)))

theorem c28 (hf:fineB x=true)(hn:noyls bs=true):∃bs' j,FSpecW Try.prog 28 (.st bs) [x.d] (.tup [.loc j 0,B true]) (.st bs')∧Lg bs' j x.f x.s x.l x.f.places.toNat∧Grow bs bs'∧bs.length≤j:=by
 unfold fineB at hf
 simp only[Bool.and_eq_true,List.all_eq_true] at hf
 obtain⟨⟨h1,h2⟩,h3⟩:=hf
 have F:=fit_of h1
 obtain⟨b1,j,h18,L1,g1,hj⟩:=newL h2 hn
 have hfl:=fold_len x.l []
 have hl:=F.l
 obtain⟨b2,h21,L2,g2⟩:=addL L1 (l:=x.l) (by omega) h3 (by simp at hfl ⊢;omega)
 refine⟨b2,j,?_,L2,g2.grow g1 hj,hj⟩
 refine ku28.W rfl ?_
 unfold u28
 simp only[ups_cons,ups_nil,List.cons_append,List.nil_append]
 repeat' (first|(apply nrm;simp only[sbe];rfl)|(apply u_iteF;rfl;exact rfl)|(apply u_chk;rfl)|(apply u_ev;rfl;simp only[sbe];rfl)|(apply u_wcall;rfl;rfl;(·first|exact h18|exact h21);rfl;simp only[sbe];rfl)|(apply u_or;rfl)|exact u_ret rfl rfl|(intro hz;(try simp only[sbs] at hz)))

end Go.Am.Wr

/-
 The theorem of quarrels.
-/
namespace Go.Am.Wr
open Go.Proofs
set_option maxRecDepth 100000
set_option maxHeartbeats 4000000

attribute [local irreducible] inR

variable {bs:List D} {f:Fld} {ss:List Src} {n:Nat} {rs W:List Rep}

end Go.Am.Wr

/-
 The specification: comparisons,bounds,clashes,passings,the best one.
-/
namespace Go.Am.Wr
open Go.Proofs
set_option maxRecDepth 100000
set_option maxHeartbeats 4000000

attribute [local irreducible] inR

variable {bs:List D} {n:Nat} {f:Fld} {ss:List Src} {W:List Rep}

theorem lx_at:∀{xs ys:List Int} (i:Nat) (h1:i<xs.length) (h2:i<ys.length),(∀k (h:k<i),xs[k]=ys[k])→xs[i]≠ys[i]→lx xs ys=decide (xs[i]<ys[i])
 | [],_,i,h1,_,_,_=>absurd h1 (Nat.not_lt_zero _)
 | _ :: _,[],i,_,h2,_,_=>absurd h2 (Nat.not_lt_zero _)
 | x :: xs,y :: ys,0,h1,h2,_,hne=>by
  simp only[List.getElem_cons_zero] at hne ⊢
  rw[lx,if_neg hne]
 | x :: xs,y :: ys,i+1,h1,h2,hk,hne=>by
  have h0:=hk 0 (by omega)
  simp only[List.getElem_cons_zero] at h0
  simp only[List.getElem_cons_succ] at hne ⊢
  rw[lx,if_pos h0]
  exact lx_at i (by simpa using h1) (by simpa using h2) (fun k h=>by simpa using hk (k+1) (by omega)) hne

theorem c61 (a b:Rep):FSpecR Try.prog 61 (.st bs) [a.d,b.d] (B (before a b)):=by
 have hl6:D.lenL (.lst [I a.source,I a.number,I a.kind,I a.car,I a.place,I a.time])=some (I 6):=rfl
 refine ku61.R rfl rfl ?_
 unfold u61
 simp only[ups_cons,ups_nil,List.cons_append,List.nil_append]
 repeat' (first|(apply u_chk;rfl)|(apply u_ev;rfl;simp only[sbe];rfl)|refine u_join ?_)
 refine u_range (fun i=>[In i]) (fun i=>∀k (h:k<i) (h2:k<6),(key a)[k]'(by simpa[key] using h2)=(key b)[k]'(by simpa[key] using h2)) 6 rfl (fun _=>rfl) (fun k h=>absurd h (Nat.not_lt_zero _)) (fun i hi hJ R hR=>?_) (fun hJ R=>?_)
 ·have hli:decide ((i:Int)<6)=true:=by simp;omega
  have hia:i<(key a).length:=by simpa[key] using hi
  have hib:i<(key b).length:=by simpa[key] using hi
  have hea:D.eaddr 1 (Is (key a)) (In i)=some (.ptr [I (key a)[i]]):=eaddr_get hia rfl
  have heb:D.eaddr 1 (Is (key b)) (In i)=some (.ptr [I (key b)[i]]):=eaddr_get hib rfl
  have hea':D.eaddr 1 (.lst [I a.source,I a.number,I a.kind,I a.car,I a.place,I a.time]) (In i)=some (.ptr [I (key a)[i]]):=hea
  have heb':D.eaddr 1 (.lst [I b.source,I b.number,I b.kind,I b.car,I b.place,I b.time]) (In i)=some (.ptr [I (key b)[i]]):=heb
  by_cases he:(key a)[i]=(key b)[i]
  ·have hd:((key a)[i] != (key b)[i])=false:=by simp[he]
   repeat' (first|(apply nrm;simp only[sbe];rfl)|(apply u_iteT;rfl;exact hli)|(apply u_iteF;rfl;exact hd)|(apply u_eaddr;rfl;rfl;(·first|exact hea'|exact heb');simp only[sbe];rfl)|(apply u_lenL;rfl;exact hl6;simp only[sbe];rfl)|(apply u_inc;rfl;omega;simp only[sbe];rfl)|(apply u_ev;rfl;simp only[sbe];rfl)|refine u_join ?_|(apply u_jump;rfl;rfl)|refine at_jump ?_|refine kj rfl ?_)
   refine hR fun k hk h2=>?_
   rcases Nat.lt_or_ge k i with h3 | h3
   ·exact hJ k h3 h2
   ·have e:k=i:=by omega
    subst e
    exact he
  ·have hd:((key a)[i] != (key b)[i])=true:=by simp[he]
   have hb:before a b=decide ((key a)[i]<(key b)[i]):=lx_at i hia hib (fun k h=>hJ k h (by omega)) he
   rw[hb]
   repeat' (first|(apply nrm;simp only[sbe];rfl)|(apply u_iteT;rfl;(·first|exact hli|exact hd))|(apply u_eaddr;rfl;rfl;(·first|exact hea'|exact heb');simp only[sbe];rfl)|(apply u_lenL;rfl;exact hl6;simp only[sbe];rfl)|(apply u_ev;rfl;simp only[sbe];rfl)|refine u_join ?_|(apply u_ret;rfl;first|exact rfl|(refine retB ?_)|(refine retI ?_)|(refine retD ?_)))
 ·have hk:key a=key b:=List.ext_getElem rfl fun k h1 h2=>by
   have:k<6:=by simpa[key] using h1
   exact hJ k this this
  rw[not_of_key hk]
  repeat' (first|(apply nrm;simp only[sbe];rfl)|(apply u_iteF;rfl;exact rfl)|(apply u_lenL;rfl;exact hl6;simp only[sbe];rfl)|(apply u_ev;rfl;simp only[sbe];rfl)|(apply u_jump;rfl;rfl)|refine at_jump ?_|(refine over_jump (by decide) ?_)|refine kj rfl ?_|exact u_ret rfl rfl)

theorem eql_rep (a b:Rep):D.bin .eql KR a.d b.d=some (B (decide (a=b))):=by
 obtain⟨a1,a2,a3,a4,a5,a6,a7⟩:=a
 obtain⟨b1,b2,b3,b4,b5,b6,b7⟩:=b
 simp only[Rep.d,Rep.cs,D.bin,D.eqs,cmpI,Rep.mk.injEq]
 by_cases h1:a1=b1 <;> by_cases h2:a2=b2 <;> by_cases h3:a3=b3 <;> by_cases h4:a4=b4 <;> by_cases h5:a5=b5 <;> by_cases h6:a6=b6 <;> by_cases h7:a7=b7 <;> simp_all

theorem c62 (a b:Rep):FSpecR Try.prog 62 (.st bs) [a.d,b.d] (B (decide (key a=key b))):=by
 have h:=eql_rep (setA a b.arrived) b
 have e:(setA a b.arrived=b)↔key a=key b:=⟨fun h=>by rw[←h];rfl,fun h=>rep_ext h rfl⟩
 simp only[e] at h
 refine ku62.R rfl rfl ?_
 unfold u62
 simp only[ups_cons,ups_nil,List.cons_append,List.nil_append]
 repeat' (first|(apply u_chk;rfl)|(apply u_bin;rfl;rfl;exact h;simp only[sbe];rfl)|exact u_ret rfl rfl)

theorem c68 (F:FOk n f.least ss){r:Rep}(hr:ROk n ss r):FSpecR Try.prog 68 (.st bs) [.lst (ss.map Src.d),r.d] (.tup [I (lowB ss r),I (highB ss r)]):=by
 have he:=hr.err F
 have ht:=hr.time
 unfold lowB highB
 rcases hr.kind with hk | hk | hk
 ·have h1:(r.kind==1)=true:=by simp[hk]
  rw[if_pos hk,if_pos hk]
  refine ku68.R rfl rfl ?_
  unfold u68
  simp only[ups_cons,ups_nil,List.cons_append,List.nil_append]
  repeat' (first|(apply u_iteT;rfl;exact h1)|(apply u_chk;rfl)|(apply u_eaddr;rfl;rfl;exact ea_src hr.src;simp only[sbe];rfl)|(apply u_add;rfl;rfl;omega;simp only[sbe];rfl)|(apply u_sub;rfl;rfl;omega;simp only[sbe];rfl)|(apply u_ev;rfl;simp only[sbe];rfl)|refine u_join ?_|(apply u_ret;rfl;first|exact rfl|(refine retB ?_)|(refine retI ?_)|(refine retD ?_)))
 ·have h1:(r.kind==1)=false:=by simp[hk]
  have h2:(r.kind==2)=true:=by simp[hk]
  rw[if_neg (by omega),if_pos hk,if_neg (by omega)]
  refine ku68.R rfl rfl ?_
  unfold u68
  simp only[ups_cons,ups_nil,List.cons_append,List.nil_append]
  repeat' (first|(apply u_iteT;rfl;exact h2)|(apply u_iteF;rfl;exact h1)|(apply u_chk;rfl)|(apply u_eaddr;rfl;rfl;exact ea_src hr.src;simp only[sbe];rfl)|(apply u_add;rfl;rfl;omega;simp only[sbe];rfl)|(apply u_sub;rfl;rfl;omega;simp only[sbe];rfl)|(apply u_ev;rfl;simp only[sbe];rfl)|refine u_join ?_|(apply u_ret;rfl;first|exact rfl|(refine retB ?_)|(refine retI ?_)|(refine retD ?_)))
 ·have h1:(r.kind==1)=false:=by simp[hk]
  have h2:(r.kind==2)=false:=by simp[hk]
  rw[if_neg (by omega),if_neg (by omega),if_neg (by omega)]
  refine ku68.R rfl rfl ?_
  unfold u68
  simp only[ups_cons,ups_nil,List.cons_append,List.nil_append]
  repeat' (first|(apply nrm;simp only[sbe];rfl)|(apply u_iteF;rfl;(·first|exact h1|exact h2))|(apply u_chk;rfl)|(apply u_eaddr;rfl;rfl;exact ea_src hr.src;simp only[sbe];rfl)|(apply u_ev;rfl;simp only[sbe];rfl)|refine u_join ?_|(apply u_jump;rfl;rfl)|refine at_jump ?_|refine kj rfl ?_|exact u_ret rfl rfl)

def pasN (W:List Rep)(L:List Nat)(car place:Int):List Nat:=L.filter fun i=>(rAt W i).kind==1&&((rAt W i).car==car&&(rAt W i).place==place)

theorem app_ix {out:List Nat}{x:Nat}(h:out.length≤1000000):D.app 1 8 (Ix out) (.lst [In x])=some (Ix (out++[x])):=
 app_lst (enc:=In) (ys:=[x]) (by simp;omega) (by simp[maxLen];omega) (fun _=>rfl)

theorem c79 {L:List Nat}(hL:L.length≤1000000)(hlt:∀i,i∈L→i<W.length)(car place:Int):FSpecR Try.prog 79 (.st bs) [.lst (W.map Rep.d),Ix L,I car,I place] (Ix (pasN W L car place)):=by
 refine ku79.R rfl rfl ?_
 unfold u79
 simp only[ups_cons,ups_nil,List.cons_append,List.nil_append]
 repeat' ((with_reducible refine u_join ?_))
 refine u_range (fun i=>[Ix (pasN W (L.take i) car place),In i]) (fun _=>True) L.length rfl (fun _=>rfl) trivial (fun i hi _ R hR=>?_) (fun _ R=>?_)
 ·have hli:decide ((i:Int)<(L.length:Int))=true:=by simp;omega
  have hx:=hlt _ (List.getElem_mem hi)
  have he1:D.eaddr 1 (Ix L) (In i)=some (.ptr [In L[i]]):=eaddr_get hi rfl
  have he2:=ea_rep hx
  have hpl:(pasN W (L.take i) car place).length≤1000000:=by
   have h1:=List.length_filter_le (fun i=>(rAt W i).kind==1&&((rAt W i).car==car&&(rAt W i).place==place)) (L.take i)
   have h2:(L.take i).length≤L.length:=by simp;omega
   unfold pasN
   omega
  have happ:=app_ix (x:=L[i]) hpl
  have hst:pasN W (L.take (i+1)) car place=pasN W (L.take i) car place++if((rAt W L[i]).kind==1&&((rAt W L[i]).car==car&&(rAt W L[i]).place==place))=true then[L[i]] else[]:=by
   unfold pasN
   rw[List.take_succ_eq_append_getElem hi,List.filter_append]
   simp[List.filter_cons]
  have hass:((rAt W L[i]).kind==1&&((rAt W L[i]).car==car&&(rAt W L[i]).place==place))=((rAt W L[i]).kind==1&&(rAt W L[i]).car==car&&(rAt W L[i]).place==place):=by rw[Bool.and_assoc]
  rw[hass] at hst
  cases hc:((rAt W L[i]).kind==1&&(rAt W L[i]).car==car&&(rAt W L[i]).place==place)
  ·rw[hc,if_neg (by decide),List.append_nil] at hst
   rw[hst] at hR
   repeat' (first|(apply nrm;simp only[sbe];rfl)|(apply u_iteT;rfl;exact hli)|(apply u_iteF;rfl;exact hc)|(apply u_chk;rfl)|(apply u_eaddr;rfl;rfl;(·first|exact he1|exact he2);simp only[sbe];rfl)|(apply u_lenL;rfl;exact lenL_map;simp only[sbe];rfl)|(apply u_inc;rfl;omega;simp only[sbe];rfl)|(apply u_ev;rfl;simp only[sbe];rfl)|(apply u_and;rfl)|refine u_join ?_|(apply u_jump;rfl;rfl)|refine at_jump ?_|refine kj rfl ?_|exact u_ret rfl rfl|(intro hz;(try simp only[sbs] at hz)))
   exact hR trivial
  ·rw[hc,if_pos rfl] at hst
   rw[hst] at hR
   repeat' (first|(apply nrm;simp only[sbe];rfl)|(apply u_iteT;rfl;(·first|exact hli|exact hc))|(apply u_chk;rfl)|(apply u_eaddr;rfl;rfl;(·first|exact he1|exact he2);simp only[sbe];rfl)|(apply u_app;rfl;rfl;exact happ;simp only[sbe];rfl)|(apply u_lenL;rfl;exact lenL_map;simp only[sbe];rfl)|(apply u_inc;rfl;omega;simp only[sbe];rfl)|(apply u_ev;rfl;simp only[sbe];rfl)|(apply u_and;rfl)|refine u_join ?_|(apply u_jump;rfl;rfl)|refine at_jump ?_|refine kj rfl ?_|exact u_ret rfl rfl|(intro hz;(try simp only[sbs] at hz)))
   exact hR trivial
 ·have hli:decide ((L.length:Int)<(L.length:Int))=false:=by simp
  rw[List.take_length]
  repeat' (first|(apply nrm;simp only[sbe];rfl)|(apply u_iteF;rfl;exact hli)|(apply u_lenL;rfl;exact lenL_map;simp only[sbe];rfl)|(apply u_ev;rfl;simp only[sbe];rfl)|(apply u_jump;rfl;rfl)|refine at_jump ?_|(refine over_jump (by decide) ?_)|refine kj rfl ?_|exact u_ret rfl rfl)

def bestR (ss:List Src)(W:List Rep)(L:List Nat):Int:=match pick (fun a b=>lessR ss (rAt W a) (rAt W b)) L with
 | some b=>(b:Int)
 | none=>-1

def pkI (o:Option Nat):Int:=match o with
 | some b=>(b:Int)
 | none=>-1

theorem c49 {L:List Nat}(hL:L.length≤1000000)(hlt:∀i,i∈L→i<W.length)(hsrc:∀i,i∈L→0≤(rAt W i).source∧(rAt W i).source<ss.length)(car place:Int):FSpecR Try.prog 49 (.st bs) [.lst (ss.map Src.d),.lst (W.map Rep.d),Ix L,I car,I place] (I (bestR ss W (pasN W L car place))):=by
 have h79:=c79 (bs:=bs) hL hlt car place
 obtain⟨M,hM⟩:∃M,M=pasN W L car place:=⟨_,rfl⟩
 have hMs:∀i,i∈M→i∈L:=fun i hi=>by rw[hM] at hi;exact(List.mem_filter.1 hi).1
 have hMl:M.length≤1000000:=by
  rw[hM]
  exact Nat.le_trans (List.length_filter_le _ _) hL
 rw[←hM] at h79 ⊢
 refine ku49.R rfl rfl ?_
 unfold u49
 simp only[ups_cons,ups_nil,List.cons_append,List.nil_append]
 repeat' (first|(apply u_call;rfl;rfl;exact h79;rfl;simp only[sbe];rfl)|refine u_join ?_)
 refine u_range (fun i=>[I (pkI ((M.take i).foldl (pickGo fun a b=>lessR ss (rAt W a) (rAt W b)) none)),In i]) (fun i=>∀b,(M.take i).foldl (pickGo fun a b=>lessR ss (rAt W a) (rAt W b)) none=some b→b∈M) M.length rfl (fun _=>rfl) (fun b hb=>by simp at hb) (fun i hi hJ R hR=>?_) (fun hJ R=>?_)
 ·have hli:decide ((i:Int)<(M.length:Int))=true:=by simp;omega
  have hmi:=List.getElem_mem hi
  have hx:=hlt _ (hMs _ hmi)
  have he1:D.eaddr 1 (Ix M) (In i)=some (.ptr [In M[i]]):=eaddr_get hi rfl
  have he2:=ea_rep hx
  have he3:=ea_src (hsrc _ (hMs _ hmi))
  have htk:(M.take (i+1)).foldl (pickGo fun a b=>lessR ss (rAt W a) (rAt W b)) none=pickGo (fun a b=>lessR ss (rAt W a) (rAt W b)) ((M.take i).foldl (pickGo fun a b=>lessR ss (rAt W a) (rAt W b)) none) M[i]:=by
   rw[List.take_succ_eq_append_getElem hi,List.foldl_append];rfl
  simp only[htk] at hR
  cases ho:(M.take i).foldl (pickGo fun a b=>lessR ss (rAt W a) (rAt W b)) none with
  | none=>
   rw[ho] at hR
   have hneg:decide (pkI none<0)=true:=rfl
   simp only[pickGo] at hR
   repeat' (first|(apply nrm;simp only[sbe];rfl)|(apply u_iteT;rfl;(·first|exact hli|exact hneg))|(apply u_eaddr;rfl;rfl;exact he1;simp only[sbe];rfl)|(apply u_lenL;rfl;exact lenL_map;simp only[sbe];rfl)|(apply u_inc;rfl;omega;simp only[sbe];rfl)|(apply u_ev;rfl;simp only[sbe];rfl)|refine u_join ?_|(apply u_jump;rfl;rfl)|refine at_jump ?_|refine kj rfl ?_)
   exact hR fun b hb=>by cases hb;exact hmi
  | some c=>
   have hcm:=hJ c ho
   rw[ho] at hR
   have hneg:decide ((c:Int)<0)=false:=by simp
   have he4:=ea_rep (hlt _ (hMs _ hcm))
   have he5:=ea_src (hsrc _ (hMs _ hcm))
   have hls:lessR ss (rAt W M[i]) (rAt W c)=(decide ((srcOf ss (rAt W M[i])).kind<(srcOf ss (rAt W c)).kind)||((srcOf ss (rAt W M[i])).kind==(srcOf ss (rAt W c)).kind&&decide ((srcOf ss (rAt W M[i])).error<(srcOf ss (rAt W c)).error))):=by
    unfold lessR
    congr 2
   cases hl:lessR ss (rAt W M[i]) (rAt W c)
   ·have hl':=hl
    rw[hls] at hl'
    simp only[pickGo,hl,Bool.false_eq_true,if_false] at hR
    simp only[pkI] at hR ⊢
    repeat' (first|(apply nrm;simp only[sbe];rfl)|(apply u_iteT;rfl;exact hli)|(apply u_iteF;rfl;(·first|exact hneg|exact hl'))|(apply u_chk;rfl)|(apply u_eaddr;rfl;rfl;(·first|exact he1|exact he2|exact he3|exact he4|exact he5);simp only[sbe];rfl)|(apply u_lenL;rfl;exact lenL_map;simp only[sbe];rfl)|(apply u_inc;rfl;omega;simp only[sbe];rfl)|(apply u_ev;rfl;simp only[sbe];rfl)|(apply u_or;rfl)|(apply u_and;rfl)|refine u_join ?_|(apply u_jump;rfl;rfl)|refine at_jump ?_|refine kj rfl ?_|exact u_ret rfl rfl|(intro hz;(try simp only[sbs] at hz)))
    exact hR fun b hb=>by cases hb;exact hcm
   ·have hl':=hl
    rw[hls] at hl'
    simp only[pickGo,hl,if_true] at hR
    simp only[pkI] at hR ⊢
    repeat' (first|(apply nrm;simp only[sbe];rfl)|(apply u_iteT;rfl;(·first|exact hli|exact hl'))|(apply u_iteF;rfl;exact hneg)|(apply u_chk;rfl)|(apply u_eaddr;rfl;rfl;(·first|exact he1|exact he2|exact he3|exact he4|exact he5);simp only[sbe];rfl)|(apply u_lenL;rfl;exact lenL_map;simp only[sbe];rfl)|(apply u_inc;rfl;omega;simp only[sbe];rfl)|(apply u_ev;rfl;simp only[sbe];rfl)|(apply u_or;rfl)|(apply u_and;rfl)|refine u_join ?_|(apply u_jump;rfl;rfl)|refine at_jump ?_|refine kj rfl ?_|exact u_ret rfl rfl|(intro hz;(try simp only[sbs] at hz)))
    exact hR fun b hb=>by cases hb;exact hmi
 ·have hli:decide ((M.length:Int)<(M.length:Int))=false:=by simp
  rw[List.take_length]
  repeat' (first|(apply nrm;simp only[sbe];rfl)|(apply u_iteF;rfl;exact hli)|(apply u_lenL;rfl;exact lenL_map;simp only[sbe];rfl)|(apply u_ev;rfl;simp only[sbe];rfl)|(apply u_jump;rfl;rfl)|refine at_jump ?_|(refine over_jump (by decide) ?_)|refine kj rfl ?_|exact u_ret rfl rfl)

end Go.Am.Wr

/-
 The specification: gaps,which reports count.
-/
namespace Go.Am.Wr
open Go.Proofs
set_option maxRecDepth 100000
set_option maxHeartbeats 4000000

attribute [local irreducible] inR

variable {bs:List D} {n:Nat} {f:Fld} {ss:List Src} {W:List Rep}

theorem c43 (hLl:W.length≤100000)(hnum:∀r,r∈W→0≤r.number∧r.number≤1000000000)(hord:Ord W)(src:Int):FSpecR Try.prog 43 (.st bs) [.lst (W.map Rep.d),I src] (Is (gapsR W src)):=by
 refine ku43.R rfl rfl ?_
 unfold u43
 simp only[ups_cons,ups_nil,List.cons_append,List.nil_append]
 repeat' ((with_reducible refine u_join ?_))
 refine u_list W (fun(s:List Int×Int) i=>[Is s.1,I s.2,In i]) (GapI W src) ([],0) rfl (fun _ _=>rfl) ⟨rfl,by simp,by simp,hord,fun r hr _=>by have:=hnum r hr;simp only;omega,hnum⟩ (fun i x s hx hlt hG R hR=>?_) (fun s hG R=>?_)
 ·have hli:decide ((i:Int)<(W.length:Int))=true:=by simp;omega
  have hea:D.eaddr 7 (.lst (W.map Rep.d)) (In i)=some (.ptr x.cs):=eaddr_lst hx rfl
  by_cases hs:x.source=src
  ·have hne:(x.source != src)=false:=by simp[hs]
   obtain⟨out,nx⟩:=s
   have hGn:=hG.nx
   have hGl:=hG.len
   have hGx:=hG.num x (by simp)
   have hGle:=hG.le x (by simp) hs
   simp only at hGn hGl hGle
   repeat' (first|(apply nrm;simp only[sbe];rfl)|(apply u_iteT;rfl;exact hli)|(apply u_iteF;rfl;exact hne)|(apply u_chk;rfl)|(apply u_eaddr;rfl;rfl;exact hea;simp only[sbe];rfl)|(apply u_lenL;rfl;exact lenL_map;simp only[sbe];rfl)|(apply u_ev;rfl;simp only[sbe];rfl)|refine u_join ?_)
   refine u_range (fun k=>[Is (more out nx k),I (nx+(k:Int))]) (fun _=>True) (moreN out nx x.number) (by simp[evalAll,E.eval,more]) (fun _=>rfl) trivial (fun k hk _ R' hR'=>?_) (fun _ R'=>?_)
   ·have hml:=more_len out nx k
    have hk':=hk
    unfold moreN at hk'
    have hc:(decide (nx+(k:Int)<x.number)&&decide (((more out nx k).length:Int)<1000))=true:=by
     rw[hml]
     simp
     omega
    have happ:=app_int (out:=more out nx k) (x:=nx+(k:Int)) (by omega)
    rw[more_succ] at happ
    repeat' (first|(apply nrm;simp only[sbe];rfl)|(apply u_iteT;rfl;exact hc)|(apply u_chk;rfl)|(apply u_eaddr;rfl;rfl;exact hea;simp only[sbe];rfl)|(apply u_app;rfl;rfl;exact happ;simp only[sbe];rfl)|(apply u_lenL;rfl;exact lenL_map;simp only[sbe];rfl)|(apply u_add;rfl;rfl;omega;simp only[sbe];rfl)|(apply u_ev;rfl;simp only[sbe];rfl)|(apply u_and;rfl)|refine u_join ?_|(apply u_jump;rfl;rfl)|refine at_jump ?_|refine kj rfl ?_|exact u_ret rfl rfl|(intro hz;(try simp only[sbs] at hz)))
    have e:nx+(k:Int)+1=nx+((k+1:Nat):Int):=by omega
    rw[e]
    exact hR' trivial
   ·have hml:=more_len out nx (moreN out nx x.number)
    have hk':moreN out nx x.number=min (1000-out.length) (x.number-nx).toNat:=rfl
    have hc:(decide (nx+(moreN out nx x.number:Int)<x.number)&&decide (((more out nx (moreN out nx x.number)).length:Int)<1000))=false:=by
     rw[hml,Bool.and_eq_false_iff]
     simp
     omega
    repeat' (first|(apply nrm;simp only[sbe];rfl)|(apply u_iteF;rfl;exact hc)|(apply u_chk;rfl)|(apply u_eaddr;rfl;rfl;exact hea;simp only[sbe];rfl)|(apply u_lenL;rfl;exact lenL_map;simp only[sbe];rfl)|(apply u_inc;rfl;omega;simp only[sbe];rfl)|(apply u_add;rfl;rfl;omega;simp only[sbe];rfl)|(apply u_ev;rfl;simp only[sbe];rfl)|(apply u_and;rfl)|(apply u_jump;rfl;rfl)|refine at_jump ?_|(refine over_jump (by decide) ?_)|refine kj rfl ?_|exact u_ret rfl rfl|(intro hz;(try simp only[sbs] at hz)))
    rw[more_fill]
    exact hR _ (hG.take hs)
  ·have hne:(x.source != src)=true:=by simp[hs]
   repeat' (first|(apply nrm;simp only[sbe];rfl)|(apply u_iteT;rfl;(·first|exact hli|exact hne))|(apply u_chk;rfl)|(apply u_eaddr;rfl;rfl;exact hea;simp only[sbe];rfl)|(apply u_lenL;rfl;exact lenL_map;simp only[sbe];rfl)|(apply u_inc;rfl;omega;simp only[sbe];rfl)|(apply u_ev;rfl;simp only[sbe];rfl)|refine u_join ?_|(apply u_jump;rfl;rfl)|refine at_jump ?_|refine kj rfl ?_)
   exact hR _ (hG.skip hs)
 ·have hli:decide ((W.length:Int)<(W.length:Int))=false:=by simp
  have hgo:=hG.go
  simp only[gapsGo] at hgo
  repeat' (first|(apply nrm;simp only[sbe];rfl)|(apply u_iteF;rfl;exact hli)|(apply u_lenL;rfl;exact lenL_map;simp only[sbe];rfl)|(apply u_ev;rfl;simp only[sbe];rfl)|(apply u_jump;rfl;rfl)|refine at_jump ?_|(refine over_jump (by decide) ?_)|refine kj rfl ?_|(apply u_ret;rfl;first|exact rfl|(refine retB ?_)|(refine retI ?_)|(refine retD ?_)))
  rw[hgo]

/-! ## lists of yes and no -/

def bl (n:Nat)(g:Nat→Bool):D:=.lst ((List.range n).map fun q=>B (g q))

theorem bl_idx {g:Nat→Bool}{i:Nat}(h:i<n):D.idx (bl n g) (In i)=some (B (g i)):=by
 simp[bl,D.idx,h]

theorem bl_set {g g':Nat→Bool}{i:Nat}{b:Bool}(h:i<n)(hg:∀q,q<n→upd g i b q=g' q):D.set (bl n g) (In i) 0 (B b)=some (bl n g'):=by
 have e:(List.range n).map (fun q=>B (g' q))=(List.range n).map (fun q=>B (upd g i b q)):=List.map_congr_left fun q hq=>by rw[hg q (by simpa using hq)]
 have e2:((List.range n).map fun q=>B (g q)).set i (B b)=(List.range n).map (fun q=>B (upd g i b q)):=by
  rw[range_set]
  refine List.map_congr_left fun q _=>?_
  unfold upd
  split <;> rfl
 simp only[bl,D.set,Int.natCast_nonneg,if_true,Int.toNat_natCast]
 rw[e,←e2]
 simp[h,D.putAt,D.one]

theorem bl_rep (h:n≤100000):D.rep 1 (In n) (B false)=some (bl n fun _=>false):=by
 simp only[D.rep,Int.toNat_natCast]
 rw[if_pos ⟨by omega,by omega,by simp[maxLen];omega⟩]
 unfold bl
 rw[List.map_const',List.length_range]

theorem bl_congr {g g':Nat→Bool}(h:∀q,q<n→g q=g' q):bl n g=bl n g':=by
 have e:(List.range n).map (fun q=>B (g q))=(List.range n).map (fun q=>B (g' q)):=List.map_congr_left fun q hq=>by rw[h q (by simpa using hq)]
 unfold bl
 rw[e]

theorem e_ci {env:List D}{x y:E}{dx dy:D}{b:Bool}(hx:x.eval env=some dx)(hy:y.eval env=some dy)(h:D.idx dx dy=some (B b)):(E.cell 0 (.idx x y)).eval env=some (B b):=by
 simp only[E.eval,hx,hy,Option.bind_some,h]
 rfl

/-! ## Counts -/

def thG (W:List Rep)(t:Int)(q:Nat):Bool:=decide ((rAt W q).arrived≤t)
def thF (W:List Rep)(t:Int)(i q:Nat):Bool:=decide (q<i)&&thG W t q
def suG (W:List Rep)(t:Int)(q:Nat):Bool:=sureB W t (rAt W q)
def suF (W:List Rep)(t:Int)(i q:Nat):Bool:=decide (q<i)&&suG W t q
def oth (W:List Rep)(t:Int)(i k:Nat):Bool:=(((k:Int) != (i:Int))&&thG W t k&&((rAt W k).source==(rAt W i).source))&&((rAt W k).number==(rAt W i).number)
def inS (W:List Rep)(t:Int)(i k:Nat):Bool:=thG W t i&&(List.range k).all fun q=>!oth W t i q
def cnG (W:List Rep)(t:Int)(q:Nat):Bool:=pB W t (rAt W q)
def cnF (W:List Rep)(t:Int)(n d q:Nat):Bool:=decide (n≤q+d)&&cnG W t q
def voi (W:List Rep)(t:Int)(i k:Nat):Bool:=((cnG W t k&&((rAt W k).source==(rAt W i).source))&&((rAt W k).kind==4))&&((rAt W k).car==(rAt W i).number)
def inC (W:List Rep)(t:Int)(i j:Nat):Bool:=suG W t i&&(List.range j).all fun x=>!voi W t i (i+1+x)

theorem inS_zero (t:Int)(i:Nat):inS W t i 0=thG W t i:=by simp[inS]
theorem inS_succ (t:Int)(i k:Nat):inS W t i (k+1)=(inS W t i k&&!oth W t i k):=by simp[inS,List.range_succ,Bool.and_assoc]
theorem inC_zero (t:Int)(i:Nat):inC W t i 0=suG W t i:=by simp[inC]
theorem inC_succ (t:Int)(i k:Nat):inC W t i (k+1)=(inC W t i k&&!voi W t i (i+1+k)):=by simp[inC,List.range_succ,Bool.and_assoc]

theorem inS_end (t:Int){i:Nat}(hi:i<W.length):inS W t i W.length=suG W t i:=by
 unfold inS suG sureB
 have e0:there t (rAt W i)=thG W t i:=rfl
 rw[e0]
 cases hth:thG W t i
 ·rfl
 ·simp only[Bool.true_and]
  have hP:(fun r=>there t r&&(r.source==(rAt W i).source&&r.number==(rAt W i).number)) W[i]=true:=by
   have h2:there t W[i]=true:=by rw[←rAt_get hi];exact hth
   simp[h2,rAt_get hi]
  have hf:=filter_one (fun r=>there t r&&(r.source==(rAt W i).source&&r.number==(rAt W i).number)) hi hP
  rw[Bool.eq_iff_iff]
  unfold named
  rw[hf,List.all_eq_true]
  constructor
  ·intro h k hk hki
   have:=h k (by simpa using hk)
   unfold oth at this
   have h3:there t W[k]=thG W t k:=by rw[←rAt_get hk];rfl
   have h4:((k:Int) != (i:Int))=true:=by simp;omega
   rw[h4,rAt_get hk] at this
   simp only[h3]
   revert this
   cases thG W t k <;> cases(W[k].source==(rAt W i).source) <;> cases(W[k].number==(rAt W i).number) <;> simp
  ·intro h k hk
   have hk':k<W.length:=by simpa using hk
   unfold oth
   by_cases hki:k=i
   ·subst hki;simp
   ·have:=h k hk' hki
    have h3:there t W[k]=thG W t k:=by rw[←rAt_get hk'];rfl
    simp only[h3] at this
    rw[rAt_get hk']
    revert this
    cases thG W t k <;> cases(W[k].source==(rAt W i).source) <;> cases(W[k].number==(rAt W i).number) <;> simp

theorem inC_end (ho:Ord W)(hl:Low W)(t:Int){i:Nat}(hi:i<W.length):inC W t i (W.length-(i+1))=cnG W t i:=by
 unfold inC cnG suG
 rw[pB_iff ho hl]
 congr 1
 rw[Bool.eq_iff_iff,List.all_eq_true]
 simp only[Bool.not_eq_true',List.any_eq_false]
 have hvoi:∀k (hk:k<W.length),voi W t i k=(pB W t W[k]&&(W[k].source==(rAt W i).source&&(W[k].kind==4&&W[k].car==(rAt W i).number))):=fun k hk=>by
  unfold voi cnG
  rw[rAt_get hk]
  simp only[Bool.and_assoc]
 constructor
 ·intro h v hv
  obtain⟨k,hk,rfl⟩:=List.mem_iff_getElem.1 hv
  rw[←hvoi k hk]
  rcases Nat.lt_or_ge i k with h1 | h1
  ·have:=h (k-(i+1)) (by simp;omega)
   rw[show i+1+(k-(i+1))=k by omega] at this
   simp[this]
  ·rw[hvoi k hk]
   simp only[Bool.and_eq_true,beq_iff_eq,not_and]
   intro _ hs h4 hc
   have hlow:=hl _ (List.getElem_mem hk) h4
   have hle:W[k].number≤(rAt W i).number:=by
    rcases Nat.lt_or_ge k i with h2 | h2
    ·rw[rAt_get hi] at hs ⊢
     exact before_num (List.pairwise_iff_getElem.1 ho k i hk hi h2) hs
    ·have e:k=i:=by omega
     subst e
     rw[rAt_get hi]
     exact Int.le_refl _
   omega
 ·intro h x hx
  have hx':x<W.length-(i+1):=by simpa using hx
  have hk:i+1+x<W.length:=by omega
  have:=h _ (List.getElem_mem hk)
  rw[←hvoi _ hk] at this
  simpa using this

theorem idx_step (W:List Rep)(t:Int)(i:Nat):(List.range (i+1)).filter (cnG W t)=(List.range i).filter (cnG W t)++if cnG W t i=true then[i] else[]:=by
 rw[List.range_succ,List.filter_append,List.filter_cons,List.filter_nil]

theorem c32 (hL:W.length≤100000)(ho:Ord W)(hl:Low W)(t:Int):FSpecR Try.prog 32 (.st bs) [.lst (W.map Rep.d),I t] (Ix (idxP W t)):=by
 obtain⟨n,hn⟩:∃n,n=W.length:=⟨_,rfl⟩
 have hr:=bl_rep (n:=n) (by omega)
 have hlen:D.lenL (.lst (W.map Rep.d))=some (In n):=by rw[hn];exact lenL_map
 refine ku32.R rfl rfl ?_
 unfold u32
 simp only[ups_cons,ups_nil,List.cons_append,List.nil_append]
 repeat' (first|(apply u_lenL;rfl;exact hlen;simp only[sbe];rfl)|(apply u_rep;rfl;exact hr;simp only[sbe];rfl)|refine u_join ?_)
 refine u_range (fun i=>[In i,bl n (thF W t i)]) (fun _=>True) n (by simp[evalAll,E.eval,bl_congr (n:=n) (g:=thF W t 0) (g':=fun _=>false) (fun q _=>by simp[thF])]) (fun _=>rfl) trivial (fun i hi _ R hR=>?_) (fun _ R=>?_)
 ·have hli:decide ((i:Int)<(n:Int))=true:=by simp;omega
  have hea:=ea_rep (W:=W) (a:=i) (by omega)
  have hset:D.set (bl n (thF W t i)) (In i) 0 (B (decide ((rAt W i).arrived≤t)))=some (bl n (thF W t (i+1))):=bl_set hi fun q hq=>by
   unfold upd thF
   by_cases h:q=i
   ·subst h;simp[thG]
   ·rw[if_neg h]
    congr 1
    rw[Bool.eq_iff_iff];simp;omega
  repeat' (first|(apply nrm;simp only[sbe];rfl)|(apply u_iteT;rfl;exact hli)|(apply u_chk;rfl)|(apply u_eaddr;rfl;rfl;exact hea;simp only[sbe];rfl)|(apply u_lenL;rfl;exact hlen;simp only[sbe];rfl)|(apply u_idx;rfl;rfl;exact bl_idx hi;simp only[sbe];rfl)|(apply u_set;rfl;rfl;rfl;exact hset;simp only[sbe];rfl)|(apply u_inc;rfl;omega;simp only[sbe];rfl)|(apply u_ev;rfl;simp only[sbe];rfl)|refine u_join ?_|(apply u_jump;rfl;rfl)|refine at_jump ?_|refine kj rfl ?_)
  exact hR trivial
 ·have hli:decide ((n:Int)<(n:Int))=false:=by simp
  rw[bl_congr (n:=n) (g:=thF W t n) (g':=thG W t) (fun q hq=>by simp[thF,hq])]
  repeat' (first|(apply nrm;simp only[sbe];rfl)|(apply u_iteF;rfl;exact hli)|(apply u_lenL;rfl;exact hlen;simp only[sbe];rfl)|(apply u_ev;rfl;simp only[sbe];rfl)|refine u_join ?_|(apply u_jump;rfl;rfl)|refine at_jump ?_|(refine over_jump (by decide) ?_)|refine kj rfl ?_)
  refine u_range (fun i=>[In i,bl n (suF W t i)]) (fun _=>True) n (by simp[evalAll,E.eval,bl_congr (n:=n) (g:=suF W t 0) (g':=fun _=>false) (fun q _=>by simp[suF])]) (fun _=>rfl) trivial (fun i hi _ R hR=>?_) (fun _ R=>?_)
  ·have hli:decide ((i:Int)<(n:Int))=true:=by simp;omega
   have hea:=ea_rep (W:=W) (a:=i) (by omega)
   have hset:D.set (bl n (suF W t i)) (In i) 0 (B (thG W t i))=some (bl n (upd (suF W t i) i (inS W t i 0))):=bl_set hi fun q hq=>by rw[inS_zero]
   repeat' (first|(apply nrm;simp only[sbe];rfl)|(apply u_iteT;rfl;exact hli)|(apply u_lenL;rfl;exact hlen;simp only[sbe];rfl)|(apply u_idx;rfl;rfl;exact bl_idx hi;simp only[sbe];rfl)|(apply u_set;rfl;rfl;rfl;exact hset;simp only[sbe];rfl)|(apply u_ev;(·exact e_ci rfl rfl (bl_idx hi));simp only[sbe];rfl)|(apply u_ev;rfl;simp only[sbe];rfl)|refine u_join ?_)
   refine u_range (fun k=>[In k,bl n (upd (suF W t i) i (inS W t i k))]) (fun _=>True) n rfl (fun _=>rfl) trivial (fun k hk _ R' hR'=>?_) (fun _ R'=>?_)
   ·have hlk:decide ((k:Int)<(n:Int))=true:=by simp;omega
    have hek:=ea_rep (W:=W) (a:=k) (by omega)
    have hst:=inS_succ (W:=W) t i k
    cases hc:oth W t i k
    ·have hc':=hc
     unfold oth at hc'
     rw[hc] at hst
     simp only[Bool.not_false,Bool.and_true] at hst
     rw[hst] at hR'
     repeat' (first|(apply nrm;simp only[sbe];rfl)|(apply u_iteT;rfl;exact hlk)|(apply u_iteF;rfl;exact hc')|(apply u_chk;rfl)|(apply u_eaddr;rfl;rfl;(·first|exact hea|exact hek);simp only[sbe];rfl)|(apply u_lenL;rfl;exact hlen;simp only[sbe];rfl)|(apply u_idx;rfl;rfl;exact bl_idx hk;simp only[sbe];rfl)|(apply u_inc;rfl;omega;simp only[sbe];rfl)|(apply u_ev;(·exact e_ci rfl rfl (bl_idx hk));simp only[sbe];rfl)|(apply u_ev;rfl;simp only[sbe];rfl)|(apply u_and;rfl)|refine u_join ?_|(apply u_jump;rfl;rfl)|refine at_jump ?_|refine kj rfl ?_|exact u_ret rfl rfl|(intro hz;(try simp only[sbs] at hz)))
     exact hR' trivial
    ·have hc':=hc
     unfold oth at hc'
     rw[hc] at hst
     simp only[Bool.not_true,Bool.and_false] at hst
     rw[hst] at hR'
     have hs2:D.set (bl n (upd (suF W t i) i (inS W t i k))) (In i) 0 (B false)=some (bl n (upd (suF W t i) i false)):=bl_set hi fun q hq=>by rw[upd_upd]
     repeat' (first|(apply nrm;simp only[sbe];rfl)|(apply u_iteT;rfl;(·first|exact hlk|exact hc'))|(apply u_chk;rfl)|(apply u_eaddr;rfl;rfl;(·first|exact hea|exact hek);simp only[sbe];rfl)|(apply u_lenL;rfl;exact hlen;simp only[sbe];rfl)|(apply u_idx;rfl;rfl;(·first|exact bl_idx hk|exact bl_idx hi);simp only[sbe];rfl)|(apply u_set;rfl;rfl;rfl;exact hs2;simp only[sbe];rfl)|(apply u_inc;rfl;omega;simp only[sbe];rfl)|(apply u_ev;(·exact e_ci rfl rfl (bl_idx hk));simp only[sbe];rfl)|(apply u_ev;rfl;simp only[sbe];rfl)|(apply u_and;rfl)|refine u_join ?_|(apply u_jump;rfl;rfl)|refine at_jump ?_|refine kj rfl ?_|exact u_ret rfl rfl|(intro hz;(try simp only[sbs] at hz)))
     exact hR' trivial
   ·have hlk:decide ((n:Int)<(n:Int))=false:=by simp
    have hend:=inS_end (W:=W) t (i:=i) (by omega)
    rw[←hn] at hend
    rw[hend,bl_congr (n:=n) (g:=upd (suF W t i) i (suG W t i)) (g':=suF W t (i+1)) (fun q hq=>by
     unfold upd suF
     by_cases h:q=i
     ·subst h;simp
     ·rw[if_neg h]
      congr 1
      rw[Bool.eq_iff_iff];simp;omega)]
    repeat' (first|(apply nrm;simp only[sbe];rfl)|(apply u_iteF;rfl;exact hlk)|(apply u_lenL;rfl;exact hlen;simp only[sbe];rfl)|(apply u_inc;rfl;omega;simp only[sbe];rfl)|(apply u_ev;rfl;simp only[sbe];rfl)|(apply u_jump;rfl;rfl)|refine at_jump ?_|(refine over_jump (by decide) ?_)|refine kj rfl ?_)
    exact hR trivial
  ·have hli:decide ((n:Int)<(n:Int))=false:=by simp
   rw[bl_congr (n:=n) (g:=suF W t n) (g':=suG W t) (fun q hq=>by simp[suF,hq])]
   repeat' (first|(apply nrm;simp only[sbe];rfl)|(apply u_iteF;rfl;exact hli)|(apply u_lenL;rfl;exact hlen;simp only[sbe];rfl)|(apply u_rep;rfl;exact hr;simp only[sbe];rfl)|(apply u_sub;rfl;rfl;omega;simp only[sbe];rfl)|(apply u_ev;rfl;simp only[sbe];rfl)|refine u_join ?_|(apply u_jump;rfl;rfl)|refine at_jump ?_|(refine over_jump (by decide) ?_)|refine kj rfl ?_)
   refine u_range (fun d=>[I ((n:Int)-1-(d:Int)),bl n (cnF W t n d)]) (fun _=>True) n (by simp[evalAll,E.eval,bl_congr (n:=n) (g:=cnF W t n 0) (g':=fun _=>false) (fun q hq=>by simp[cnF];omega)]) (fun _=>rfl) trivial (fun d hd _ R hR=>?_) (fun _ R=>?_)
   ·obtain⟨i,hi⟩:∃i,i=n-1-d:=⟨_,rfl⟩
    have e1:(n:Int)-1-(d:Int)=(i:Int):=by omega
    have e2:(n:Int)-1-((d+1:Nat):Int)=(i:Int)-1:=by omega
    simp only[e2] at hR
    simp only[e1]
    have hin:i<n:=by omega
    have hli:decide ((i:Int)≥0)=true:=by simp
    have hea:=ea_rep (W:=W) (a:=i) (by omega)
    have hset:D.set (bl n (cnF W t n d)) (In i) 0 (B (suG W t i))=some (bl n (upd (cnF W t n d) i (inC W t i 0))):=bl_set hin fun q hq=>by rw[inC_zero]
    repeat' (first|(apply nrm;simp only[sbe];rfl)|(apply u_iteT;rfl;exact hli)|(apply u_idx;rfl;rfl;exact bl_idx hin;simp only[sbe];rfl)|(apply u_set;rfl;rfl;rfl;exact hset;simp only[sbe];rfl)|(apply u_inc;rfl;omega;simp only[sbe];rfl)|(apply u_ev;(·exact e_ci rfl rfl (bl_idx hin));simp only[sbe];rfl)|(apply u_ev;rfl;simp only[sbe];rfl)|refine u_join ?_)
    refine u_range (fun k=>[In (i+1+k),bl n (upd (cnF W t n d) i (inC W t i k))]) (fun _=>True) (n-(i+1)) rfl (fun _=>rfl) trivial (fun k hk _ R' hR'=>?_) (fun _ R'=>?_)
    ·have hlk:decide (((i+1+k:Nat):Int)<(n:Int))=true:=by simp;omega
     have hkn:i+1+k<n:=by omega
     have hek:=ea_rep (W:=W) (a:=i+1+k) (by omega)
     have hst:=inC_succ (W:=W) t i k
     have hix:D.idx (bl n (upd (cnF W t n d) i (inC W t i k))) (In (i+1+k))=some (B (cnG W t (i+1+k))):=by
      rw[bl_idx hkn]
      unfold upd cnF
      rw[if_neg (by omega),decide_eq_true (by omega),Bool.true_and]
     cases hc:voi W t i (i+1+k)
     ·have hc':=hc
      unfold voi at hc'
      rw[hc] at hst
      simp only[Bool.not_false,Bool.and_true] at hst
      rw[hst] at hR'
      repeat' (first|(apply nrm;simp only[sbe];rfl)|(apply u_iteT;rfl;exact hlk)|(apply u_iteF;rfl;exact hc')|(apply u_chk;rfl)|(apply u_eaddr;rfl;rfl;(·first|exact hea|exact hek);simp only[sbe];rfl)|(apply u_lenL;rfl;exact hlen;simp only[sbe];rfl)|(apply u_idx;rfl;rfl;exact hix;simp only[sbe];rfl)|(apply u_inc;rfl;omega;simp only[sbe];rfl)|(apply u_ev;exact e_ci rfl rfl hix;simp only[sbe];rfl)|(apply u_ev;rfl;simp only[sbe];rfl)|(apply u_and;rfl)|refine u_join ?_|(apply u_jump;rfl;rfl)|refine at_jump ?_|refine kj rfl ?_|exact u_ret rfl rfl|(intro hz;(try simp only[sbs] at hz)))
      exact hR' trivial
     ·have hc':=hc
      unfold voi at hc'
      rw[hc] at hst
      simp only[Bool.not_true,Bool.and_false] at hst
      rw[hst] at hR'
      have hs2:D.set (bl n (upd (cnF W t n d) i (inC W t i k))) (In i) 0 (B false)=some (bl n (upd (cnF W t n d) i false)):=bl_set hin fun q hq=>by rw[upd_upd]
      repeat' (first|(apply nrm;simp only[sbe];rfl)|(apply u_iteT;rfl;(·first|exact hlk|exact hc'))|(apply u_chk;rfl)|(apply u_eaddr;rfl;rfl;(·first|exact hea|exact hek);simp only[sbe];rfl)|(apply u_lenL;rfl;exact hlen;simp only[sbe];rfl)|(apply u_idx;rfl;rfl;(·first|exact hix|exact bl_idx hin);simp only[sbe];rfl)|(apply u_set;rfl;rfl;rfl;exact hs2;simp only[sbe];rfl)|(apply u_inc;rfl;omega;simp only[sbe];rfl)|(apply u_ev;exact e_ci rfl rfl hix;simp only[sbe];rfl)|(apply u_ev;rfl;simp only[sbe];rfl)|(apply u_and;rfl)|refine u_join ?_|(apply u_jump;rfl;rfl)|refine at_jump ?_|refine kj rfl ?_|exact u_ret rfl rfl|(intro hz;(try simp only[sbs] at hz)))
      exact hR' trivial
    ·have hlk:decide (((i+1+(n-(i+1)):Nat):Int)<(n:Int))=false:=by simp;omega
     have hend:=inC_end (W:=W) ho hl t (i:=i) (by omega)
     rw[←hn] at hend
     rw[hend,bl_congr (n:=n) (g:=upd (cnF W t n d) i (cnG W t i)) (g':=cnF W t n (d+1)) (fun q hq=>by
      unfold upd cnF
      by_cases h:q=i
      ·subst h;simp;omega
      ·rw[if_neg h]
       congr 1
       rw[Bool.eq_iff_iff];simp;omega)]
     repeat' (first|(apply nrm;simp only[sbe];rfl)|(apply u_iteF;rfl;exact hlk)|(apply u_lenL;rfl;exact hlen;simp only[sbe];rfl)|(apply u_sub;rfl;rfl;omega;simp only[sbe];rfl)|(apply u_ev;rfl;simp only[sbe];rfl)|(apply u_jump;rfl;rfl)|refine at_jump ?_|(refine over_jump (by decide) ?_)|refine kj rfl ?_)
     exact hR trivial
   ·have hli:decide ((n:Int)-1-(n:Int)≥0)=false:=by simp;omega
    rw[bl_congr (n:=n) (g:=cnF W t n n) (g':=cnG W t) (fun q hq=>by simp[cnF])]
    repeat' (first|(apply nrm;simp only[sbe];rfl)|(apply u_iteF;rfl;exact hli)|(apply u_ev;rfl;simp only[sbe];rfl)|refine u_join ?_|(apply u_jump;rfl;rfl)|refine at_jump ?_|(refine over_jump (by decide) ?_)|refine kj rfl ?_)
    refine u_range (fun i=>[Ix ((List.range i).filter (cnG W t)),In i]) (fun _=>True) n rfl (fun _=>rfl) trivial (fun i hi _ R hR=>?_) (fun _ R=>?_)
    ·have hli:decide ((i:Int)<(n:Int))=true:=by simp;omega
     have hst:=idx_step W t i
     have hfl:((List.range i).filter (cnG W t)).length≤1000000:=by
      have:=List.length_filter_le (cnG W t) (List.range i)
      rw[List.length_range] at this
      omega
     have happ:=app_ix (x:=i) hfl
     cases hc:cnG W t i
     ·rw[hc,if_neg (by decide),List.append_nil] at hst
      have hix:D.idx (bl n (cnG W t)) (In i)=some (B false):=by rw[bl_idx hi,hc]
      rw[hst] at hR
      repeat' (first|(apply nrm;simp only[sbe];rfl)|(apply u_iteT;rfl;exact hli)|(apply u_iteF;rfl;exact rfl)|(apply u_lenL;rfl;exact hlen;simp only[sbe];rfl)|(apply u_idx;rfl;rfl;exact hix;simp only[sbe];rfl)|(apply u_inc;rfl;omega;simp only[sbe];rfl)|(apply u_ev;exact e_ci rfl rfl hix;simp only[sbe];rfl)|(apply u_ev;rfl;simp only[sbe];rfl)|refine u_join ?_|(apply u_jump;rfl;rfl)|refine at_jump ?_|refine kj rfl ?_)
      exact hR trivial
     ·rw[hc,if_pos rfl] at hst
      have hix:D.idx (bl n (cnG W t)) (In i)=some (B true):=by rw[bl_idx hi,hc]
      rw[hst] at hR
      repeat' (first|(apply nrm;simp only[sbe];rfl)|(apply u_iteT;rfl;(·first|exact hli|exact rfl))|(apply u_lenL;rfl;exact hlen;simp only[sbe];rfl)|(apply u_idx;rfl;rfl;exact hix;simp only[sbe];rfl)|(apply u_app;rfl;rfl;exact happ;simp only[sbe];rfl)|(apply u_inc;rfl;omega;simp only[sbe];rfl)|(apply u_ev;exact e_ci rfl rfl hix;simp only[sbe];rfl)|(apply u_ev;rfl;simp only[sbe];rfl)|refine u_join ?_|(apply u_jump;rfl;rfl)|refine at_jump ?_|refine kj rfl ?_)
      exact hR trivial
    ·have hli:decide ((n:Int)<(n:Int))=false:=by simp
     repeat' (first|(apply nrm;simp only[sbe];rfl)|(apply u_iteF;rfl;exact hli)|(apply u_lenL;rfl;exact hlen;simp only[sbe];rfl)|(apply u_ev;rfl;simp only[sbe];rfl)|(apply u_jump;rfl;rfl)|refine at_jump ?_|(refine over_jump (by decide) ?_)|refine kj rfl ?_|(apply u_ret;rfl;first|exact rfl|(refine retB ?_)|(refine retI ?_)|(refine retD ?_)))
     rw[hn]
     rfl

end Go.Am.Wr

/-
 The specification: quarrels.
-/
namespace Go.Am.Wr
open Go.Proofs
set_option maxRecDepth 100000
set_option maxHeartbeats 4000000

attribute [local irreducible] inR

variable {bs:List D} {n:Nat} {f:Fld} {ss:List Src} {W:List Rep}

def telB (car:Int)(r:Rep):Bool:=r.car==car&&(r.kind==1||r.kind==2)
def quC (ss:List Src)(least:List Int)(W:List Rep)(car:Int)(x y:Nat):Bool:=(telB car (rAt W x)&&telB car (rAt W y))&&quK ss least (rAt W x) (rAt W y)

def rqO (ss:List Src)(least:List Int)(W:List Rep)(car:Int)(L:List Nat)(i:Nat):List (Nat×Nat):=((List.range i).filterMap (L[·]?)).flatMap fun x=>((L.filter fun y=>decide (x<y)&&quC ss least W car x y)).map fun y=>(x,y)

def rqI (ss:List Src)(least:List Int)(W:List Rep)(car:Int)(L:List Nat)(i j:Nat):List (Nat×Nat):=(((L.drop (i+1)).take j).filter (quC ss least W car (L.getD i 0))).map fun y=>(L.getD i 0,y)

theorem ix_get {L:List Nat}{i:Nat}(h:i<L.length):D.eaddr 1 (Ix L) (In i)=some (.ptr [In L[i]]):=eaddr_get h rfl

def RKs (n:Nat)(ss:List Src)(W:List Rep)(L:List Nat):Prop:=∀i,i∈L→i<W.length∧((rAt W i).kind≠4→ROk n ss (rAt W i))

end Go.Am.Wr

/-
 The specification: what is known of a car.
-/
namespace Go.Am.Wr
open Go.Proofs
set_option maxRecDepth 100000
set_option maxHeartbeats 8000000

attribute [local irreducible] inR

/-! ## the store -/

def ks (n:Nat)(g:Nat→Kn):List D:=[.blk 62 6 (((List.range n).map g).flatMap Kn.cs)]

section
variable {n p:Nat} {g:Nat→Kn}

theorem ks_b0:(ks n g)[0]? = some (.blk 62 6 (((List.range n).map g).flatMap Kn.cs)):=rfl

theorem ks_sto {g':Nat→Kn}{k:Nat}{x':Kn}{d:D}(hp:p<n)(hk:k<6)(hd:d.one=true)(he:x'.cs=(g p).cs.set k d)(hg:∀q,q<n→upd g p x' q=g' q):D.sto 1 (.st (ks n g)) (.loc 0 (p*6+k)) d=some (.st (ks n g')):=by
 rw[sto_el ks_b0 (fun _=>rfl) (x:=g p) (by simp[hp]) hk hd he,range_set]
 have e:(List.range n).map (upd g p x')=(List.range n).map g':=List.map_congr_left fun q hq=>hg q (by simpa using hq)
 rw[e]
 rfl

theorem ks_ld {k:Nat}{d:D}(hp:p<n)(hk:(g p).cs[k]? = some d):D.ld false 1 (.st (ks n g)) (.loc 0 (p*6+k))=some d:=
 ld_elc ks_b0 (fun _=>rfl) (by simp[hp]) hk

theorem ks_congr {g':Nat→Kn}(h:∀q,q<n→g q=g' q):ks n g=ks n g':=by
 have e:(List.range n).map g=(List.range n).map g':=List.map_congr_left fun q hq=>h q (by simpa using hq)
 unfold ks
 rw[e]
end

section
variable {ss:List Src} {least:List Int} {rs:List Rep} {r:Rep} {n:Nat}

def g2 (ss:List Src)(rs:List Rep)(q:Nat):Kn:=⟨low0 ss rs q,high0 ss rs q,passedB rs q,false,false,false⟩
def gM (ss:List Src)(rs:List Rep)(r:Rep)(j q:Nat):Kn:=⟨low0 ss (rs++[r]) q,high0 ss (rs++[r]) q,passedB rs q||decide (q<j),false,false,false⟩
def loP (ss:List Src)(least:List Int)(rs:List Rep)(i q:Nat):Kn:={ loG ss least rs i q with passed:=passedB rs q }
def hiP (ss:List Src)(least:List Int)(n:Nat)(rs:List Rep)(d q:Nat):Kn:={ hiG ss least n rs d q with passed:=passedB rs q }
def fiP (ss:List Src)(least:List Int)(n:Nat)(rs:List Rep)(i q:Nat):Kn:=if q<i then knAt ss least n rs q else hiP ss least n rs (n-1) q

theorem passed_snoc (q:Nat):passedB (rs++[r]) q=(passedB rs q||((r.kind==1||r.kind==3)&&decide ((q:Int)≤r.place))):=by simp[passedB]

theorem gM_two (h:r.kind=2)(q:Nat):gM ss rs r 0 q=g2 ss (rs++[r]) q:=by
 unfold gM g2
 rw[passed_snoc,h]
 simp

theorem gM_end (h:r.kind=1∨r.kind=3){p:Nat}(hp:r.place=(p:Int))(q:Nat):gM ss rs r (p+1) q=g2 ss (rs++[r]) q:=by
 unfold gM g2
 rw[passed_snoc,hp]
 have e:(r.kind==1||r.kind==3)=true:=by rcases h with h | h <;> simp[h]
 rw[e,Bool.true_and]
 congr 2
 rw[Bool.eq_iff_iff];simp;omega

theorem gM_step (j q:Nat):upd (gM ss rs r j) j { gM ss rs r j j with passed:=true } q=gM ss rs r (j+1) q:=by
 unfold upd gM
 by_cases h:q=j
 ·subst h;simp
 ·rw[if_neg h]
  congr 2
  rw[Bool.eq_iff_iff];simp;omega

theorem loP_zero (q:Nat):g2 ss rs q=loP ss least rs 0 q:=by
 have:=congrFun (loG_zero (ss:=ss) (least:=least) (rs:=rs)) q
 unfold loP
 rw[←this]
 rfl
theorem loP_step (i q:Nat):upd (loP ss least rs i) (i+1) ⟨lowF least (low0 ss rs) (i+1),high0 ss rs (i+1),passedB rs (i+1),false,false,false⟩ q=loP ss least rs (i+1) q:=by
 have:=congrFun (loG_step (ss:=ss) (least:=least) (rs:=rs) i) q
 unfold loP
 rw[←this]
 unfold upd
 by_cases h:q=i+1
 ·subst h;simp
 ·rw[if_neg h,if_neg h]
theorem hiP_zero {q:Nat}(h:q<n):loP ss least rs (n-1) q=hiP ss least n rs 0 q:=by
 have:=hiG_zero (ss:=ss) (least:=least) (rs:=rs) h
 unfold loP hiP
 rw[this]
theorem hiP_step {d i:Nat}(hd2:d<n-1)(hi:i+1<n)(hd:i=n-1-(d+1)){q:Nat}(hq:q<n):upd (hiP ss least n rs d) i ⟨lowF least (low0 ss rs) i,highF least (high0 ss rs) (n-1) (d+1),passedB rs i,false,false,false⟩ q=hiP ss least n rs (d+1) q:=by
 have:=hiG_step (ss:=ss) (least:=least) (rs:=rs) hd2 hi hd hq
 unfold hiP
 rw[←this]
 unfold upd
 by_cases h:q=i
 ·subst h;simp
 ·rw[if_neg h,if_neg h]
theorem fiP_at (i:Nat):fiP ss least n rs i i=⟨lowF least (low0 ss rs) i,highF least (high0 ss rs) (n-1) (n-1-i),passedB rs i,false,false,false⟩:=by
 unfold fiP hiP hiG
 rw[if_neg (by omega),if_pos (by omega)]
theorem fiP_step (i q:Nat):upd (fiP ss least n rs i) i (knAt ss least n rs i) q=fiP ss least n rs (i+1) q:=by
 unfold upd fiP
 by_cases h:q=i
 ·subst h
  rw[if_pos rfl,if_pos (by omega)]
 ·rw[if_neg h]
  by_cases h2:q<i
  ·rw[if_pos h2,if_pos (by omega)]
  ·rw[if_neg h2,if_neg (by omega)]
theorem knAt_eq (i:Nat):knAt ss least n rs i=⟨lowF least (low0 ss rs) i,highF least (high0 ss rs) (n-1) (n-1-i),passedB rs i,((i:Int)==outAt n rs),
  (passedB rs i&&!trustB ss rs i)||(decide (lowF least (low0 ss rs) i > highF least (high0 ss rs) (n-1) (n-1-i))||(passedB rs i&&decide (outAt n rs<(i:Int)))),
  decide (lowF least (low0 ss rs) i > highF least (high0 ss rs) (n-1) (n-1-i))||(passedB rs i&&decide (outAt n rs<(i:Int)))⟩:=by
 unfold knAt
 simp only[Kn.mk.injEq,true_and]
 refine⟨?_,trivial⟩
 cases h:(i:Int)==outAt n rs with
 | true=>simp at h;simp[h]
 | false=>simp at h;simp[h]
end

abbrev xS31:E:=.fstsl (.sym 5) (.rep 24 (.cell 1 (.sym 0)) (.agg [(.v (.int .i64 0)),(.v (.int .i64 0)),(.v (.bool false)),(.v (.bool false)),(.v (.bool false)),(.v (.bool false))]))
abbrev xN31:E:=.newv 62 6 (.sym 5) (.rep 24 (.cell 1 (.sym 0)) (.agg [(.v (.int .i64 0)),(.v (.int .i64 0)),(.v (.bool false)),(.v (.bool false)),(.v (.bool false)),(.v (.bool false))]))

section
variable {env:List D} {cars:Int} {n:Nat} {least:List Int}

theorem rep31 (h:n≤100):D.rep 24 (In n) K0.d=some (.lst (List.replicate n K0.d)):=by
 simp only[D.rep,Int.toNat_natCast]
 rw[if_pos]
 refine⟨by omega,by omega,?_⟩
 simp[maxLen]
 omega

theorem e_rep {x:E}{k:Nat}{d0 dx d:D}(hx:x.eval env=some dx)(h:D.rep k dx d0=some d):(E.rep k x d0).eval env=some d:=by simp only[E.eval,hx,Option.bind_some,h]
theorem e_ea {x y:E}{k:Nat}{dx dy d:D}(hx:x.eval env=some dx)(hy:y.eval env=some dy)(h:D.eaddr k dx dy=some d):(E.eaddr k x y).eval env=some d:=by simp only[E.eval,hx,hy,Option.bind_some,h]
theorem e_tc {x y:E}{dx d:D}{ds:List D}(hx:x.eval env=some dx)(hy:y.eval env=some (.tup ds))(h:D.tcons dx (.tup ds)=some d):(E.tcons x y).eval env=some d:=by simp only[E.eval,hx,hy,Option.bind_some,h]

theorem e_c1 (h0:env[0]? = some (Fld.d ⟨cars,(n:Int),least⟩)):(E.cell 1 (.sym 0)).eval env=some (In n):=by simp[E.eval,h0];rfl

theorem e_s31 (h0:env[0]? = some (Fld.d ⟨cars,(n:Int),least⟩))(h5:env[5]? = some (.st []))(h:n≤100):xS31.eval env=some (.sl 0 0 n):=
 e_fstsl h5 (e_rep (e_c1 h0) (rep31 h)) (by simp[D.fstsl])

theorem e_n31 (h0:env[0]? = some (Fld.d ⟨cars,(n:Int),least⟩))(h5:env[5]? = some (.st []))(h:n≤100):xN31.eval env=some (.st (ks n fun _=>K0)):=by
 refine e_newv h5 (e_rep (e_c1 h0) (rep31 h)) ?_
 simp only[D.newv]
 rw[if_pos,cells_rep Kn.cs K0 n rfl]
 ·rfl
 constructor
 ·simp[allCells,Kn.d,Kn.cs,D.cells]
 ·rw[cells_rep Kn.cs K0 n rfl,List.all_eq_true]
  intro d hd
  obtain⟨x,hx,hd⟩:=List.mem_flatMap.1 hd
  obtain⟨_,_,rfl⟩:=List.mem_map.1 hx
  simp[Kn.cs,K0] at hd
  rcases hd with rfl | rfl | rfl | rfl | rfl | rfl <;> rfl
end

def ofL (W:List Rep)(car:Int)(L:List Nat):List Rep:=(L.map (rAt W)).filter (okC car)

theorem ofL_snoc (W:List Rep)(car:Int)(L:List Nat)(i:Nat):ofL W car (L++[i])=ofL W car L++if okC car (rAt W i)=true then[rAt W i] else[]:=by
 unfold ofL
 rw[List.map_append,List.filter_append,List.map_cons,List.map_nil,List.filter_cons,List.filter_nil]

theorem c31raw {cars:Int}{n:Nat}{least:List Int}{ss:List Src}{W:List Rep}(F:FOk n least ss){L:List Nat}(hL:L.length≤1000000)(hlt:∀i,i∈L→i<W.length)(car:Int)(hK:∀r,r∈ofL W car L→ROk n ss r) :
  FSpecW Try.prog 31 (.st []) [.agg [I cars,In n,Is least],.lst (ss.map Src.d),.lst (W.map Rep.d),Ix L,I car] (.sl 0 0 n) (.st (ks n (knAt ss least n (ofL W car L)))):=by
 have hnh:=F.hi
 have hnl:=F.lo
 have hn:n≤100:=by omega
 have hr1:=bl_rep (n:=n) (by omega)
 refine ku31.W rfl ?_
 unfold u31
 simp only[ups_cons,ups_nil,List.cons_append,List.nil_append]
 repeat' (first|(apply u_chk;rfl)|(apply u_rep;rfl;exact hr1;simp only[sbe];rfl)|(apply u_ev;exact e_n31 rfl rfl hn;simp only[sbe];rfl)|refine u_join ?_)
 refine u_range (fun i=>[In i,.st (ks n (iniG i))]) (fun _=>True) n (by simp only[evalAll,E.eval];rfl) (fun _=>rfl) trivial (fun i hi _ R hR=>?_) (fun _ R=>?_)
 ·have hli:decide ((i:Int)<(n:Int))=true:=by simp;omega
  have hi0:iniG i i=K0:=by simp[iniG]
  have hs1:D.sto 1 (.st (ks n (iniG i))) (.loc 0 (i*6+0)) (I (-10000000000000))=some (.st (ks n (upd (iniG i) i { K0 with low:=-10000000000000 }))):=ks_sto hi (by omega) rfl (by rw[hi0];rfl) fun _ _=>rfl
  have hs2:D.sto 1 (.st (ks n (upd (iniG i) i { K0 with low:=-10000000000000 }))) (.loc 0 (i*6+1)) (I 10000000000000)=some (.st (ks n (iniG (i+1)))):=ks_sto hi (by omega) (x':=K1) rfl (by rw[upd_at];rfl) fun q _=>by rw[upd_upd,iniG_step]
  repeat' (first|(apply nrm;simp only[sbe];rfl)|(apply u_iteT;rfl;exact hli)|(apply u_chk;rfl)|(apply u_sto;rfl;rfl;rfl;(·first|exact hs1|exact hs2);simp only[sbe];rfl)|(apply u_inc;rfl;omega;simp only[sbe];rfl)|(apply u_ev;(·exact e_ea (e_s31 rfl rfl hn) rfl (eaddr_sl hi));simp only[sbe];rfl)|(apply u_ev;rfl;simp only[sbe];rfl)|refine u_join ?_|(apply u_jump;rfl;rfl)|refine at_jump ?_|refine kj rfl ?_)
  exact hR trivial
 ·have hli:decide ((n:Int)<(n:Int))=false:=by simp
  rw[ks_congr (n:=n) (g:=iniG n) (g':=g2 ss []) (fun q hq=>by simp[iniG,hq,g2,K1,low0,high0,passedB])]
  repeat' (first|(apply nrm;simp only[sbe];rfl)|(apply u_iteF;rfl;exact hli)|(apply u_ev;rfl;simp only[sbe];rfl)|refine u_join ?_|(apply u_jump;rfl;rfl)|refine at_jump ?_|(refine over_jump (by decide) ?_)|refine kj rfl ?_)
  refine u_range (fun k=>[I (outAt n (ofL W car (L.take k))),In k,bl n (trustB ss (ofL W car (L.take k))),.st (ks n (g2 ss (ofL W car (L.take k))))]) (fun _=>True) L.length (by rw[List.take_zero,show bl n (trustB ss (ofL W car []))=bl n (fun _=>false) from rfl];rfl) (fun _=>rfl) trivial (fun k hk _ R hR=>?_) (fun _ R=>?_)
  ·have hli:decide ((k:Int)<(L.length:Int))=true:=by simp;omega
   have hmk:=List.getElem_mem hk
   have he1:=ix_get hk
   have he2:=ea_rep (hlt _ hmk)
   have hsn:=ofL_snoc W car (L.take k) L[k]
   rw[←List.take_succ_eq_append_getElem hk] at hsn
   have hK1:okC car (rAt W L[k])=true→ROk n ss (rAt W L[k]):=fun ho=>hK _ (List.mem_filter.2 ⟨List.mem_map_of_mem hmk,ho⟩)
   have hok:okC car (rAt W L[k])=!((rAt W L[k]).kind==4||(rAt W L[k]).car != car):=by
    unfold okC
    cases h1:(rAt W L[k]).kind==4 <;> cases h2:(rAt W L[k]).car==car <;> simp[h1,h2,bne]
   obtain⟨rs,hrs⟩:∃rs,rs=ofL W car (L.take k):=⟨_,rfl⟩
   obtain⟨r,hr⟩:∃r,r=rAt W L[k]:=⟨_,rfl⟩
   simp only[hsn] at hR
   simp only[←hrs,←hr] at hR he2 hK1 hok ⊢
   cases hc:(r.kind==4||r.car != car)
   ·rw[hc] at hok
    rw[hok] at hR
    simp only[Bool.not_false,if_true] at hR
    have hrk:=hK1 hok
    have h68:=c68 (bs:=ks n (g2 ss rs)) (f:=⟨cars,n,least⟩) F hrk
    have hp:r.place=((r.place.toNat:Nat):Int):=by have:=hrk.place;omega
    have hpn:r.place.toNat<n:=by have:=hrk.place;omega
    obtain⟨p,hpd⟩:∃p,p=r.place.toNat:=⟨_,rfl⟩
    rw[←hpd] at hp hpn
    have hesl:D.eaddr 6 (.sl 0 0 n) (I r.place)=some (.loc 0 (p*6)):=by rw[hp];exact eaddr_sl hpn
    have hes:=ea_src hrk.src
    have hl0:D.ld false 1 (.st (ks n (g2 ss rs))) (.loc 0 (p*6+0))=some (I (low0 ss rs p)):=ks_ld hpn rfl
    have hl1:D.ld false 1 (.st (ks n (g2 ss rs))) (.loc 0 (p*6+1))=some (I (high0 ss rs p)):=ks_ld hpn rfl
    have hm0:D.mm true (I (low0 ss rs p)) (I (lowB ss r))=some (I (low0 ss (rs++[r]) p)):=by rw[mm_max,low0_snoc,if_pos hp]
    have hm1:D.mm false (I (high0 ss rs p)) (I (highB ss r))=some (I (high0 ss (rs++[r]) p)):=by rw[mm_min,high0_snoc,if_pos hp]
    have hs1:D.sto 1 (.st (ks n (g2 ss rs))) (.loc 0 (p*6+0)) (I (low0 ss (rs++[r]) p))=some (.st (ks n (upd (g2 ss rs) p { g2 ss rs p with low:=low0 ss (rs++[r]) p }))):=ks_sto hpn (by omega) rfl rfl fun _ _=>rfl
    have hs2:D.sto 1 (.st (ks n (upd (g2 ss rs) p { g2 ss rs p with low:=low0 ss (rs++[r]) p }))) (.loc 0 (p*6+1)) (I (high0 ss (rs++[r]) p))=some (.st (ks n (gM ss rs r 0))):=ks_sto hpn (by omega) (x':={ g2 ss rs p with low:=low0 ss (rs++[r]) p,high:=high0 ss (rs++[r]) p }) rfl (by rw[upd_at];rfl) fun q _=>by
     rw[upd_upd]
     unfold upd gM g2
     by_cases h:q=p
     ·subst h;simp
     ·rw[if_neg h,low0_snoc,high0_snoc,if_neg (by omega),if_neg (by omega)]
      simp
    rcases hrk.kind with hk1 | hk1 | hk1
    ·have d3:(r.kind==3)=false:=by simp[hk1]
     have d2:(r.kind != 2)=true:=by simp[hk1]
     have htr:=trust_pass (ss:=ss) (rs:=rs) hp hk1
     rw[outAt_snoc,if_neg (by omega)] at hR
     by_cases hsk:(srcOf ss r).kind=3
     ·have dc:(r.kind==1&&(srcOf ss r).kind != 3)=false:=by simp[hsk]
      rw[if_pos hsk] at htr
      rw[←htr] at hR
      repeat' (first|(apply nrm;simp only[sbe];rfl)|(apply u_iteT;rfl;(·first|exact hli|exact d2))|(apply u_iteF;rfl;(·first|exact hc|exact d3|exact dc))|(apply u_chk;rfl)|(apply u_ld;rfl;rfl;(·first|exact hl0|exact hl1);simp only[sbe];rfl)|(apply u_eaddr;rfl;rfl;(·first|exact he1|exact he2|exact hes);simp only[sbe];rfl)|(apply u_sto;rfl;rfl;rfl;(·first|exact hs1|exact hs2);simp only[sbe];rfl)|(apply u_mm;rfl;rfl;(·first|exact hm0|exact hm1);simp only[sbe];rfl)|(apply u_lenL;rfl;exact lenL_map;simp only[sbe];rfl)|(apply u_ev;(·exact e_ea (e_s31 rfl rfl hn) rfl hesl);simp only[sbe];rfl)|(apply u_ev;rfl;simp only[sbe];rfl)|(apply u_call;rfl;rfl;exact h68;rfl;simp only[sbe];rfl)|(apply u_or;rfl)|(apply u_and;rfl)|refine u_join ?_|(apply u_jump;rfl;rfl)|refine at_jump ?_|refine kj rfl ?_|exact u_ret rfl rfl|(intro hz;(try simp only[sbs] at hz)))
      refine u_range (fun j=>[In j,.st (ks n (gM ss rs r j))]) (fun _=>True) (p+1) rfl (fun _=>rfl) trivial (fun j hj _ R' hR'=>?_) (fun _ R'=>?_)
      ·have hlj:decide ((j:Int)≤r.place)=true:=by simp;omega
       have hjn:j<n:=by omega
       have hs3:D.sto 1 (.st (ks n (gM ss rs r j))) (.loc 0 (j*6+2)) (B true)=some (.st (ks n (gM ss rs r (j+1)))):=ks_sto hjn (by omega) rfl rfl fun q _=>gM_step j q
       repeat' (first|(apply nrm;simp only[sbe];rfl)|(apply u_iteT;rfl;exact hlj)|(apply u_chk;rfl)|(apply u_sto;rfl;rfl;rfl;exact hs3;simp only[sbe];rfl)|(apply u_inc;rfl;omega;simp only[sbe];rfl)|(apply u_ev;(·exact e_ea (e_s31 rfl rfl hn) rfl (eaddr_sl hjn));simp only[sbe];rfl)|(apply u_ev;rfl;simp only[sbe];rfl)|refine u_join ?_|(apply u_jump;rfl;rfl)|refine at_jump ?_|refine kj rfl ?_)
       exact hR' trivial
      ·have hlj:decide (((p+1:Nat):Int)≤r.place)=false:=by simp;omega
       rw[ks_congr fun q _=>gM_end (ss:=ss) (rs:=rs) (.inl hk1) hp q]
       repeat' (first|(apply nrm;simp only[sbe];rfl)|(apply u_iteF;rfl;exact hlj)|(apply u_inc;rfl;omega;simp only[sbe];rfl)|(apply u_ev;rfl;simp only[sbe];rfl)|(apply u_jump;rfl;rfl)|refine at_jump ?_|(refine over_jump (by decide) ?_)|refine kj rfl ?_)
       exact hR trivial
     ·have dc:(r.kind==1&&(srcOf ss r).kind != 3)=true:=by simp[hk1,hsk]
      rw[if_neg hsk] at htr
      rw[←htr] at hR
      have hix:D.idx (bl n (trustB ss rs)) (I r.place)=some (B (trustB ss rs p)):=by rw[hp];exact bl_idx hpn
      have hset:D.set (bl n (trustB ss rs)) (I r.place) 0 (B true)=some (bl n (upd (trustB ss rs) p true)):=by rw[hp];exact bl_set hpn fun _ _=>rfl
      repeat' (first|(apply nrm;simp only[sbe];rfl)|(apply u_iteT;rfl;(·first|exact hli|exact d2|exact dc))|(apply u_iteF;rfl;(·first|exact hc|exact d3))|(apply u_chk;rfl)|(apply u_ld;rfl;rfl;(·first|exact hl0|exact hl1);simp only[sbe];rfl)|(apply u_eaddr;rfl;rfl;(·first|exact he1|exact he2|exact hes);simp only[sbe];rfl)|(apply u_idx;rfl;rfl;exact hix;simp only[sbe];rfl)|(apply u_set;rfl;rfl;rfl;exact hset;simp only[sbe];rfl)|(apply u_sto;rfl;rfl;rfl;(·first|exact hs1|exact hs2);simp only[sbe];rfl)|(apply u_mm;rfl;rfl;(·first|exact hm0|exact hm1);simp only[sbe];rfl)|(apply u_lenL;rfl;exact lenL_map;simp only[sbe];rfl)|(apply u_ev;(·exact e_ea (e_s31 rfl rfl hn) rfl hesl);simp only[sbe];rfl)|(apply u_ev;rfl;simp only[sbe];rfl)|(apply u_call;rfl;rfl;exact h68;rfl;simp only[sbe];rfl)|(apply u_or;rfl)|(apply u_and;rfl)|refine u_join ?_|(apply u_jump;rfl;rfl)|refine at_jump ?_|refine kj rfl ?_|exact u_ret rfl rfl|(intro hz;(try simp only[sbs] at hz)))
      refine u_range (fun j=>[In j,.st (ks n (gM ss rs r j))]) (fun _=>True) (p+1) rfl (fun _=>rfl) trivial (fun j hj _ R' hR'=>?_) (fun _ R'=>?_)
      ·have hlj:decide ((j:Int)≤r.place)=true:=by simp;omega
       have hjn:j<n:=by omega
       have hs3:D.sto 1 (.st (ks n (gM ss rs r j))) (.loc 0 (j*6+2)) (B true)=some (.st (ks n (gM ss rs r (j+1)))):=ks_sto hjn (by omega) rfl rfl fun q _=>gM_step j q
       repeat' (first|(apply nrm;simp only[sbe];rfl)|(apply u_iteT;rfl;exact hlj)|(apply u_chk;rfl)|(apply u_sto;rfl;rfl;rfl;exact hs3;simp only[sbe];rfl)|(apply u_inc;rfl;omega;simp only[sbe];rfl)|(apply u_ev;(·exact e_ea (e_s31 rfl rfl hn) rfl (eaddr_sl hjn));simp only[sbe];rfl)|(apply u_ev;rfl;simp only[sbe];rfl)|refine u_join ?_|(apply u_jump;rfl;rfl)|refine at_jump ?_|refine kj rfl ?_)
       exact hR' trivial
      ·have hlj:decide (((p+1:Nat):Int)≤r.place)=false:=by simp;omega
       rw[ks_congr fun q _=>gM_end (ss:=ss) (rs:=rs) (.inl hk1) hp q]
       repeat' (first|(apply nrm;simp only[sbe];rfl)|(apply u_iteF;rfl;exact hlj)|(apply u_inc;rfl;omega;simp only[sbe];rfl)|(apply u_ev;rfl;simp only[sbe];rfl)|(apply u_jump;rfl;rfl)|refine at_jump ?_|(refine over_jump (by decide) ?_)|refine kj rfl ?_)
       exact hR trivial
    ·have d3:(r.kind==3)=false:=by simp[hk1]
     have d2:(r.kind != 2)=false:=by simp[hk1]
     have dc:(r.kind==1&&(srcOf ss r).kind != 3)=false:=by simp[hk1]
     have htr:=trust_not (ss:=ss) (rs:=rs) (r:=r) (by omega:r.kind≠1)
     rw[outAt_snoc,if_neg (by omega),←htr,ks_congr fun q _=>(gM_two (ss:=ss) (rs:=rs) hk1 q).symm] at hR
     repeat' (first|(apply nrm;simp only[sbe];rfl)|(apply u_iteT;rfl;exact hli)|(apply u_iteF;rfl;(·first|exact hc|exact d3|exact dc|exact d2))|(apply u_chk;rfl)|(apply u_ld;rfl;rfl;(·first|exact hl0|exact hl1);simp only[sbe];rfl)|(apply u_eaddr;rfl;rfl;(·first|exact he1|exact he2|exact hes);simp only[sbe];rfl)|(apply u_sto;rfl;rfl;rfl;(·first|exact hs1|exact hs2);simp only[sbe];rfl)|(apply u_mm;rfl;rfl;(·first|exact hm0|exact hm1);simp only[sbe];rfl)|(apply u_lenL;rfl;exact lenL_map;simp only[sbe];rfl)|(apply u_inc;rfl;omega;simp only[sbe];rfl)|(apply u_ev;(·exact e_ea (e_s31 rfl rfl hn) rfl hesl);simp only[sbe];rfl)|(apply u_ev;rfl;simp only[sbe];rfl)|(apply u_call;rfl;rfl;exact h68;rfl;simp only[sbe];rfl)|(apply u_or;rfl)|(apply u_and;rfl)|refine u_join ?_|(apply u_jump;rfl;rfl)|refine at_jump ?_|refine kj rfl ?_|exact u_ret rfl rfl|(intro hz;(try simp only[sbs] at hz)))
     exact hR trivial
    ·have d3:(r.kind==3)=true:=by simp[hk1]
     have d2:(r.kind != 2)=true:=by simp[hk1]
     have dc:(r.kind==1&&(srcOf ss r).kind != 3)=false:=by simp[hk1]
     have htr:=trust_not (ss:=ss) (rs:=rs) (r:=r) (by omega:r.kind≠1)
     have hmo:=mm_min (outAt n rs) r.place
     rw[outAt_snoc,if_pos hk1,←htr] at hR
     repeat' (first|(apply nrm;simp only[sbe];rfl)|(apply u_iteT;rfl;(·first|exact hli|exact d3|exact d2))|(apply u_iteF;rfl;(·first|exact hc|exact dc))|(apply u_chk;rfl)|(apply u_ld;rfl;rfl;(·first|exact hl0|exact hl1);simp only[sbe];rfl)|(apply u_eaddr;rfl;rfl;(·first|exact he1|exact he2|exact hes);simp only[sbe];rfl)|(apply u_sto;rfl;rfl;rfl;(·first|exact hs1|exact hs2);simp only[sbe];rfl)|(apply u_mm;rfl;rfl;(·first|exact hm0|exact hm1|exact hmo);simp only[sbe];rfl)|(apply u_lenL;rfl;exact lenL_map;simp only[sbe];rfl)|(apply u_ev;(·exact e_ea (e_s31 rfl rfl hn) rfl hesl);simp only[sbe];rfl)|(apply u_ev;rfl;simp only[sbe];rfl)|(apply u_call;rfl;rfl;exact h68;rfl;simp only[sbe];rfl)|(apply u_or;rfl)|(apply u_and;rfl)|refine u_join ?_|(apply u_jump;rfl;rfl)|refine at_jump ?_|refine kj rfl ?_|exact u_ret rfl rfl|(intro hz;(try simp only[sbs] at hz)))
     refine u_range (fun j=>[In j,.st (ks n (gM ss rs r j))]) (fun _=>True) (p+1) rfl (fun _=>rfl) trivial (fun j hj _ R' hR'=>?_) (fun _ R'=>?_)
     ·have hlj:decide ((j:Int)≤r.place)=true:=by simp;omega
      have hjn:j<n:=by omega
      have hs3:D.sto 1 (.st (ks n (gM ss rs r j))) (.loc 0 (j*6+2)) (B true)=some (.st (ks n (gM ss rs r (j+1)))):=ks_sto hjn (by omega) rfl rfl fun q _=>gM_step j q
      repeat' (first|(apply nrm;simp only[sbe];rfl)|(apply u_iteT;rfl;exact hlj)|(apply u_chk;rfl)|(apply u_sto;rfl;rfl;rfl;exact hs3;simp only[sbe];rfl)|(apply u_inc;rfl;omega;simp only[sbe];rfl)|(apply u_ev;(·exact e_ea (e_s31 rfl rfl hn) rfl (eaddr_sl hjn));simp only[sbe];rfl)|(apply u_ev;rfl;simp only[sbe];rfl)|refine u_join ?_|(apply u_jump;rfl;rfl)|refine at_jump ?_|refine kj rfl ?_)
      exact hR' trivial
     ·have hlj:decide (((p+1:Nat):Int)≤r.place)=false:=by simp;omega
      rw[ks_congr fun q _=>gM_end (ss:=ss) (rs:=rs) (.inr hk1) hp q]
      repeat' (first|(apply nrm;simp only[sbe];rfl)|(apply u_iteF;rfl;exact hlj)|(apply u_inc;rfl;omega;simp only[sbe];rfl)|(apply u_ev;rfl;simp only[sbe];rfl)|(apply u_jump;rfl;rfl)|refine at_jump ?_|(refine over_jump (by decide) ?_)|refine kj rfl ?_)
      exact hR trivial
   ·rw[hc] at hok
    rw[hok] at hR
    simp only[Bool.not_true,Bool.false_eq_true,if_false,List.append_nil] at hR
    repeat' (first|(apply nrm;simp only[sbe];rfl)|(apply u_iteT;rfl;(·first|exact hli|exact hc))|(apply u_chk;rfl)|(apply u_eaddr;rfl;rfl;(·first|exact he1|exact he2);simp only[sbe];rfl)|(apply u_lenL;rfl;exact lenL_map;simp only[sbe];rfl)|(apply u_inc;rfl;omega;simp only[sbe];rfl)|(apply u_ev;rfl;simp only[sbe];rfl)|(apply u_or;rfl)|refine u_join ?_|(apply u_jump;rfl;rfl)|refine at_jump ?_|refine kj rfl ?_|exact u_ret rfl rfl|(intro hz;(try simp only[sbs] at hz)))
    exact hR trivial
  ·have hli:decide ((L.length:Int)<(L.length:Int))=false:=by simp
   rw[List.take_length]
   obtain⟨rs,hrs⟩:∃rs,rs=ofL W car L:=⟨_,rfl⟩
   simp only[←hrs] at hK ⊢
   have hea:∀{i:Nat},i<n-1→D.eaddr 1 (Is least) (In i)=some (.ptr [I (least.getD i 0)]):=fun {i} hi=>by
    have hl:i<least.length:=by rw[F.len];exact hi
    have hg:least[i]? = some (least.getD i 0):=by simp[hl]
    exact eaddr_lst (enc:=I) hg rfl
   rw[ks_congr (n:=n) fun q _=>loP_zero (ss:=ss) (least:=least) (rs:=rs) q]
   repeat' (first|(apply nrm;simp only[sbe];rfl)|(apply u_iteF;rfl;exact hli)|(apply u_lenL;rfl;exact lenL_map;simp only[sbe];rfl)|(apply u_ev;rfl;simp only[sbe];rfl)|refine u_join ?_|(apply u_jump;rfl;rfl)|refine at_jump ?_|(refine over_jump (by decide) ?_)|refine kj rfl ?_)
   refine u_range (fun i=>[In (i+1),.st (ks n (loP ss least rs i))]) (fun _=>True) (n-1) rfl (fun _=>rfl) trivial (fun i hi _ R hR=>?_) (fun _ R=>?_)
   ·have hli:decide (((i+1:Nat):Int)<(n:Int))=true:=by simp;omega
    have b1:=lowF_bd F hK (p:=i) (by omega)
    have b2:=least_bd F i
    have hla:D.ld false 1 (.st (ks n (loP ss least rs i))) (.loc 0 ((i+1)*6+0))=some (I (low0 ss rs (i+1))):=ks_ld (by omega) (by simp[loP,loG,Kn.cs,show¬i+1≤i by omega])
    have hlb:D.ld false 1 (.st (ks n (loP ss least rs i))) (.loc 0 (i*6+0))=some (I (lowF least (low0 ss rs) i)):=ks_ld (by omega) (by simp[loP,loG,Kn.cs])
    have hs:D.sto 1 (.st (ks n (loP ss least rs i))) (.loc 0 ((i+1)*6+0)) (I (lowF least (low0 ss rs) (i+1)))=some (.st (ks n (loP ss least rs (i+1)))):=ks_sto (by omega) (by omega) (x':=⟨lowF least (low0 ss rs) (i+1),high0 ss rs (i+1),passedB rs (i+1),false,false,false⟩) rfl (by simp[loP,loG,Kn.cs,show¬i+1≤i by omega]) fun q _=>loP_step i q
    have hmm:D.mm true (I (low0 ss rs (i+1))) (I (lowF least (low0 ss rs) i+least.getD i 0))=some (I (lowF least (low0 ss rs) (i+1))):=mm_max _ _
    have he1:D.eaddr 6 (.sl 0 0 n) (In (i+1))=some (.loc 0 ((i+1)*6)):=eaddr_sl (by omega)
    have he2:D.eaddr 6 (.sl 0 0 n) (In i)=some (.loc 0 (i*6)):=eaddr_sl (by omega)
    have hei:=hea hi
    repeat' (first|(apply nrm;simp only[sbe];rfl)|(apply u_iteT;rfl;exact hli)|(apply u_chk;rfl)|(apply u_ld;rfl;rfl;(·first|exact hla|exact hlb);simp only[sbe];rfl)|(apply u_eaddr;rfl;rfl;exact hei;simp only[sbe];rfl)|(apply u_sto;rfl;rfl;rfl;exact hs;simp only[sbe];rfl)|(apply u_mm;rfl;rfl;exact hmm;simp only[sbe];rfl)|(apply u_inc;rfl;omega;simp only[sbe];rfl)|(apply u_pred;rfl;omega;simp only[sbe];rfl)|(apply u_add;rfl;rfl;omega;simp only[sbe];rfl)|(apply u_ev;(·first|exact e_ea (e_s31 rfl rfl hn) rfl he1|exact e_ea (e_s31 rfl rfl hn) rfl he2);simp only[sbe];rfl)|(apply u_ev;rfl;simp only[sbe];rfl)|refine u_join ?_|(apply u_jump;rfl;rfl)|refine at_jump ?_|refine kj rfl ?_)
    exact hR trivial
   ·have hli:decide (((n-1+1:Nat):Int)<(n:Int))=false:=by simp;omega
    rw[ks_congr (n:=n) fun q hq=>hiP_zero (ss:=ss) (least:=least) (rs:=rs) hq]
    repeat' (first|(apply nrm;simp only[sbe];rfl)|(apply u_iteF;rfl;exact hli)|(apply u_sub;rfl;rfl;omega;simp only[sbe];rfl)|(apply u_ev;rfl;simp only[sbe];rfl)|refine u_join ?_|(apply u_jump;rfl;rfl)|refine at_jump ?_|(refine over_jump (by decide) ?_)|refine kj rfl ?_)
    refine u_range (fun d=>[I ((n:Int)-2-d),.st (ks n (hiP ss least n rs d))]) (fun _=>True) (n-1) (by simp[evalAll,E.eval]) (fun _=>rfl) trivial (fun d hd _ R hR=>?_) (fun _ R=>?_)
    ·obtain⟨i,hi⟩:∃i,i=n-1-(d+1):=⟨_,rfl⟩
     have e1:(n:Int)-2-(d:Int)=(i:Int):=by omega
     have e2:(n:Int)-2-((d+1:Nat):Int)=(i:Int)-1:=by omega
     simp only[e2] at hR
     simp only[e1]
     have hin:i+1<n:=by omega
     have hli:decide ((i:Int)≥0)=true:=by simp
     have b1:=highF_bd F hK (d:=d) (by omega)
     have b2:=least_bd F i
     have hla:D.ld false 1 (.st (ks n (hiP ss least n rs d))) (.loc 0 (i*6+1))=some (I (high0 ss rs i)):=ks_ld (by omega) (by simp[hiP,hiG,Kn.cs];omega)
     have hlb:D.ld false 1 (.st (ks n (hiP ss least n rs d))) (.loc 0 ((i+1)*6+1))=some (I (highF least (high0 ss rs) (n-1) d)):=ks_ld (by omega) (by
      have:n-1-(i+1)=d:=by omega
      simp[hiP,hiG,Kn.cs,this])
     have hs:D.sto 1 (.st (ks n (hiP ss least n rs d))) (.loc 0 (i*6+1)) (I (highF least (high0 ss rs) (n-1) (d+1)))=some (.st (ks n (hiP ss least n rs (d+1)))):=ks_sto (by omega) (by omega) (x':=⟨lowF least (low0 ss rs) i,highF least (high0 ss rs) (n-1) (d+1),passedB rs i,false,false,false⟩) rfl (by simp[hiP,hiG,Kn.cs]) fun q hq=>hiP_step hd hin hi hq
     have hmm:D.mm false (I (high0 ss rs i)) (I (highF least (high0 ss rs) (n-1) d-least.getD i 0))=some (I (highF least (high0 ss rs) (n-1) (d+1))):=by
      rw[hi]
      exact mm_min _ _
     have he1:D.eaddr 6 (.sl 0 0 n) (In (i+1))=some (.loc 0 ((i+1)*6)):=eaddr_sl (by omega)
     have he2:D.eaddr 6 (.sl 0 0 n) (In i)=some (.loc 0 (i*6)):=eaddr_sl (by omega)
     have hei:=hea (i:=i) (by omega)
     repeat' (first|(apply nrm;simp only[sbe];rfl)|(apply u_iteT;rfl;exact hli)|(apply u_chk;rfl)|(apply u_ld;rfl;rfl;(·first|exact hla|exact hlb);simp only[sbe];rfl)|(apply u_eaddr;rfl;rfl;exact hei;simp only[sbe];rfl)|(apply u_sto;rfl;rfl;rfl;exact hs;simp only[sbe];rfl)|(apply u_mm;rfl;rfl;exact hmm;simp only[sbe];rfl)|(apply u_inc;rfl;omega;simp only[sbe];rfl)|(apply u_sub;rfl;rfl;omega;simp only[sbe];rfl)|(apply u_ev;(·first|exact e_ea (e_s31 rfl rfl hn) rfl he1|exact e_ea (e_s31 rfl rfl hn) rfl he2);simp only[sbe];rfl)|(apply u_ev;rfl;simp only[sbe];rfl)|refine u_join ?_|(apply u_jump;rfl;rfl)|refine at_jump ?_|refine kj rfl ?_)
     exact hR trivial
    ·have hli:decide ((n:Int)-2-((n-1:Nat):Int)≥0)=false:=by simp;omega
     rw[ks_congr (n:=n) (g:=hiP ss least n rs (n-1)) (g':=fiP ss least n rs 0) (fun q hq=>by simp[fiP])]
     repeat' (first|(apply nrm;simp only[sbe];rfl)|(apply u_iteF;rfl;exact hli)|(apply u_ev;rfl;simp only[sbe];rfl)|refine u_join ?_|(apply u_jump;rfl;rfl)|refine at_jump ?_|(refine over_jump (by decide) ?_)|refine kj rfl ?_)
     refine u_range (fun i=>[In i,.st (ks n (fiP ss least n rs i))]) (fun _=>True) n rfl (fun _=>rfl) trivial (fun i hi _ R hR=>?_) (fun _ R=>?_)
     ·have hli:decide ((i:Int)<(n:Int))=true:=by simp;omega
      have hx0:=fiP_at (ss:=ss) (least:=least) (n:=n) (rs:=rs) i
      have hkn:=knAt_eq (ss:=ss) (least:=least) (n:=n) (rs:=rs) i
      obtain⟨lo,hlo⟩:∃lo,lo=lowF least (low0 ss rs) i:=⟨_,rfl⟩
      obtain⟨hg,hhg⟩:∃hg,hg=highF least (high0 ss rs) (n-1) (n-1-i):=⟨_,rfl⟩
      obtain⟨PS,hPS⟩:∃PS,PS=passedB rs i:=⟨_,rfl⟩
      obtain⟨OUT,hOUT⟩:∃OUT,OUT=outAt n rs:=⟨_,rfl⟩
      obtain⟨TR,hTR⟩:∃TR,TR=trustB ss rs:=⟨_,rfl⟩
      have hst:=fun q=>fiP_step (ss:=ss) (least:=least) (n:=n) (rs:=rs) i q
      rw[←hlo,←hhg] at hx0 hkn
      simp only[←hPS,←hOUT,←hTR] at hR hx0 hkn ⊢
      obtain⟨WR,hWR⟩:∃WR,WR=(decide (lo > hg)||(PS&&decide (OUT<(i:Int)))):=⟨_,rfl⟩
      have hs1:D.sto 1 (.st (ks n (fiP ss least n rs i))) (.loc 0 (i*6+3)) (B ((i:Int)==OUT))=some (.st (ks n (upd (fiP ss least n rs i) i ⟨lo,hg,PS,(i:Int)==OUT,false,false⟩))):=ks_sto hi (by omega) rfl (by rw[hx0];rfl) fun _ _=>rfl
      have hs2:D.sto 1 (.st (ks n (upd (fiP ss least n rs i) i ⟨lo,hg,PS,(i:Int)==OUT,false,false⟩))) (.loc 0 (i*6+5)) (B (decide (lo > hg)||(PS&&decide (OUT<(i:Int)))))=some (.st (ks n (upd (fiP ss least n rs i) i ⟨lo,hg,PS,(i:Int)==OUT,false,decide (lo > hg)||(PS&&decide (OUT<(i:Int)))⟩))):=ks_sto hi (by omega) (x':=⟨lo,hg,PS,(i:Int)==OUT,false,decide (lo > hg)||(PS&&decide (OUT<(i:Int)))⟩) rfl (by rw[upd_at];rfl) fun q _=>by rw[upd_upd]
      have hs3:D.sto 1 (.st (ks n (upd (fiP ss least n rs i) i ⟨lo,hg,PS,(i:Int)==OUT,false,decide (lo > hg)||(PS&&decide (OUT<(i:Int)))⟩))) (.loc 0 (i*6+4)) (B ((PS&&!TR i)||(decide (lo > hg)||(PS&&decide (OUT<(i:Int))))))=some (.st (ks n (fiP ss least n rs (i+1)))):=ks_sto hi (by omega) (x':=knAt ss least n rs i) rfl (by rw[upd_at,hkn];rfl) fun q _=>by rw[upd_upd];exact hst q
      have hl0:D.ld false 1 (.st (ks n (upd (fiP ss least n rs i) i ⟨lo,hg,PS,(i:Int)==OUT,false,false⟩))) (.loc 0 (i*6+0))=some (I lo):=ks_ld hi (by rw[upd_at];rfl)
      have hl1:D.ld false 1 (.st (ks n (upd (fiP ss least n rs i) i ⟨lo,hg,PS,(i:Int)==OUT,false,false⟩))) (.loc 0 (i*6+1))=some (I hg):=ks_ld hi (by rw[upd_at];rfl)
      have hl2:D.ld false 1 (.st (ks n (upd (fiP ss least n rs i) i ⟨lo,hg,PS,(i:Int)==OUT,false,false⟩))) (.loc 0 (i*6+2))=some (B PS):=ks_ld hi (by rw[upd_at];rfl)
      have hl3:D.ld false 1 (.st (ks n (upd (fiP ss least n rs i) i ⟨lo,hg,PS,(i:Int)==OUT,false,decide (lo > hg)||(PS&&decide (OUT<(i:Int)))⟩))) (.loc 0 (i*6+2))=some (B PS):=ks_ld hi (by rw[upd_at];rfl)
      have hl4:D.ld false 1 (.st (ks n (upd (fiP ss least n rs i) i ⟨lo,hg,PS,(i:Int)==OUT,false,decide (lo > hg)||(PS&&decide (OUT<(i:Int)))⟩))) (.loc 0 (i*6+5))=some (B (decide (lo > hg)||(PS&&decide (OUT<(i:Int))))):=ks_ld hi (by rw[upd_at];rfl)
      have he1:D.eaddr 6 (.sl 0 0 n) (In i)=some (.loc 0 (i*6)):=eaddr_sl hi
      have hix:D.idx (bl n TR) (In i)=some (B (TR i)):=bl_idx hi
      repeat' (first|(apply nrm;simp only[sbe];rfl)|(apply u_iteT;rfl;exact hli)|(apply u_chk;rfl)|(apply u_ld;rfl;rfl;(·first|exact hl0|exact hl1|exact hl2|exact hl3|exact hl4);simp only[sbe];rfl)|(apply u_idx;rfl;rfl;exact hix;simp only[sbe];rfl)|(apply u_sto;rfl;rfl;rfl;(·first|exact hs1|exact hs2|exact hs3);simp only[sbe];rfl)|(apply u_inc;rfl;omega;simp only[sbe];rfl)|(apply u_ev;(·first|exact e_ea (e_s31 rfl rfl hn) rfl he1|exact e_ci rfl rfl hix);simp only[sbe];rfl)|(apply u_ev;rfl;simp only[sbe];rfl)|(apply u_or;rfl)|(apply u_and;rfl)|refine u_join ?_|(apply u_jump;rfl;rfl)|refine at_jump ?_|refine kj rfl ?_|exact u_ret rfl rfl|(intro hz;(try simp only[sbs] at hz)))
      exact hR trivial
     ·have hli:decide ((n:Int)<(n:Int))=false:=by simp
      rw[ks_congr (n:=n) (g:=fiP ss least n rs n) (g':=knAt ss least n rs) (fun q hq=>by simp[fiP,hq])]
      repeat' (first|(apply nrm;simp only[sbe];rfl)|(apply u_iteF;rfl;exact hli)|(apply u_ev;rfl;simp only[sbe];rfl)|(apply u_jump;rfl;rfl)|refine at_jump ?_|(refine over_jump (by decide) ?_)|refine kj rfl ?_)
      exact u_ret (e_tc (e_s31 rfl rfl hn) (e_tc rfl rfl rfl) rfl) rfl

theorem c31 {f:Fld}{ss:List Src}{n:Nat}{W:List Rep}{bs:List D}(F:FOk n f.least ss)(hn:f.places=(n:Int)){L:List Nat}(hL:L.length≤1000000)(hlt:∀i,i∈L→i<W.length)(car:Int)(hK:∀r,r∈ofL W car L→ROk n ss r) :
  FSpecR Try.prog 31 (.st bs) [f.d,.lst (ss.map Src.d),.lst (W.map Rep.d),Ix L,I car] (.lst ((knR ss f.least n (ofL W car L)).map Kn.d)):=by
 obtain⟨cars,places,least⟩:=f
 simp only at hn F
 subst hn
 have h:=c31raw (cars:=cars) (W:=W) F hL hlt car hK
 have hkl:(knR ss least n (ofL W car L)).length=n:=by simp[knR]
 have h2:=FSpecW.frz (sz:=6) h ks_b0 (by rw[flat_length (enc:=Kn.cs) (sz:=6) (fun _=>rfl)];simp) (es:=(knR ss least n (ofL W car L)).map Kn.d) (by simp[hkl]) (fun i x hx=>by
  rw[List.getElem?_map] at hx
  obtain⟨r,hr,rfl⟩:=Option.map_eq_some_iff.1 hx
  refine⟨rfl,fun q c hc=>?_⟩
  obtain⟨t,ht⟩:=flat_drop (enc:=Kn.cs) (sz:=6) (fun _=>rfl) hr
  have hc':r.cs[q]? = some c:=hc
  have e:(List.range n).map (knAt ss least n (ofL W car L))=knR ss least n (ofL W car L):=rfl
  rw[e,←List.getElem?_drop,ht,List.getElem?_append_left (List.getElem?_eq_some_iff.1 hc').1]
  exact hc')
 have n1:(D.agg [I cars,In n,Is least]).noid=true:=noid_fld ⟨cars,(n:Int),least⟩
 have n2:=noid_srcs ss
 have n3:=noid_reps W
 have n4:(Ix L).noid=true:=by
  simp only[D.noid]
  exact noid_map (fun _=>rfl) L
 have n5:(D.lst ((knR ss least n (ofL W car L)).map Kn.d)).noid=true:=by
  simp only[D.noid]
  exact noid_map (fun _=>rfl) _
 exact FSpecWO.localize h2 (by simp only[noids,n1,n2,n3,n4,Bool.true_and,Bool.and_true];rfl) n5 bs

end Go.Am.Wr

/-
 The specification: On,Time;what it tells of a log.
-/
namespace Go.Am.Wr
open Go.Proofs
set_option maxRecDepth 100000
set_option maxHeartbeats 4000000

attribute [local irreducible] inR

variable {bs:List D} {n j:Nat} {f:Fld} {ss:List Src} {W rs:List Rep}

theorem ofL_idx (W:List Rep)(t car:Int):ofL W car (idxP W t)=ofCar W t car:=by
 unfold ofL
 rw[idxP_map]
 rfl

theorem evN0 {env:List D}:evalAll env []=some []:=rfl
theorem evNc {env:List D}{x:E}{xs:List E}{d:D}{ds:List D}(hx:x.eval env=some d)(hd:d.noid=true)(h:evalAll env xs=some ds):evalAll env (E.m4 .noids x .nil .nil .nil :: xs)=some (d :: ds):=by
 simp only[evalAll,ev_noids hx hd,h,Option.bind_some,Option.map_some]

theorem noid_Ix (L:List Nat):(Ix L).noid=true:=by
 simp only[D.noid]
 exact noid_map (fun _=>rfl) L
theorem noid_I (x:Int):(I x).noid=true:=rfl
theorem noid_kns (l:List Kn):(D.lst (l.map Kn.d)).noid=true:=by
 simp only[D.noid]
 exact noid_map (fun _=>rfl) l
theorem noid_qs (l:List (Nat×Nat)):(D.lst (l.map qD)).noid=true:=by
 simp only[D.noid]
 exact noid_map (fun _=>rfl) l

theorem idxP_lt {W:List Rep}{t:Int}{i:Nat}(h:i∈idxP W t):i<W.length:=by
 unfold idxP at h
 simpa using(List.mem_filter.1 h).1

theorem idxP_rise (W:List Rep)(t:Int):(idxP W t).Pairwise (·< ·):=List.Pairwise.filter _ List.pairwise_lt_range

structure WOk (n:Nat)(f:Fld)(ss:List Src)(W:List Rep):Prop where
 fok:FOk n f.least ss
 pl:f.places=(n:Int)
 cars:1≤f.cars∧f.cars≤200
 ord:Ord W
 right:∀r,r∈W→rightB f ss r=true
 len:W.length≤3000

theorem WOk.low (h:WOk n f ss W):Low W:=fun r hr hk=>by
 have:=right_bd (h.right r hr)
 omega

theorem WOk.rok (h:WOk n f ss W){r:Rep}(hr:r∈W)(hk:r.kind≠4):ROk n ss r:=by
 have:=right_bd (h.right r hr)
 have hp:=h.pl
 exact⟨this.1,by omega,by omega,by omega⟩

theorem WOk.carok (h:WOk n f ss W){t car:Int}:∀r,r∈ofCar W t car→ROk n ss r:=fun r hr=>by
 obtain⟨h1,h2,h3,h4⟩:=mem_car.1 hr
 exact h.rok h1 h3

theorem c31W (h:WOk n f ss W)(t car:Int):FSpecR Try.prog 31 (.st bs) [f.d,.lst (ss.map Src.d),.lst (W.map Rep.d),Ix (idxP W t),I car] (.lst ((knR ss f.least n (ofCar W t car)).map Kn.d)):=by
 have hl:=h.len
 have hi:=idx_le W t
 have:=c31 (bs:=bs) h.fok h.pl (L:=idxP W t) (by omega) (fun i hi=>idxP_lt hi) car (by rw[ofL_idx];exact h.carok)
 rw[ofL_idx] at this
 exact this

theorem c32W (h:WOk n f ss W)(t:Int):FSpecR Try.prog 32 (.st bs) [.lst (W.map Rep.d),I t] (Ix (idxP W t)):=c32 (by have:=h.len;omega) h.ord h.low t

theorem c43W (h:WOk n f ss W)(src:Int):FSpecR Try.prog 43 (.st bs) [.lst (W.map Rep.d),I src] (Is (gapsR W src)):=c43 (by have:=h.len;omega) (fun r hr=>(right_bd (h.right r hr)).2.1) h.ord src

theorem pas_eq (W:List Rep)(t car place:Int):pasN W (idxP W t) car place=idxB W t car place:=by
 unfold pasN idxB idxC
 rw[List.filter_filter]
 refine List.filter_congr fun i _=>?_
 unfold okC
 cases h1:(rAt W i).kind==1
 ·simp
 ·have h2:((rAt W i).kind != 4)=true:=by simp at h1 ⊢;omega
  rw[h2]
  cases(rAt W i).car==car <;> cases(rAt W i).place==place <;> rfl

theorem idxB_lt {W:List Rep}{t car place:Int}{i:Nat}(h:i∈idxB W t car place):i<W.length:=idxC_lt (List.mem_filter.1 h).1

theorem best_eq (h:WOk n f ss W)(t car place:Int):bestR ss W (idxB W t car place)=bestN ss W t car place:=by
 have hr:(idxB W t car place).Pairwise (·< ·):=List.Pairwise.filter _ (List.Pairwise.filter _ (idxP_rise W t))
 unfold bestR bestN
 have e:pick (fun a b=>lessR ss (rAt W a) (rAt W b)) (idxB W t car place)=pick (fun a b=>less4 ss (rAt W a) (rAt W b)) (idxB W t car place):=pick_eq hr fun b i hb hi=>by
  have hi':=idxB_lt hi
  have hb':b<W.length:=by omega
  have:=List.pairwise_iff_getElem.1 h.ord b i hb' hi' hb
  rw[rAt_get hi',rAt_get hb']
  exact(less4_eq this).symm
 rw[e]
 try rfl

theorem c49W (h:WOk n f ss W)(t car place:Int):FSpecR Try.prog 49 (.st bs) [.lst (ss.map Src.d),.lst (W.map Rep.d),Ix (idxP W t),I car,I place] (I (bestN ss W t car place)):=by
 have hl:=h.len
 have hi:=idx_le W t
 have:=c49 (bs:=bs) (ss:=ss) (W:=W) (L:=idxP W t) (by omega) (fun i hi=>idxP_lt hi) (fun i hi=>by
  rw[rAt_get (idxP_lt hi)]
  exact(right_bd (h.right _ (List.getElem_mem _))).1) car place
 rw[pas_eq,best_eq h] at this
 exact this

def timeB (f:Fld)(ss:List Src)(n:Nat)(W:List Rep)(t car place:Int):Bool:=(!(knP f ss n W t car place.toNat).passed||(knP f ss n W t car place.toNat).wrong)||(((idxB W t car place).length:Int)==0)

theorem ea_kn' {l:List Rep}{place:Int}(h:0≤place∧place<(n:Int)):D.eaddr 6 (.lst ((knR ss f.least n l).map Kn.d)) (I place)=some (.ptr (knAt ss f.least n l place.toNat).cs):=ea_kn (f:=f) h

theorem c48W (h:WOk n f ss W)(t car place:Int)(hpl:0≤place∧place<(n:Int)):FSpecR Try.prog 48 (.st bs) [f.d,.lst (ss.map Src.d),.lst (W.map Rep.d),Ix (idxP W t),I car,I place] (.tup (if timeB f ss n W t car place=true then[I 0,I 0,B false] else[I (knP f ss n W t car place.toNat).low,I (knP f ss n W t car place.toNat).high,B true])):=by
 have hl:=h.len
 have hi:=idx_le W t
 have h31:=c31W (bs:=[]) h t car
 have h79:=c79 (bs:=bs) (W:=W) (L:=idxP W t) (by omega) (fun i hi=>idxP_lt hi) car place
 rw[pas_eq] at h79
 have hea:=ea_kn' (f:=f) (ss:=ss) (l:=ofCar W t car) hpl
 have hev:∀{env:List D} {x0 x1 x2 x3 x4:E},x0.eval env=some f.d→x1.eval env=some (.lst (ss.map Src.d))→x2.eval env=some (.lst (W.map Rep.d))→x3.eval env=some (Ix (idxP W t))→x4.eval env=some (I car)→evalAll env [E.m4 .noids x0 .nil .nil .nil,E.m4 .noids x1 .nil .nil .nil,E.m4 .noids x2 .nil .nil .nil,E.m4 .noids x3 .nil .nil .nil,E.m4 .noids x4 .nil .nil .nil]=some [f.d,.lst (ss.map Src.d),.lst (W.map Rep.d),Ix (idxP W t),I car]:=fun a b c d e=>evNc a (noid_fld f) (evNc b (noid_srcs ss) (evNc c (noid_reps W) (evNc d (noid_Ix _) (evNc e rfl evN0))))
 cases hc:timeB f ss n W t car place
 ·have hc':=hc
  unfold timeB knP at hc'
  refine ku48.R rfl rfl ?_
  unfold u48
  simp only[ups_cons,ups_nil,List.cons_append,List.nil_append]
  repeat' (first|(apply nrm;simp only[sbe];rfl)|(apply u_iteF;rfl;exact hc')|(apply u_chk;rfl)|(apply u_eaddr;rfl;rfl;exact hea;simp only[sbe];rfl)|(apply u_lenL;rfl;exact lenL_map;simp only[sbe];rfl)|(apply u_ev;rfl;simp only[sbe];rfl)|(apply u_call;rfl;rfl;exact h79;rfl;simp only[sbe];rfl)|(apply u_call;rfl;exact hev rfl rfl rfl rfl rfl;exact h31;rfl;simp only[sbe];rfl)|(apply u_or;rfl)|exact u_ret rfl rfl|(intro hz;(try simp only[sbs] at hz)))
 ·have hc':=hc
  unfold timeB knP at hc'
  refine ku48.R rfl rfl ?_
  unfold u48
  simp only[ups_cons,ups_nil,List.cons_append,List.nil_append]
  repeat' (first|(apply nrm;simp only[sbe];rfl)|(apply u_iteT;rfl;exact hc')|(apply u_chk;rfl)|(apply u_eaddr;rfl;rfl;exact hea;simp only[sbe];rfl)|(apply u_lenL;rfl;exact lenL_map;simp only[sbe];rfl)|(apply u_ev;rfl;simp only[sbe];rfl)|(apply u_call;rfl;rfl;exact h79;rfl;simp only[sbe];rfl)|(apply u_call;rfl;exact hev rfl rfl rfl rfl rfl;exact h31;rfl;simp only[sbe];rfl)|(apply u_or;rfl)|exact u_ret rfl rfl|(intro hz;(try simp only[sbs] at hz)))

end Go.Am.Wr
