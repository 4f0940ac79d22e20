/-
  Several texts, one behind the other.
-/
import Derived.Test.YtgebemgmpfpjbaaWrU1toWrE1
import Derived.Test.YtgebemgmpfpjbaaAmKilltoAmGen
import Derived.Test.YtgebemgmpfpjbaaAmOpentoAmSt2
import Derived.Shelf.SlGeneric
import Derived.Shelf.SlSortCmp.WholeK
import Derived.Shelf.SlMaps.Clone
import Derived.Ground.SlsfProg
import Derived.Ground.SlmcProg
import Derived.Test.YtgebemgmpfpjbaaProg
set_option linter.unusedSimpArgs false
set_option linter.unusedVariables false
/-
 The iterators: the counting reports of a car;all reports from the last one on.
-/
namespace Go.Am.Wr
open Go.Proofs
set_option maxRecDepth 100000
set_option maxHeartbeats 4000000

variable {bs:List D}

def ncs (i:Nat):List D:=[In i]

def rAt (W:List Rep)(i:Nat):Rep:=W.getD i ⟨0,0,0,0,0,0,0⟩

theorem rAt_get {W:List Rep}{i:Nat}(h:i<W.length):rAt W i=W[i]:=by simp[rAt,h]

def okC (car:Int)(r:Rep):Bool:=r.kind != 4&&r.car==car

structure ViewAt (bs:List D)(v j:Nat)(W:List Rep)(s:D)(idx:List Nat):Prop where
 blk:bs[v]? = some (.blk 121 3 [.loc j 0,.lst (W.map Rep.d),s])
 sl:SlOf bs 3 1 ncs s idx
 lt:∀i,i∈idx→i<W.length

theorem c69 (v:Nat)(car:Int):FSpecR Try.prog 69 (.st bs) [.loc v 0,I car] (.fn 95 [] [.ptr [.loc v 0],.ptr [I car]]):=by
 refine ku69.R rfl rfl ?_
 unfold u69
 simp only[ups_cons,ups_nil,List.cons_append,List.nil_append]
 repeat' (first|(apply u_ev;rfl;simp only[sbe];rfl)|exact u_ret rfl rfl)

theorem c91 (W:List Rep):FSpecW Try.prog 91 (.st bs) [.lst (W.map Rep.d)] (.fn 116 [] [.ptr [.lst (W.map Rep.d)]]) (.st bs):=by
 refine ku91.W rfl ?_
 unfold u91
 simp only[ups_cons,ups_nil,List.cons_append,List.nil_append]
 repeat' (first|(apply u_ev;rfl;simp only[sbe];rfl)|exact u_ret rfl rfl)

theorem c95 {v j:Nat} {W:List Rep} {s:D} {idx:List Nat} {car:Int} (f:Nat→List D) (hV:∀k,k≤idx.length→ViewAt (f k) v j W s idx) (hL:idx.length≤1000000) {m0:Nat} {rec:Loop} {sl:List Nat} {cds:List D}
  (hy:∀k (h:k<idx.length),okC car (rAt W idx[k])=true→YSpec Try.prog (.yl m0 rec sl cds) (.st (f k)) [In idx[k],(rAt W idx[k]).d] (.st (f (k+1)))) (hn:∀k (h:k<idx.length),okC car (rAt W idx[k])=false→f (k+1)=f k) :
  FSpecW Try.prog 95 (.st (f 0)) [.yl m0 rec sl cds,.ptr [.loc v 0],.ptr [I car]] (.tup []) (.st (f idx.length)):=by
 have h0:=hV 0 (Nat.zero_le _)
 refine ku95.W rfl ?_
 unfold u95
 simp only[ups_cons,ups_nil,List.cons_append,List.nil_append]
 repeat' (first|(apply u_chk;rfl)|(apply u_ld;rfl;rfl;exact ld_blk h0.blk rfl;simp only[sbe];rfl)|(apply u_lenL;rfl;exact h0.sl.len;simp only[sbe];rfl)|(apply u_ev;rfl;simp only[sbe];rfl)|refine u_join ?_)
 refine u_range (fun i=>[I i,.st (f i)]) (fun _=>True) idx.length rfl (fun _=>rfl) trivial (fun i hi _ R hR=>?_) (fun _ R=>?_)
 ·have hA:=hV i (by omega)
  obtain⟨b,rfl,hb⟩:=hA.sl.get hi
  have hil:=hA.lt _ (List.getElem_mem hi)
  have hr:=rAt_get hil
  have hcl:decide ((i:Int)<(idx.length:Int))=true:=by simp;omega
  have hd:D.eaddr 7 (.lst (W.map Rep.d)) (In idx[i])=some (.ptr (rAt W idx[i]).cs):=by rw[hr];exact eaddr_get hil rfl
  cases hok:okC car (rAt W idx[i])
  ·have e:=hn i hi hok
   have hok1:((rAt W idx[i]).kind != 4&&(rAt W idx[i]).car==car)=false:=hok
   have hok2:((rAt W idx[i]).kind != 4&&(rAt W idx[i]).car==car&&!false)=false:=by rw[hok1];rfl
   repeat' (first|(apply nrm;simp only[sbe];rfl)|((apply u_genTN (.v (.bool false)));rfl;exact hok1;rfl;simp only[sbe];rfl)|(apply u_iteT;rfl;exact hcl)|(apply u_iteF;rfl;exact hok2)|(apply u_chk;rfl)|(apply u_ld;rfl;rfl;(·first|exact ld_el0 hb (fun _=>rfl) (List.getElem?_eq_getElem hi) rfl|exact ld_blk hA.blk rfl);simp only[sbe];rfl)|(apply u_eaddr;rfl;rfl;(·first|exact eaddr_sl hi|exact hd);simp only[sbe];rfl)|(apply u_inc;rfl;omega;simp only[sbe];rfl)|(apply u_ev;rfl;simp only[sbe];rfl)|(apply u_and;rfl)|refine u_join ?_|(apply u_jump;rfl;rfl)|refine at_jump ?_|refine kj rfl ?_|exact u_ret rfl rfl|(intro hz;(try simp only[sbs] at hz)))
   rw[←e]
   exact hR trivial
  ·have hok1:((rAt W idx[i]).kind != 4&&(rAt W idx[i]).car==car)=true:=hok
   have hok2:((rAt W idx[i]).kind != 4&&(rAt W idx[i]).car==car&&!true)=false:=by rw[hok1];rfl
   repeat' (first|(apply nrm;simp only[sbe];rfl)|(apply u_genT;rfl;exact hok1;rfl;rfl;rfl;(·exact⟨rfl,hy i hi hok⟩);rfl;simp only[sbe];rfl)|(apply u_iteT;rfl;exact hcl)|(apply u_iteF;rfl;exact hok2)|(apply u_chk;rfl)|(apply u_ld;rfl;rfl;(·first|exact ld_el0 hb (fun _=>rfl) (List.getElem?_eq_getElem hi) rfl|exact ld_blk hA.blk rfl);simp only[sbe];rfl)|(apply u_eaddr;rfl;rfl;(·first|exact eaddr_sl hi|exact hd);simp only[sbe];rfl)|(apply u_inc;rfl;omega;simp only[sbe];rfl)|(apply u_ev;rfl;simp only[sbe];rfl)|(apply u_and;rfl)|refine u_join ?_|(apply u_jump;rfl;rfl)|refine at_jump ?_|refine kj rfl ?_|exact u_ret rfl rfl|(intro hz;(try simp only[sbs] at hz)))
   exact hR trivial
 ·have hcl:decide ((idx.length:Int)<(idx.length:Int))=false:=by simp
  repeat' (first|(apply nrm;simp only[sbe];rfl)|(apply u_iteF;rfl;exact hcl)|(apply u_ev;rfl;simp only[sbe];rfl)|(apply u_jump;rfl;rfl)|refine at_jump ?_|(refine over_jump (by decide) ?_)|refine kj rfl ?_|exact u_ret rfl rfl)

theorem c116 {W:List Rep} (f:Nat→List D) (hL:W.length≤1000000) {m0:Nat} {rec:Loop} {sl:List Nat} {cds:List D}
  (hy:∀k (h:k<W.length),YSpec Try.prog (.yl m0 rec sl cds) (.st (f k)) [In (W.length-1-k),(W[W.length-1-k]).d] (.st (f (k+1)))) :
  FSpecW Try.prog 116 (.st (f 0)) [.yl m0 rec sl cds,.ptr [.lst (W.map Rep.d)]] (.tup []) (.st (f W.length)):=by
 refine ku116.W rfl ?_
 unfold u116
 simp only[ups_cons,ups_nil,List.cons_append,List.nil_append]
 repeat' (first|(apply u_lenL;rfl;exact lenL_map;simp only[sbe];rfl)|(apply u_sub;rfl;rfl;omega;simp only[sbe];rfl)|(apply u_ev;rfl;simp only[sbe];rfl)|refine u_join ?_)
 refine u_range (fun i=>[I ((W.length:Int)-1-i),.st (f i)]) (fun _=>True) W.length (by simp[evalAll,E.eval]) (fun _=>rfl) trivial (fun i hi _ R hR=>?_) (fun _ R=>?_)
 ·have hcl:decide ((W.length:Int)-1-(i:Int)≥0)=true:=by simp;omega
  have e1:(W.length:Int)-1-(i:Int)=((W.length-1-i:Nat):Int):=by omega
  have hd:D.eaddr 7 (.lst (W.map Rep.d)) (I ((W.length:Int)-1-i))=some (.ptr (W[W.length-1-i]).cs):=by rw[e1];exact eaddr_get (by omega) rfl
  have hyi:=hy i hi
  simp only[In,←e1] at hyi
  repeat' (first|(apply nrm;simp only[sbe];rfl)|(apply u_gen0;rfl;rfl;rfl;(·exact⟨rfl,hyi⟩);rfl;simp only[sbe];rfl)|(apply u_iteT;rfl;exact hcl)|(apply u_iteF;rfl;exact rfl)|(apply u_eaddr;rfl;rfl;exact hd;simp only[sbe];rfl)|(apply u_sub;rfl;rfl;omega;simp only[sbe];rfl)|(apply u_ev;rfl;simp only[sbe];rfl)|refine u_join ?_|(apply u_jump;rfl;rfl)|refine at_jump ?_|refine kj rfl ?_)
  have e2:(W.length:Int)-1-(i:Int)-1=(W.length:Int)-1-((i+1:Nat):Int):=by omega
  rw[e2]
  exact hR trivial
 ·have hcl:decide ((W.length:Int)-1-(W.length:Int)≥0)=false:=by simp;omega
  repeat' (first|(apply nrm;simp only[sbe];rfl)|(apply u_iteF;rfl;exact hcl)|(apply u_ev;rfl;simp only[sbe];rfl)|(apply u_jump;rfl;rfl)|refine at_jump ?_|(refine over_jump (by decide) ?_)|refine kj rfl ?_|exact u_ret rfl rfl)

end Go.Am.Wr

/-
 What the wire's small functions answer.
-/
namespace Go.Am.Wr
open Go.Proofs
set_option maxRecDepth 100000
set_option maxHeartbeats 4000000

variable {bs:List D}

def inR (x lo hi:Int):Bool:=decide (lo≤x)&&decide (x≤hi)

theorem c75 (x lo hi:Int):FSpecR Try.prog 75 (.st bs) [I x,I lo,I hi] (B (inR x lo hi)):=by
 refine ku75.R rfl rfl ?_
 unfold u75
 simp only[ups_cons,ups_nil,List.cons_append,List.nil_append]
 repeat' (first|(apply nrm;simp only[sbe];rfl)|(apply u_ev;rfl;simp only[sbe];rfl)|(apply u_and;rfl)|exact u_ret rfl rfl|(intro hz;(try simp only[sbs] at hz)))

attribute [local irreducible] inR

def fi {α:Type}(P:α→Bool)(l:List α):Int:=match l.findIdx? P with
 | some i=>i
 | none=>-1

theorem fi_at {α:Type}{P:α→Bool}{l:List α}{i:Nat}(hi:i<l.length)(hP:P l[i]=true)(hn:∀k (h:k<i),P (l[k]'(by omega))=false):fi P l=i:=by
 have:l.findIdx? P=some i:=by
  rw[List.findIdx?_eq_some_iff_getElem]
  exact⟨hi,hP,fun j hj=>by simp[hn j hj]⟩
 simp[fi,this]

theorem fi_no {α:Type}{P:α→Bool}{l:List α}(hn:∀a,a∈l→P a=false):fi P l=-1:=by
 have:l.findIdx? P=none:=by
  rw[List.findIdx?_eq_none_iff]
  exact hn
 simp[fi,this]

theorem fi_any {α:Type}(P:α→Bool)(l:List α):decide (fi P l≥0)=l.any P:=by
 cases h:l.findIdx? P with
 | none=>
  have h2:=List.findIdx?_eq_none_iff.1 h
  have:l.any P=false:=by
   rw[List.any_eq_false]
   intro x hx
   simp[h2 x hx]
  rw[this]
  simp[fi,h]
 | some i=>
  obtain⟨h1,h2,_⟩:=List.findIdx?_eq_some_iff_getElem.1 h
  have:l.any P=true:=List.any_eq_true.2 ⟨_,List.getElem_mem h1,h2⟩
  rw[this]
  simp[fi,h]


theorem c102 {P:Int→Bool}{f:Nat}{us cs:List D}{l:List Int}(hL:l.length≤1000000000)(hc:callable Try.prog f=true)(hf:∀x,x∈l→FSpecR Try.prog f (.st bs) (us++[I x]++cs) (B (P x))):FSpecR Try.prog 102 (.st bs) [.lst (l.map I),.fn f us cs] (I (fi P l)):=by
 refine ku102.R rfl rfl ?_
 unfold u102
 simp only[ups_cons,ups_nil,List.cons_append,List.nil_append]
 repeat' (first|(apply u_lenL;rfl;exact lenL_map;simp only[sbe];rfl)|refine u_join ?_)
 refine u_range (fun i=>[I i]) (fun i=>∀k (h:k<i) (h2:k<l.length),P l[k]=false) l.length rfl (fun _=>rfl) (fun k h=>absurd h (Nat.not_lt_zero _)) (fun i hi hJ R hR=>?_) (fun hJ R=>?_)
 ·have hcal:=hf l[i] (List.getElem_mem hi)
  have hli:decide ((i:Int)<(l.length:Int))=true:=by simp;omega
  cases hP:P l[i]
  ·rw[hP] at hcal
   repeat' (first|(apply nrm;simp only[sbe];rfl)|(apply u_iteT;rfl;exact hli)|(apply u_iteF;rfl;exact rfl)|(apply u_eaddr;rfl;rfl;exact eaddr_get hi rfl;simp only[sbe];rfl)|(apply u_inc;rfl;omega;simp only[sbe];rfl)|(apply u_ev;rfl;simp only[sbe];rfl)|(apply u_callv;rfl;exact hc;rfl;rfl;exact hcal;rfl;simp only[sbe];rfl)|refine u_join ?_|(apply u_jump;rfl;rfl)|refine at_jump ?_|refine kj rfl ?_)
   refine hR fun k hk h2=>?_
   rcases Nat.lt_or_ge k i with h3 | h3
   ·exact hJ k h3 h2
   ·have e:k=i:=by omega
    subst e
    exact hP
  ·rw[hP] at hcal
   repeat' (first|(apply nrm;simp only[sbe];rfl)|(apply u_iteT;rfl;(·first|exact hli|exact rfl))|(apply u_eaddr;rfl;rfl;exact eaddr_get hi rfl;simp only[sbe];rfl)|(apply u_ev;rfl;simp only[sbe];rfl)|(apply u_callv;rfl;exact hc;rfl;rfl;exact hcal;rfl;simp only[sbe];rfl)|refine u_join ?_|(apply u_ret;rfl;first|exact rfl|(refine retB ?_)|(refine retI ?_)|(refine retD ?_)))
   exact(fi_at hi hP fun k hk=>hJ k hk (by omega)).symm
 ·repeat' (first|(apply nrm;simp only[sbe];rfl)|(apply u_ev;rfl;simp only[sbe];rfl)|(apply u_jump;rfl;rfl)|refine at_jump ?_|(refine over_jump (by decide) ?_)|refine kj rfl ?_|(apply u_ite;rfl;all_goals (intro hz;(try simp only[sbs] at hz);first|(exact absurd hz (by decide))|(exfalso;omega)|skip))|(apply u_ret;rfl;first|exact rfl|(refine retB ?_)|(refine retI ?_)|(refine retD ?_)))
  refine(fi_no fun a ha=>?_).symm
  obtain⟨k,hk,rfl⟩:=List.mem_iff_getElem.1 ha
  exact hJ k hk hk

theorem c103 {P:Src→Bool}{f:Nat}{us cs:List D}{l:List Src}(hL:l.length≤1000000000)(hc:callable Try.prog f=true)(hf:∀x,x∈l→FSpecR Try.prog f (.st bs) (us++[Src.d x]++cs) (B (P x))):FSpecR Try.prog 103 (.st bs) [.lst (l.map Src.d),.fn f us cs] (I (fi P l)):=by
 refine ku103.R rfl rfl ?_
 unfold u103
 simp only[ups_cons,ups_nil,List.cons_append,List.nil_append]
 repeat' (first|(apply u_lenL;rfl;exact lenL_map;simp only[sbe];rfl)|refine u_join ?_)
 refine u_range (fun i=>[I i]) (fun i=>∀k (h:k<i) (h2:k<l.length),P l[k]=false) l.length rfl (fun _=>rfl) (fun k h=>absurd h (Nat.not_lt_zero _)) (fun i hi hJ R hR=>?_) (fun hJ R=>?_)
 ·have hcal:=hf l[i] (List.getElem_mem hi)
  have hli:decide ((i:Int)<(l.length:Int))=true:=by simp;omega
  cases hP:P l[i]
  ·rw[hP] at hcal
   repeat' (first|(apply nrm;simp only[sbe];rfl)|(apply u_iteT;rfl;exact hli)|(apply u_iteF;rfl;exact rfl)|(apply u_eaddr;rfl;rfl;exact eaddr_get hi rfl;simp only[sbe];rfl)|(apply u_inc;rfl;omega;simp only[sbe];rfl)|(apply u_ev;rfl;simp only[sbe];rfl)|(apply u_callv;rfl;exact hc;rfl;rfl;exact hcal;rfl;simp only[sbe];rfl)|refine u_join ?_|(apply u_jump;rfl;rfl)|refine at_jump ?_|refine kj rfl ?_)
   refine hR fun k hk h2=>?_
   rcases Nat.lt_or_ge k i with h3 | h3
   ·exact hJ k h3 h2
   ·have e:k=i:=by omega
    subst e
    exact hP
  ·rw[hP] at hcal
   repeat' (first|(apply nrm;simp only[sbe];rfl)|(apply u_iteT;rfl;(·first|exact hli|exact rfl))|(apply u_eaddr;rfl;rfl;exact eaddr_get hi rfl;simp only[sbe];rfl)|(apply u_ev;rfl;simp only[sbe];rfl)|(apply u_callv;rfl;exact hc;rfl;rfl;exact hcal;rfl;simp only[sbe];rfl)|refine u_join ?_|(apply u_ret;rfl;first|exact rfl|(refine retB ?_)|(refine retI ?_)|(refine retD ?_)))
   exact(fi_at hi hP fun k hk=>hJ k hk (by omega)).symm
 ·repeat' (first|(apply nrm;simp only[sbe];rfl)|(apply u_ev;rfl;simp only[sbe];rfl)|(apply u_jump;rfl;rfl)|refine at_jump ?_|(refine over_jump (by decide) ?_)|refine kj rfl ?_|(apply u_ite;rfl;all_goals (intro hz;(try simp only[sbs] at hz);first|(exact absurd hz (by decide))|(exfalso;omega)|skip))|(apply u_ret;rfl;first|exact rfl|(refine retB ?_)|(refine retI ?_)|(refine retD ?_)))
  refine(fi_no fun a ha=>?_).symm
  obtain⟨k,hk,rfl⟩:=List.mem_iff_getElem.1 ha
  exact hJ k hk hk

theorem c84 {P:Rep→Bool}{f:Nat}{us cs:List D}{l:List Rep}(hL:l.length≤1000000000)(hc:callable Try.prog f=true)(hf:∀x,x∈l→FSpecR Try.prog f (.st bs) (us++[Rep.d x]++cs) (B (P x))):FSpecR Try.prog 84 (.st bs) [.lst (l.map Rep.d),.fn f us cs] (I (fi P l)):=by
 refine ku84.R rfl rfl ?_
 unfold u84
 simp only[ups_cons,ups_nil,List.cons_append,List.nil_append]
 repeat' (first|(apply u_lenL;rfl;exact lenL_map;simp only[sbe];rfl)|refine u_join ?_)
 refine u_range (fun i=>[I i]) (fun i=>∀k (h:k<i) (h2:k<l.length),P l[k]=false) l.length rfl (fun _=>rfl) (fun k h=>absurd h (Nat.not_lt_zero _)) (fun i hi hJ R hR=>?_) (fun hJ R=>?_)
 ·have hcal:=hf l[i] (List.getElem_mem hi)
  have hli:decide ((i:Int)<(l.length:Int))=true:=by simp;omega
  cases hP:P l[i]
  ·rw[hP] at hcal
   repeat' (first|(apply nrm;simp only[sbe];rfl)|(apply u_iteT;rfl;exact hli)|(apply u_iteF;rfl;exact rfl)|(apply u_eaddr;rfl;rfl;exact eaddr_get hi rfl;simp only[sbe];rfl)|(apply u_inc;rfl;omega;simp only[sbe];rfl)|(apply u_ev;rfl;simp only[sbe];rfl)|(apply u_callv;rfl;exact hc;rfl;rfl;exact hcal;rfl;simp only[sbe];rfl)|refine u_join ?_|(apply u_jump;rfl;rfl)|refine at_jump ?_|refine kj rfl ?_)
   refine hR fun k hk h2=>?_
   rcases Nat.lt_or_ge k i with h3 | h3
   ·exact hJ k h3 h2
   ·have e:k=i:=by omega
    subst e
    exact hP
  ·rw[hP] at hcal
   repeat' (first|(apply nrm;simp only[sbe];rfl)|(apply u_iteT;rfl;(·first|exact hli|exact rfl))|(apply u_eaddr;rfl;rfl;exact eaddr_get hi rfl;simp only[sbe];rfl)|(apply u_ev;rfl;simp only[sbe];rfl)|(apply u_callv;rfl;exact hc;rfl;rfl;exact hcal;rfl;simp only[sbe];rfl)|refine u_join ?_|(apply u_ret;rfl;first|exact rfl|(refine retB ?_)|(refine retI ?_)|(refine retD ?_)))
   exact(fi_at hi hP fun k hk=>hJ k hk (by omega)).symm
 ·repeat' (first|(apply nrm;simp only[sbe];rfl)|(apply u_ev;rfl;simp only[sbe];rfl)|(apply u_jump;rfl;rfl)|refine at_jump ?_|(refine over_jump (by decide) ?_)|refine kj rfl ?_|(apply u_ite;rfl;all_goals (intro hz;(try simp only[sbs] at hz);first|(exact absurd hz (by decide))|(exfalso;omega)|skip))|(apply u_ret;rfl;first|exact rfl|(refine retB ?_)|(refine retI ?_)|(refine retD ?_)))
  refine(fi_no fun a ha=>?_).symm
  obtain⟨k,hk,rfl⟩:=List.mem_iff_getElem.1 ha
  exact hJ k hk hk


theorem c80 {P:Int→Bool}{f:Nat}{us cs:List D}{l:List Int}(hL:l.length≤1000000000)(hc:callable Try.prog f=true)(hf:∀x,x∈l→FSpecR Try.prog f (.st bs) (us++[I x]++cs) (B (P x))):FSpecR Try.prog 80 (.st bs) [.lst (l.map I),.fn f us cs] (B (l.any P)):=by
 refine ku80.R rfl rfl ?_
 unfold u80
 simp only[ups_cons,ups_nil,List.cons_append,List.nil_append]
 repeat' (first|(apply u_ev;rfl;simp only[sbe];rfl)|(apply u_call;rfl;rfl;exact c102 hL hc hf;rfl;simp only[sbe];rfl)|(apply u_ret;rfl;first|exact rfl|(refine retB ?_)|(refine retI ?_)|(refine retD ?_)))
 exact fi_any P l

theorem c82 {P:Src→Bool}{f:Nat}{us cs:List D}{l:List Src}(hL:l.length≤1000000000)(hc:callable Try.prog f=true)(hf:∀x,x∈l→FSpecR Try.prog f (.st bs) (us++[Src.d x]++cs) (B (P x))):FSpecR Try.prog 82 (.st bs) [.lst (l.map Src.d),.fn f us cs] (B (l.any P)):=by
 refine ku82.R rfl rfl ?_
 unfold u82
 simp only[ups_cons,ups_nil,List.cons_append,List.nil_append]
 repeat' (first|(apply u_ev;rfl;simp only[sbe];rfl)|(apply u_call;rfl;rfl;exact c103 hL hc hf;rfl;simp only[sbe];rfl)|(apply u_ret;rfl;first|exact rfl|(refine retB ?_)|(refine retI ?_)|(refine retD ?_)))
 exact fi_any P l

theorem c56 {P:Rep→Bool}{f:Nat}{us cs:List D}{l:List Rep}(hL:l.length≤1000000000)(hc:callable Try.prog f=true)(hf:∀x,x∈l→FSpecR Try.prog f (.st bs) (us++[Rep.d x]++cs) (B (P x))):FSpecR Try.prog 56 (.st bs) [.lst (l.map Rep.d),.fn f us cs] (B (l.any P)):=by
 refine ku56.R rfl rfl ?_
 unfold u56
 simp only[ups_cons,ups_nil,List.cons_append,List.nil_append]
 repeat' (first|(apply u_ev;rfl;simp only[sbe];rfl)|(apply u_call;rfl;rfl;exact c84 hL hc hf;rfl;simp only[sbe];rfl)|(apply u_ret;rfl;first|exact rfl|(refine retB ?_)|(refine retI ?_)|(refine retD ?_)))
 exact fi_any P l

theorem c81 (x:Int):FSpecR Try.prog 81 (.st bs) [I x] (B (!inR x 0 100000000)):=by
 refine ku81.R rfl rfl ?_
 unfold u81
 simp only[ups_cons,ups_nil,List.cons_append,List.nil_append]
 repeat' (first|(apply u_ev;rfl;simp only[sbe];rfl)|(apply u_call;rfl;rfl;exact c75 _ _ _;rfl;simp only[sbe];rfl)|exact u_ret rfl rfl)

def srcBad (s:Src):Bool:=decide (s.kind<1)||(decide (3<s.kind)||!inR s.error 0 10000000)

theorem c83 (s:Src):FSpecR Try.prog 83 (.st bs) [s.d] (B (srcBad s)):=by
 refine ku83.R rfl rfl ?_
 unfold u83
 simp only[ups_cons,ups_nil,List.cons_append,List.nil_append]
 repeat' (first|(apply nrm;simp only[sbe];rfl)|(apply u_chk;rfl)|(apply u_ev;rfl;simp only[sbe];rfl)|(apply u_call;rfl;rfl;exact c75 _ _ _;rfl;simp only[sbe];rfl)|(apply u_or;rfl)|exact u_ret rfl rfl|(apply u_ret;rfl;first|exact rfl|(refine retB ?_)|(refine retI ?_)|(refine retD ?_))|(intro hz;(try simp only[sbs] at hz)))
 simp[srcBad,Bool.or_assoc]

def fielded (f:Fld)(ss:List Src):Bool:=
 inR f.cars 1 200&&(inR f.places 2 30&&(decide ((f.least.length:Int)=f.places-1)&&(decide ((ss.length:Int)≤50)&&(!(f.least.any fun x=>!inR x 0 100000000)&&!(ss.any srcBad)))))

theorem c51 (f:Fld)(ss:List Src)(h1:f.least.length≤1000000000)(h2:ss.length≤1000000000)(hp:i64 f.places):FSpecR Try.prog 51 (.st bs) [f.d,.lst (ss.map Src.d)] (B (fielded f ss)):=by
 refine ku51.R rfl rfl ?_
 unfold u51
 simp only[ups_cons,ups_nil,List.cons_append,List.nil_append]
 by_cases hq:inR f.places 2 30=true
 ·have hq':=hq
  unfold inR at hq'
  simp at hq'
  repeat' (first|(apply nrm;simp only[sbe];rfl)|(apply u_chk;rfl)|(apply u_lenL;rfl;exact lenL_map;simp only[sbe];rfl)|(apply u_sub;rfl;rfl;omega;simp only[sbe];rfl)|(apply u_ev;rfl;simp only[sbe];rfl)|(apply u_call;rfl;rfl;(·first|exact c75 _ _ _|exact c80 (P:=fun x=>!inR x 0 100000000) (us:=[]) (cs:=[]) h1 rfl (fun x _=>c81 x)|exact c82 (P:=srcBad) (us:=[]) (cs:=[]) h2 rfl (fun s _=>c83 s));rfl;simp only[sbe];rfl)|(apply u_or;rfl)|(apply u_and;rfl)|(apply u_ite;rfl;all_goals (intro hz;(try simp only[sbs] at hz);first|(exact absurd hz (by decide))|(exfalso;omega)|skip))|exact u_ret rfl rfl|(apply u_ret;rfl;first|exact rfl|(refine retB ?_)|(refine retI ?_)|(refine retD ?_))|(intro hz;(try simp only[sbs] at hz)))
  all_goals simp_all [fielded]
  all_goals (intros;exfalso;rcases hz with(hz | hz) | hz <;> first | (simp_all;done) | omega)
 ·repeat' (first|(apply nrm;simp only[sbe];rfl)|(apply u_chk;rfl)|(apply u_lenL;rfl;exact lenL_map;simp only[sbe];rfl)|(apply u_ev;rfl;simp only[sbe];rfl)|(apply u_call;rfl;rfl;exact c75 _ _ _;rfl;simp only[sbe];rfl)|(apply u_or;rfl)|(apply u_ite;rfl;all_goals (intro hz;(try simp only[sbs] at hz);first|(exact absurd hz (by decide))|(exfalso;omega)|skip))|exact u_ret rfl rfl|(apply u_ret;rfl;first|exact rfl|(refine retB ?_)|(refine retI ?_)|(refine retD ?_))|(intro hz;(try simp only[sbs] at hz)))
  all_goals first | (simp[fielded,hq];done) | (simp_all;done)

theorem c52 (xs:List Int)(hl:xs.length≤1000000):FSpecR Try.prog 52 (.st bs) [Is xs] (Is xs):=by
 refine ku52.R rfl rfl ?_
 unfold u52
 simp only[ups_cons,ups_nil,List.cons_append,List.nil_append]
 refine u_nilq rfl fun b hb=>?_
 have h1:=app_lst (xs:=[]) (ys:=xs) (enc:=I) (sz:=1) (bytes:=8) (by simp;omega) (by simp[maxLen];omega) (fun _=>rfl)
 repeat' (first|(apply nrm;simp only[sbe];rfl)|(apply u_app;rfl;rfl;exact h1;simp only[sbe];rfl)|(apply u_ite;rfl;all_goals (intro hz;(try simp only[sbs] at hz);first|(exact absurd hz (by decide))|(exfalso;omega)|skip))|exact u_ret rfl rfl|(apply u_ret;rfl;first|exact rfl|(refine retB ?_)|(refine retI ?_)|(refine retD ?_)))
 simp_all

theorem c53 (xs:List Src)(hl:xs.length≤1000000):FSpecR Try.prog 53 (.st bs) [.lst (xs.map Src.d)] (.lst (xs.map Src.d)):=by
 refine ku53.R rfl rfl ?_
 unfold u53
 simp only[ups_cons,ups_nil,List.cons_append,List.nil_append]
 refine u_nilq rfl fun b hb=>?_
 have h1:=app_lst (xs:=[]) (ys:=xs) (enc:=Src.d) (sz:=2) (bytes:=16) (by simp;omega) (by simp[maxLen];omega) (fun _=>rfl)
 repeat' (first|(apply nrm;simp only[sbe];rfl)|(apply u_app;rfl;rfl;exact h1;simp only[sbe];rfl)|(apply u_ite;rfl;all_goals (intro hz;(try simp only[sbs] at hz);first|(exact absurd hz (by decide))|(exfalso;omega)|skip))|exact u_ret rfl rfl|(apply u_ret;rfl;first|exact rfl|(refine retB ?_)|(refine retI ?_)|(refine retD ?_)))
 simp_all

theorem c60 (r:Rep):FSpecR Try.prog 60 (.st bs) [r.d] (plainR r).d:=by
 refine ku60.R rfl rfl ?_
 unfold u60
 simp only[ups_cons,ups_nil,List.cons_append,List.nil_append]
 repeat' (first|(apply u_chk;rfl)|exact u_ret rfl rfl)

def kvD (e:Rep×Int):D:=.tup [e.1.d,I e.2]

structure LogAt (bs:List D)(j m:Nat)(f:Fld)(ss:List Src)(kv:List (Rep×Int)):Prop where
 blk:bs[j]? = some (.blk 80 5 [I f.cars,I f.places,Is f.least,.lst (ss.map Src.d),.mp m])
 map:bs[m]? = some (.mblk (kv.map kvD))

variable {j m:Nat} {f:Fld} {ss:List Src} {kv:List (Rep×Int)}

theorem c55 (h:LogAt bs j m f ss kv):FSpecR Try.prog 55 (.st bs) [.loc j 0] (B true):=by
 refine ku55.R rfl rfl ?_
 unfold u55
 simp only[ups_cons,ups_nil,List.cons_append,List.nil_append]
 repeat' (first|(apply nrm;simp only[sbe];rfl)|(apply u_chk;rfl)|(apply u_ld;rfl;rfl;exact ld_blk h.blk rfl;simp only[sbe];rfl)|(apply u_ev;rfl;simp only[sbe];rfl)|(apply u_and;rfl)|exact u_ret rfl rfl|(intro hz;(try simp only[sbs] at hz)))

def rightB (f:Fld)(ss:List Src)(r:Rep):Bool:=
 inR r.source 0 ((ss.length:Int)-1)&&(inR r.number 0 1000000000&&(inR r.arrived 0 1000000000000 &&
  (if r.kind=4 then inR r.car 0 (r.number-1)&&(r.place==0)&&(r.time==0)
   else inR r.car 1 f.cars&&(inR r.place 0 (f.places-1) &&
   (if r.kind=1∨r.kind=2 then inR r.time 0 1000000000000 else if r.kind=3 then r.time==0 else false)))))

theorem c58 (h:LogAt bs j m f ss kv)(h2:ss.length≤1000000000)(hp:0≤f.places∧f.places≤1000000)(r:Rep):FSpecR Try.prog 58 (.st bs) [.loc j 0,r.d] (B (rightB f ss r)):=by
 refine ku58.R rfl rfl ?_
 unfold u58
 simp only[ups_cons,ups_nil,List.cons_append,List.nil_append]
 by_cases hq:inR r.number 0 1000000000=true
 ·have hq':=hq
  unfold inR at hq'
  simp at hq'
  repeat' (first|(apply nrm;simp only[sbe];rfl)|(apply u_chk;rfl)|(apply u_ld;rfl;rfl;exact ld_blk h.blk rfl;simp only[sbe];rfl)|(apply u_lenL;rfl;exact lenL_map;simp only[sbe];rfl)|(apply u_sub;rfl;rfl;omega;simp only[sbe];rfl)|(apply u_ev;rfl;simp only[sbe];rfl)|(apply u_call;rfl;rfl;exact c75 _ _ _;rfl;simp only[sbe];rfl)|(apply u_or;rfl)|(apply u_and;rfl)|refine u_join ?_|(apply u_jump;rfl;rfl)|refine at_jump ?_|refine kj rfl ?_|(apply u_ite;rfl;all_goals (intro hz;(try simp only[sbs] at hz);first|(exact absurd hz (by decide))|(exfalso;omega)|skip))|exact u_ret rfl rfl|(apply u_ret;rfl;first|exact rfl|(refine retB ?_)|(refine retI ?_)|(refine retD ?_))|(intro hz;(try simp only[sbs] at hz)))
  all_goals (unfold rightB;first | (rcases hz with hz | hz <;> simp_all <;> done) | (simp_all;done) | skip)
 ·repeat' (first|(apply nrm;simp only[sbe];rfl)|(apply u_chk;rfl)|(apply u_ld;rfl;rfl;exact ld_blk h.blk rfl;simp only[sbe];rfl)|(apply u_lenL;rfl;exact lenL_map;simp only[sbe];rfl)|(apply u_sub;rfl;rfl;omega;simp only[sbe];rfl)|(apply u_ev;rfl;simp only[sbe];rfl)|(apply u_call;rfl;rfl;exact c75 _ _ _;rfl;simp only[sbe];rfl)|(apply u_or;rfl)|(apply u_and;rfl)|refine u_join ?_|(apply u_jump;rfl;rfl)|refine at_jump ?_|refine kj rfl ?_|(apply u_ite;rfl;all_goals (intro hz;(try simp only[sbs] at hz);first|(exact absurd hz (by decide))|(exfalso;omega)|skip))|exact u_ret rfl rfl|(apply u_ret;rfl;first|exact rfl|(refine retB ?_)|(refine retI ?_)|(refine retD ?_))|(intro hz;(try simp only[sbs] at hz)))
  all_goals (unfold rightB;first | (rcases hz with hz | hz <;> simp_all <;> done) | (simp_all;done) | skip)

end Go.Am.Wr

/-
 The map of reports,as data.
-/
namespace Go.Am.Wr
set_option maxRecDepth 100000

abbrev KR:Kd:=.agg [0,0,0,0,0,0,0]

theorem keyEq_rep (a b:Rep):D.keyEq KR a.d b.d=some (decide (a=b)):=by
 obtain⟨a1,a2,a3,a4,a5,a6,a7⟩:=a
 obtain⟨b1,b2,b3,b4,b5,b6,b7⟩:=b
 simp only[D.keyEq,Rep.d,Rep.cs,D.bin,D.eqs,cmpI,Rep.mk.injEq]
 by_cases h1:a1=b1 <;> by_cases h2:a2=b2 <;> by_cases h3:a3=b3 <;> by_cases h4:a4=b4 <;> by_cases h5:a5=b5 <;> by_cases h6:a6=b6 <;> by_cases h7:a7=b7 <;> simp_all

def mget (a:Rep):List (Rep×Int)→Nat→Option (Nat×Int)
 | [],_=>none
 | e :: r,i=>if a=e.1 then some (i,e.2) else mget a r (i+1)

theorem mfind_kv (a:Rep):∀(kv:List (Rep×Int)) (i:Nat),D.mfind KR a.d (kv.map kvD) i=some ((mget a kv i).map fun p=>(p.1,I p.2))
 | [],_=>rfl
 | e :: r,i=>by
  simp only[List.map_cons,kvD,D.mfind,keyEq_rep,mget]
  by_cases h:a=e.1
  ·simp[h]
  ·simp only[h,decide_false,if_false]
   exact mfind_kv a r (i+1)

theorem mlook_kv (a:Rep)(kv:List (Rep×Int)):D.mlook KR a.d (kv.map kvD)=some ((mget a kv 0).map fun p=>(p.1,I p.2)):=by
 unfold D.mlook
 rw[if_pos (show D.keyOk KR a.d=true from rfl),mfind_kv]

theorem mget_none {a:Rep}:∀{kv:List (Rep×Int)} {i:Nat},mget a kv i=none→∀e,e∈kv→e.1≠a
 | [],_,_,e,he=>by simp at he
 | x :: r,i,h,e,he=>by
  simp only[mget] at h
  split at h
  ·cases h
  ·rename_i h1
   rcases List.mem_cons.1 he with rfl | he
   ·exact fun e=>h1 e.symm
   ·exact mget_none h e he

theorem mget_some {a:Rep}{j:Nat}{t:Int}:∀{kv:List (Rep×Int)} {i:Nat},mget a kv i=some (j,t)→i≤j∧kv[j-i]? = some (a,t)
 | [],_,h=>by simp[mget] at h
 | x :: r,i,h=>by
  simp only[mget] at h
  split at h
  ·rename_i h1
   cases h
   exact⟨Nat.le_refl _,by rw[Nat.sub_self,List.getElem?_cons_zero,h1]⟩
  ·obtain⟨h2,h3⟩:=mget_some h
   refine⟨by omega,?_⟩
   rw[show j-i=(j-(i+1))+1 by omega,List.getElem?_cons_succ]
   exact h3

def putN (kv:List (Rep×Int))(r:Rep):List (Rep×Int):=
 match mget (plainR r) kv 0 with
 | none=>kv++[(plainR r,r.arrived)]
 | some (j,t)=>if r.arrived<t then kv.set j (plainR r,r.arrived) else kv

theorem putN_eq {kv:List (Rep×Int)}(h:MapOk kv)(r:Rep):putN kv r=put kv r:=by
 unfold putN put
 cases hg:mget (plainR r) kv 0 with
 | none=>
  have hn:kv.any (fun e=>decide (e.1=plainR r))=false:=by
   rw[List.any_eq_false]
   intro e he
   simpa using mget_none hg e he
  simp[hn]
 | some p=>
  obtain⟨j,t⟩:=p
  obtain⟨_,hj⟩:=mget_some hg
  simp only[Nat.sub_zero] at hj
  obtain⟨hjl,hje⟩:=List.getElem?_eq_some_iff.1 hj
  have hy:kv.any (fun e=>decide (e.1=plainR r))=true:=by
   rw[List.any_eq_true]
   exact⟨_,List.getElem_mem hjl,by rw[hje];simp⟩
  simp only[hy,if_true]
  apply List.ext_getElem?
  intro i
  rw[List.getElem?_map]
  by_cases hij:i=j
  ·subst hij
   split
   ·rename_i hlt
    rw[List.getElem?_set_self hjl,hj]
    simp[hlt]
   ·rename_i hlt
    rw[hj]
    simp[hlt]
  ·have hne:∀e,kv[i]? = some e→e.1≠plainR r:=by
    intro e he ha
    obtain⟨hil,hie⟩:=List.getElem?_eq_some_iff.1 he
    have hp:=List.pairwise_iff_getElem.1 h.nd
    rcases Nat.lt_or_gt_of_ne hij with g | g
    ·exact hp i j hil hjl g (by rw[hie,hje];exact ha)
    ·exact hp j i hjl hil g (by rw[hie,hje];exact ha.symm)
   split
   ·rw[List.getElem?_set_ne (Ne.symm hij)]
    cases hi:kv[i]? with
    | none=>rfl
    | some e=>simp[hne e hi]
   ·cases hi:kv[i]? with
    | none=>rfl
    | some e=>simp[hne e hi]

variable {bs:List D}

theorem getok_kv {m:Nat}{kv:List (Rep×Int)}(hm:bs[m]? = some (.mblk (kv.map kvD)))(a:Rep):D.m4 (.getok KR) (.st bs) (.mp m) a.d (I 0)=some (match mget a kv 0 with | some p=>.tup [I p.2,B true] | none=>.tup [I 0,B false]):=by
 simp only[D.m4,D.entries,hm,Option.bind_some,mlook_kv,Option.map_some]
 cases mget a kv 0 <;> rfl

theorem put_kv {m:Nat}{kv:List (Rep×Int)}(hm:bs[m]? = some (.mblk (kv.map kvD)))(r:Rep)(hp:∀p,mget (plainR r) kv 0=some p→r.arrived<p.2):D.m4 (.put KR) (.st bs) (.mp m) (plainR r).d (I r.arrived)=some (.st (bs.set m (.mblk ((putN kv r).map kvD)))):=by
 simp only[D.m4,D.mput,hm,mlook_kv,Option.map_some,putN]
 cases hg:mget (plainR r) kv 0 with
 | none=>simp[kvD]
 | some p=>
  obtain⟨j,t⟩:=p
  have:=hp _ hg
  simp only at this
  simp[kvD,this,List.map_set]

theorem mlen_kv {m:Nat}{kv:List (Rep×Int)}(hm:bs[m]? = some (.mblk (kv.map kvD))):D.m4 .mlen (.st bs) (.mp m) (.agg []) (.agg [])=some (I kv.length):=by
 simp only[D.m4,D.entries,hm,Option.map_some,List.length_map]

end Go.Am.Wr

/-
 The library's SortFunc and maps.Clone at this program's numbers (written by the kit's lay-plain).
-/
namespace Go.Proofs
open Go.Shelf
def Try.laysSF_ren:Go.Shelf.Ren:=⟨fun | 6=>63 | 15=>87 | 14=>86 | 28=>112 | 29=>113 | 20=>104 | 21=>105 | 22=>106 | 23=>107 | 24=>108 | 25=>109 | 26=>110 | 27=>111 | 46=>118 | 47=>119 | 48=>120 | 49=>121 | 50=>122 | 57=>123 | n=>n,fun | 22=>26 | 24=>45 | 25=>104 | 3=>3 | 39=>133 | 0=>0 | 53=>164 | 55=>166 | 4=>4 | 46=>158 | 45=>157 | 50=>101 | 5=>5 | 9=>9 | 66=>169 | 70=>173 | 76=>175 | 77=>111 | n=>n,fun | n=>n⟩
theorem Try.laysSF:Go.Proofs.SlLaysF0.n6 Try.prog Try.laysSF_ren:={
 mixed:=by kernel_rfl
 f6:=⟨Try.f63.name,by decide,Try.func63.trans (congrArg some (by kernel_rfl))⟩
 f14:=⟨Try.f86.name,by decide,Try.func86.trans (congrArg some (by kernel_rfl))⟩
 f15:=Try.func87.trans (congrArg some (by kernel_rfl))
 f20:=⟨Try.f104.name,by decide,Try.func104.trans (congrArg some (by kernel_rfl))⟩
 f21:=⟨Try.f105.name,by decide,Try.func105.trans (congrArg some (by kernel_rfl))⟩
 f22:=⟨Try.f106.name,by decide,Try.func106.trans (congrArg some (by kernel_rfl))⟩
 f23:=⟨Try.f107.name,by decide,Try.func107.trans (congrArg some (by kernel_rfl))⟩
 f24:=⟨Try.f108.name,by decide,Try.func108.trans (congrArg some (by kernel_rfl))⟩
 f25:=⟨Try.f109.name,by decide,Try.func109.trans (congrArg some (by kernel_rfl))⟩
 f26:=⟨Try.f110.name,by decide,Try.func110.trans (congrArg some (by kernel_rfl))⟩
 f27:=⟨Try.f111.name,by decide,Try.func111.trans (congrArg some (by kernel_rfl))⟩
 f28:=Try.func112.trans (congrArg some (by kernel_rfl))
 f29:=Try.func113.trans (congrArg some (by kernel_rfl))
 f46:=⟨Try.f118.name,by decide,Try.func118.trans (congrArg some (by kernel_rfl))⟩
 f47:=Try.func119.trans (congrArg some (by kernel_rfl))
 f48:=Try.func120.trans (congrArg some (by kernel_rfl))
 f49:=⟨Try.f121.name,by decide,Try.func121.trans (congrArg some (by kernel_rfl))⟩
 f50:=⟨Try.f122.name,by decide,Try.func122.trans (congrArg some (by kernel_rfl))⟩
 f57:=⟨Try.f123.name,by decide,Try.func123.trans (congrArg some (by kernel_rfl))⟩
 t0:=Try.underlying0
 a0:=Try.isAgg0
 z0:=Try.sizeOf0
 v0:=Try.zeroValue0
 t3:=Try.underlying3
 a3:=Try.isAgg3
 z3:=Try.sizeOf3
 v3:=Try.zeroValue3
 t4:=Try.underlying4
 a4:=Try.isAgg4
 z4:=Try.sizeOf4
 v4:=Try.zeroValue4
 t5:=Try.underlying5
 a5:=Try.isAgg5
 z5:=Try.sizeOf5
 v5:=Try.zeroValue5
 t9:=Try.underlying9
 a9:=Try.isAgg9
 z9:=Try.sizeOf9
 v9:=Try.zeroValue9
 t22:=Try.underlying26
 a22:=Try.isAgg26
 z22:=Try.sizeOf26
 v22:=Try.zeroValue26
 t25:=Try.underlying104
 a25:=Try.isAgg104
 z25:=Try.sizeOf104
 v25:=Try.zeroValue104
 t39:=Try.underlying133
 a39:=Try.isAgg133
 z39:=Try.sizeOf133
 v39:=Try.zeroValue133
 t45:=Try.underlying157
 a45:=Try.isAgg157
 z45:=Try.sizeOf157
 v45:=Try.zeroValue157
 t46:=Try.underlying158
 a46:=Try.isAgg158
 z46:=Try.sizeOf158
 v46:=Try.zeroValue158
 t50:=Try.underlying101
 a50:=Try.isAgg101
 z50:=Try.sizeOf101
 v50:=Try.zeroValue101
 t53:=Try.underlying164
 a53:=Try.isAgg164
 z53:=Try.sizeOf164
 v53:=Try.zeroValue164
 t55:=Try.underlying166
 a55:=Try.isAgg166
 z55:=Try.sizeOf166
 v55:=Try.zeroValue166
 t66:=Try.underlying169
 a66:=Try.isAgg169
 z66:=Try.sizeOf169
 v66:=Try.zeroValue169
 t70:=Try.underlying173
 a70:=Try.isAgg173
 z70:=Try.sizeOf173
 v70:=Try.zeroValue173
 t76:=Try.underlying175
 a76:=Try.isAgg175
 z76:=Try.sizeOf175
 v76:=Try.zeroValue175
 t77:=Try.underlying111
 a77:=Try.isAgg111
 z77:=Try.sizeOf111
 v77:=Try.zeroValue111 }
def Try.laysMC_ren:Go.Shelf.Ren:=⟨fun | 5=>59 | 7=>85 | n=>n,fun | 23=>78 | 25=>45 | 3=>3 | 4=>4 | 20=>20 | n=>n,fun | n=>n⟩
theorem Try.laysMC:Go.Proofs.SlLaysW.n5 Try.prog Try.laysMC_ren:={
 mixed:=by kernel_rfl
 f5:=⟨Try.f59.name,by decide,Try.func59.trans (congrArg some (by kernel_rfl))⟩
 f7:=Try.func85.trans (congrArg some (by kernel_rfl))
 t4:=Try.underlying4
 a4:=Try.isAgg4
 z4:=Try.sizeOf4
 v4:=Try.zeroValue4
 t20:=Try.underlying20
 a20:=Try.isAgg20
 z20:=Try.sizeOf20
 v20:=Try.zeroValue20
 t23:=Try.underlying78
 a23:=Try.isAgg78
 z23:=Try.sizeOf78
 v23:=Try.zeroValue78 }
end Go.Proofs
