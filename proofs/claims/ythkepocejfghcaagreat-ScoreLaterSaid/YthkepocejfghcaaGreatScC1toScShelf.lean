/-
  Several texts, one behind the other.
-/
import Derived.Test.YthkepocejfghcaaGreatScLentoScAct
import Derived.Test.YthkepocejfghcaaGreatAmFntoAmSt2
import Derived.Test.YthkepocejfghcaaGreatAmKilltoAmOut
import Derived.Shelf.Sort.Plain
import Derived.Ground.Names2Prog
import Derived.Shelf.Slices.Clone
import Derived.Shelf.Slices.In.SortNone
import Derived.Test.YthkepocejfghcaaGreatProg
set_option linter.unusedSimpArgs false
set_option linter.unusedVariables false
/-
 What the small functions of the score and of its specification answer: ranges,lines.
-/
namespace Go.Am.Sc
open Go.Proofs
set_option maxRecDepth 100000
set_option maxHeartbeats 4000000

variable {bs:List D}

theorem c46 (x lo hi:Int):FSpecR Tryz.prog 46 (.st bs) [I x,I lo,I hi] (B (inR x lo hi)):=by
 refine ku46.R rfl rfl ?_
 unfold u46
 simp only[ups_cons,ups_nil,List.cons_append,List.nil_append]
 repeat' (first|(apply nrm;simp only[sbe];rfl)|(apply u_ev;rfl;simp only[sbe];rfl)|(apply u_and;rfl)|exact u_ret rfl rfl|(intro hz;(try simp only[sbs] at hz)))

theorem c49 (x lo hi:Int):FSpecR Tryz.prog 49 (.st bs) [I x,I lo,I hi] (B (inR x lo hi)):=by
 refine ku49.R rfl rfl ?_
 unfold u49
 simp only[ups_cons,ups_nil,List.cons_append,List.nil_append]
 repeat' (first|(apply nrm;simp only[sbe];rfl)|(apply u_ev;rfl;simp only[sbe];rfl)|(apply u_and;rfl)|exact u_ret rfl rfl|(intro hz;(try simp only[sbs] at hz)))

attribute [local irreducible] inR

def fi {α:Type}(P:α→Bool)(l:List α):Int:=match l.findIdx? P with
 | some i=>i
 | none=>-1

theorem fi_at {α:Type}{P:α→Bool}{l:List α}{i:Nat}(hi:i<l.length)(hP:P l[i]=true)(hn:∀k (h:k<i),P (l[k]'(by omega))=false):fi P l=i:=by
 have:l.findIdx? P=some i:=by
  rw[List.findIdx?_eq_some_iff_getElem]
  exact⟨hi,hP,fun j hj=>by simp[hn j hj]⟩
 simp[fi,this]

theorem fi_no {α:Type}{P:α→Bool}{l:List α}(hn:∀a,a∈l→P a=false):fi P l=-1:=by
 have:l.findIdx? P=none:=by
  rw[List.findIdx?_eq_none_iff]
  exact hn
 simp[fi,this]

theorem fi_any {α:Type}(P:α→Bool)(l:List α):decide (fi P l≥0)=l.any P:=by
 cases h:l.findIdx? P with
 | none=>
  have h2:=List.findIdx?_eq_none_iff.1 h
  have:l.any P=false:=by
   rw[List.any_eq_false]
   intro x hx
   simp[h2 x hx]
  rw[this]
  simp[fi,h]
 | some i=>
  obtain⟨h1,h2,_⟩:=List.findIdx?_eq_some_iff_getElem.1 h
  have:l.any P=true:=List.any_eq_true.2 ⟨_,List.getElem_mem h1,h2⟩
  rw[this]
  simp[fi,h]


theorem c126 {P:Int→Bool}{f:Nat}{us cs:List D}{l:List Int}(hL:l.length≤maxLen)(hc:callable Tryz.prog f=true)(hf:∀x,x∈l→FSpecR Tryz.prog f (.st bs) (us++[I x]++cs) (B (P x))):FSpecR Tryz.prog 126 (.st bs) [.lst (l.map I),.fn f us cs] (I (fi P l)):=by
 have hL':l.length≤9223372036854775807:=hL
 refine ku126.R rfl rfl ?_
 unfold u126
 simp only[ups_cons,ups_nil,List.cons_append,List.nil_append]
 repeat' (first|(apply u_lenL;rfl;exact lenL_map;simp only[sbe];rfl)|refine u_join ?_)
 refine u_range (fun i=>[I i]) (fun i=>∀k (h:k<i) (h2:k<l.length),P l[k]=false) l.length rfl (fun _=>rfl) (fun k h=>absurd h (Nat.not_lt_zero _)) (fun i hi hJ R hR=>?_) (fun hJ R=>?_)
 ·have hcal:=hf l[i] (List.getElem_mem hi)
  have hli:decide ((i:Int)<(l.length:Int))=true:=by simp;omega
  cases hP:P l[i]
  ·rw[hP] at hcal
   repeat' (first|(apply nrm;simp only[sbe];rfl)|(apply u_iteT;rfl;exact hli)|(apply u_iteF;rfl;exact rfl)|(apply u_eaddr;rfl;rfl;exact eaddr_get hi rfl;simp only[sbe];rfl)|(apply u_add;rfl;rfl;omega;simp only[sbe];rfl)|(apply u_ev;rfl;simp only[sbe];rfl)|(apply u_callv;rfl;exact hc;rfl;rfl;exact hcal;rfl;simp only[sbe];rfl)|refine u_join ?_|(apply u_jump;rfl;rfl)|refine at_jump ?_|refine kj rfl ?_)
   refine hR fun k hk h2=>?_
   rcases Nat.lt_or_ge k i with h3 | h3
   ·exact hJ k h3 h2
   ·have e:k=i:=by omega
    subst e
    exact hP
  ·rw[hP] at hcal
   repeat' (first|(apply nrm;simp only[sbe];rfl)|(apply u_iteT;rfl;(·first|exact hli|exact rfl))|(apply u_eaddr;rfl;rfl;exact eaddr_get hi rfl;simp only[sbe];rfl)|(apply u_ev;rfl;simp only[sbe];rfl)|(apply u_callv;rfl;exact hc;rfl;rfl;exact hcal;rfl;simp only[sbe];rfl)|refine u_join ?_|(apply u_ret;rfl;first|exact rfl|(refine retB ?_)|(refine retI ?_)|(refine retD ?_)))
   exact(fi_at hi hP fun k hk=>hJ k hk (by omega)).symm
 ·repeat' (first|(apply nrm;simp only[sbe];rfl)|(apply u_ev;rfl;simp only[sbe];rfl)|(apply u_jump;rfl;rfl)|refine at_jump ?_|(refine over_jump (by decide) ?_)|refine kj rfl ?_|(apply u_ite;rfl;all_goals (intro hz;(try simp only[sbs] at hz);first|(exact absurd hz (by decide))|(exfalso;omega)|skip))|(apply u_ret;rfl;first|exact rfl|(refine retB ?_)|(refine retI ?_)|(refine retD ?_)))
  refine(fi_no fun a ha=>?_).symm
  obtain⟨k,hk,rfl⟩:=List.mem_iff_getElem.1 ha
  exact hJ k hk hk


theorem c99 {P:Int→Bool}{f:Nat}{us cs:List D}{l:List Int}(hL:l.length≤maxLen)(hc:callable Tryz.prog f=true)(hf:∀x,x∈l→FSpecR Tryz.prog f (.st bs) (us++[I x]++cs) (B (P x))):FSpecR Tryz.prog 99 (.st bs) [.lst (l.map I),.fn f us cs] (B (l.any P)):=by
 refine ku99.R rfl rfl ?_
 unfold u99
 simp only[ups_cons,ups_nil,List.cons_append,List.nil_append]
 repeat' (first|(apply u_ev;rfl;simp only[sbe];rfl)|(apply u_call;rfl;rfl;exact c126 hL hc hf;rfl;simp only[sbe];rfl)|(apply u_ret;rfl;first|exact rfl|(refine retB ?_)|(refine retI ?_)|(refine retD ?_)))
 exact fi_any P l

theorem c100 (x most:Int):FSpecR Tryz.prog 100 (.st bs) [I x,.ptr [I most]] (B (!inR x 0 most)):=by
 refine ku100.R rfl rfl ?_
 unfold u100
 simp only[ups_cons,ups_nil,List.cons_append,List.nil_append]
 repeat' (first|(apply u_ev;rfl;simp only[sbe];rfl)|(apply u_call;rfl;rfl;exact c46 _ _ _;rfl;simp only[sbe];rfl)|exact u_ret rfl rfl)

theorem not_any {α:Type}(P:α→Bool):∀l:List α,(!(l.any fun x=>!P x))=l.all P
 | []=>rfl
 | x :: l=>by simp[not_any P l]

theorem c47 {l:List Int}{least many most:Int}(hL:l.length≤maxLen):FSpecR Tryz.prog 47 (.st bs) [Is l,I least,I many,I most] (B (allR l least many 0 most)):=by
 have hf:FSpecR Tryz.prog 99 (.st bs) [.lst (l.map I),.fn 100 [] [.ptr [I most]]] (B (l.any fun x=>!inR x 0 most)):=c99 (us:=[]) (cs:=[.ptr [I most]]) hL (by kernel_rfl) fun x _=>c100 x most
 refine ku47.R rfl rfl ?_
 unfold u47
 simp only[ups_cons,ups_nil,List.cons_append,List.nil_append]
 repeat' (first|(apply nrm;simp only[sbe];rfl)|(apply u_lenL;rfl;exact lenL_map;simp only[sbe];rfl)|(apply u_ev;rfl;simp only[sbe];rfl)|(apply u_call;rfl;rfl;(·first|exact c46 _ _ _|exact hf);rfl;simp only[sbe];rfl)|(apply u_and;rfl)|exact u_ret rfl rfl|(apply u_ret;rfl;first|exact rfl|(refine retB ?_)|(refine retI ?_)|(refine retD ?_))|(intro hz;(try simp only[sbs] at hz)))
 rw[not_any,allR,Bool.and_comm]

theorem c50 {l:List Int}{least most lo hi:Int}(hL:l.length≤maxLen):FSpecR Tryz.prog 50 (.st bs) [Is l,I least,I most,I lo,I hi] (B (allR l least most lo hi)):=by
 have hL':l.length≤9223372036854775807:=hL
 refine ku50.R rfl rfl ?_
 unfold u50
 simp only[ups_cons,ups_nil,List.cons_append,List.nil_append]
 repeat' ((with_reducible refine u_join ?_))
 refine u_range (fun i=>[I i]) (fun i=>∀k (h:k<i) (h2:k<l.length),inR l[k] lo hi=true) l.length rfl (fun _=>rfl) (fun k h=>absurd h (Nat.not_lt_zero _)) (fun i hj hJ R hR=>?_) (fun hJ R=>?_)
 ·have hli:decide ((i:Int)<(l.length:Int))=true:=by simp;omega
  cases hP:inR l[i] lo hi
  ·have hcal:=c49 (bs:=bs) l[i] lo hi
   rw[hP] at hcal
   repeat' (first|(apply nrm;simp only[sbe];rfl)|(apply u_iteT;rfl;(·first|exact hli|exact rfl))|(apply u_eaddr;rfl;rfl;exact eaddr_get hj rfl;simp only[sbe];rfl)|(apply u_lenL;rfl;exact lenL_map;simp only[sbe];rfl)|(apply u_ev;rfl;simp only[sbe];rfl)|(apply u_call;rfl;rfl;exact hcal;rfl;simp only[sbe];rfl)|refine u_join ?_|(apply u_ret;rfl;first|exact rfl|(refine retB ?_)|(refine retI ?_)|(refine retD ?_)))
   rw[allR,Bool.and_eq_false_iff.2 (.inl (List.all_eq_false.2 ⟨_,List.getElem_mem hj,by simp[hP]⟩))]
  ·have hcal:=c49 (bs:=bs) l[i] lo hi
   rw[hP] at hcal
   repeat' (first|(apply nrm;simp only[sbe];rfl)|(apply u_iteT;rfl;exact hli)|(apply u_iteF;rfl;exact rfl)|(apply u_eaddr;rfl;rfl;exact eaddr_get hj rfl;simp only[sbe];rfl)|(apply u_lenL;rfl;exact lenL_map;simp only[sbe];rfl)|(apply u_add;rfl;rfl;omega;simp only[sbe];rfl)|(apply u_ev;rfl;simp only[sbe];rfl)|(apply u_call;rfl;rfl;exact hcal;rfl;simp only[sbe];rfl)|refine u_join ?_|(apply u_jump;rfl;rfl)|refine at_jump ?_|refine kj rfl ?_)
   refine hR fun k hk h2=>?_
   rcases Nat.lt_or_ge k i with h3 | h3
   ·exact hJ k h3 h2
   ·have e:k=i:=by omega
    subst e
    exact hP
 ·repeat' (first|(apply nrm;simp only[sbe];rfl)|(apply u_lenL;rfl;exact lenL_map;simp only[sbe];rfl)|(apply u_ev;rfl;simp only[sbe];rfl)|(apply u_call;rfl;rfl;exact c49 _ _ _;rfl;simp only[sbe];rfl)|(apply u_jump;rfl;rfl)|refine at_jump ?_|(refine over_jump (by decide) ?_)|refine kj rfl ?_|(apply u_ite;rfl;all_goals (intro hz;(try simp only[sbs] at hz);first|(exact absurd hz (by decide))|(exfalso;omega)|skip))|(apply u_ret;rfl;first|exact rfl|(refine retB ?_)|(refine retI ?_)|(refine retD ?_)))
  rw[allR,List.all_eq_true.2 fun a ha=>?_,Bool.true_and]
  obtain⟨k,hk,rfl⟩:=List.mem_iff_getElem.1 ha
  exact hJ k hk hk

theorem c48 (x:Item)(l:Line):FSpecR Tryz.prog 48 (.st bs) [x.d,l.d] (B (lineOk x l)):=by
 refine ku48.R rfl rfl ?_
 unfold u48
 simp only[ups_cons,ups_nil,List.cons_append,List.nil_append]
 repeat' (first|(apply nrm;simp only[sbe];rfl)|(apply u_chk;rfl)|(apply u_ev;rfl;simp only[sbe];rfl)|(apply u_call;rfl;rfl;exact c46 _ _ _;rfl;simp only[sbe];rfl)|(apply u_or;rfl)|(apply u_and;rfl)|refine u_join ?_|(apply u_jump;rfl;rfl)|refine at_jump ?_|refine kj rfl ?_|(apply u_ite;rfl;all_goals (intro hz;(try simp only[sbs] at hz);first|(exact absurd hz (by decide))|(exfalso;omega)|skip))|exact u_ret rfl rfl|(apply u_ret;rfl;first|exact rfl|(refine retB ?_)|(refine retI ?_)|(refine retD ?_))|(intro hz;(try simp only[sbs] at hz)))
 all_goals (unfold lineOk;rw[Bool.eq_iff_iff];cases hj:l.jump <;> cases h1:inR l.minute 0 100000 <;> cases h2:inR l.time 0 36000000 <;> simp_all <;> omega)

theorem c52 (x:Item)(l:Line):FSpecR Tryz.prog 52 (.st bs) [x.d,l.d] (B (lineOk x l)):=by
 refine ku52.R rfl rfl ?_
 unfold u52
 simp only[ups_cons,ups_nil,List.cons_append,List.nil_append]
 repeat' (first|(apply nrm;simp only[sbe];rfl)|(apply u_chk;rfl)|(apply u_ev;rfl;simp only[sbe];rfl)|(apply u_call;rfl;rfl;exact c49 _ _ _;rfl;simp only[sbe];rfl)|(apply u_or;rfl)|(apply u_and;rfl)|(apply u_ite;rfl;all_goals (intro hz;(try simp only[sbs] at hz);first|(exact absurd hz (by decide))|(exfalso;omega)|skip))|exact u_ret rfl rfl|(apply u_ret;rfl;first|exact rfl|(refine retB ?_)|(refine retI ?_)|(refine retD ?_))|(intro hz;(try simp only[sbs] at hz)))
 all_goals (unfold lineOk;rw[Bool.eq_iff_iff];cases hj:l.jump <;> cases h1:inR l.minute 0 100000 <;> cases h2:inR l.time 0 36000000 <;> simp_all <;> omega)

theorem c51 {p:Plan}(hn:0<p.n)(hN:p.n≤4000000000000000000)(hl:-9000000000000000000≤(p.it (p.n-1)).leg∧(p.it (p.n-1)).leg≤9000000000000000000):FSpecR Tryz.prog 51 (.st bs) [p.d] (I p.legs):=by
 have hea:D.eaddr 4 (.lst (p.items.map Item.d)) (I ((p.n:Int)-1))=some (.ptr (p.it (p.n-1)).d.cells):=by
  rw[show(p.n:Int)-1=((p.n-1:Nat):Int) by omega]
  exact eaddr_lst (Plan.it_getElem (by omega)) rfl
 have hln:D.lenL (.lst (p.items.map Item.d))=some (I p.n):=lenL_map
 refine ku51.R rfl rfl ?_
 unfold u51
 simp only[ups_cons,ups_nil,List.cons_append,List.nil_append]
 repeat' (first|(apply u_chk;rfl)|(apply u_eaddr;rfl;rfl;exact hea;simp only[sbe];rfl)|(apply u_lenL;rfl;exact hln;simp only[sbe];rfl)|(apply u_add;rfl;rfl;omega;simp only[sbe];rfl)|(apply u_sub;rfl;rfl;omega;simp only[sbe];rfl)|(apply u_ev;rfl;simp only[sbe];rfl)|exact u_ret rfl rfl)

end Go.Am.Sc

/-
 What Check answers,and what the specification says of a plan.
-/
namespace Go.Am.Sc
open Go.Proofs
set_option maxRecDepth 100000
set_option maxHeartbeats 4000000

attribute [local irreducible] inR allR

variable {bs:List D} {p:Plan}

theorem ea_it {i:Nat}(h:i<p.n):D.eaddr 4 (.lst (p.items.map Item.d)) (In i)=some (.ptr (p.it i).d.cells):=eaddr_lst (Plan.it_getElem h) rfl
theorem ln_it:D.lenL (.lst (p.items.map Item.d))=some (I p.n):=lenL_map

theorem sub_leg {a b:Int}(ha:i64 a)(hb:0≤b∧b≤5):∃w,D.bin .sub .int (I a) (I b)=some (I w)∧inR w 0 1=inR (a-b) 0 1:=by
 refine⟨IntKind.i64.wrap (a-b),rfl,?_⟩
 obtain⟨h1,h2⟩:=ha
 by_cases h:-9223372036854775808≤a-b
 ·rw[wrap64 ⟨h,by omega⟩]
 ·have e:IntKind.i64.wrap (a-b)=a-b+18446744073709551616:=by
   have e:(a-b) % 2 ^ 64=a-b+18446744073709551616:=by omega
   simp only[IntKind.wrap,IntKind.bits,IntKind.signed,Bool.true_and,decide_eq_true_eq,e]
   rw[if_neg (by omega)]
  rw[e,inR_n (by omega),inR_n (by omega)]


theorem c18 (hp:p.Ok):FSpecR Tryz.prog 18 (.st bs) [p.d] (I (if p.ok=true then 0 else 2)):=by
 have hL:=hp.itemsL
 have h47a:FSpecR Tryz.prog 47 (.st bs) [.lst [I p.late,I p.early,I p.missed],I 3,I 3,I 36000000] (B (inR p.late 0 36000000&&(inR p.early 0 36000000&&inR p.missed 0 36000000))):=by
  rw[←allR3]
  exact c47 (l:=[_,_,_]) (show 3≤maxLen by decide)
 have h47b:FSpecR Tryz.prog 47 (.st bs) [.lst [I p.maxLate,I p.legLate],I 2,I 2,I 1440] (B (inR p.maxLate 0 1440&&inR p.legLate 0 1440)):=by
  rw[←allR2]
  exact c47 (l:=[_,_]) (show 2≤maxLen by decide)
 have hmi:p.items.length=p.n:=rfl
 refine ku18.R rfl rfl ?_
 unfold u18
 simp only[ups_cons,ups_nil,List.cons_append,List.nil_append]
 cases hn:inR p.n 1 100
 ·have hc:=c46 (bs:=bs) p.n 1 100
  rw[hn] at hc
  repeat' (first|(apply nrm;simp only[sbe];rfl)|(apply u_orT;rfl;exact rfl)|(apply u_iteT;rfl;exact rfl)|(apply u_chk;rfl)|(apply u_lenL;rfl;exact ln_it;simp only[sbe];rfl)|(apply u_ev;rfl;simp only[sbe];rfl)|(apply u_call;rfl;rfl;exact hc;rfl;simp only[sbe];rfl)|(apply u_ret;rfl;first|exact rfl|(refine retB ?_)|(refine retI ?_)|(refine retD ?_)))
  rw[if_neg (by simp[Plan.ok,Plan.headOk,hn])]
 have hn2:=inR_t hn
 have hc:=c46 (bs:=bs) p.n 1 100
 rw[hn] at hc
 have hea0:D.eaddr 4 (.lst (p.items.map Item.d)) (I 0)=some (.ptr (p.it 0).d.cells):=ea_it (i:=0) (by omega)
 repeat' (first|(apply nrm;simp only[sbe];rfl)|(apply u_chk;rfl)|(apply u_eaddr;rfl;rfl;exact hea0;simp only[sbe];rfl)|(apply u_lenL;rfl;exact ln_it;simp only[sbe];rfl)|(apply u_ev;rfl;simp only[sbe];rfl)|(apply u_call;rfl;rfl;(·first|exact hc|exact c46 _ _ _);rfl;simp only[sbe];rfl)|(apply u_or;rfl)|refine u_join ?_|(apply u_ite;rfl;all_goals (intro hz;(try simp only[sbs] at hz);first|(exact absurd hz (by decide))|(exfalso;omega)|skip))|exact u_ret rfl rfl|(apply u_ret;rfl;first|exact rfl|(refine retB ?_)|(refine retI ?_)|(refine retD ?_))|(intro hz;(try simp only[sbs] at hz)))
 ·rw[if_neg]
  rcases hz with hz | hz <;> simp[Plan.ok,Plan.headOk,hz]
 have hJ0:(p.it 0).leg=0:=by simp_all
 have hcl:inR p.classes 1 20=true:=by simp_all
 have hhead:p.headOk=true:=by simp[Plan.headOk,hn,hcl,hJ0]
 refine u_range (fun i=>[In i]) (fun i=>∀k,k<i→p.itOk k=true) p.n rfl (fun _=>rfl) (fun k h=>absurd h (Nat.not_lt_zero _)) (fun i hi hJ R hR=>?_) (fun hJ R=>?_)
 ·have hli:decide ((i:Int)<(p.n:Int))=true:=by simp;omega
  have hi64:(p.it i).Ok:=hp.items _ (List.mem_of_getElem? (Plan.it_getElem hi))
  by_cases h0:i=0
  ·have hz0:decide ((i:Int) > 0)=false:=by simp[h0]
   repeat' (first|(apply nrm;simp only[sbe];rfl)|(apply u_andF;rfl;exact hz0)|(apply u_iteT;rfl;exact hli)|(apply u_chk;rfl)|(apply u_eaddr;rfl;rfl;exact ea_it hi;simp only[sbe];rfl)|(apply u_inc;rfl;omega;simp only[sbe];rfl)|(apply u_ev;rfl;simp only[sbe];rfl)|(apply u_call;rfl;rfl;exact c46 _ _ _;rfl;simp only[sbe];rfl)|(apply u_or;rfl)|refine u_join ?_|(apply u_jump;rfl;rfl)|refine at_jump ?_|refine kj rfl ?_|(apply u_ite;rfl;all_goals (intro hz;(try simp only[sbs] at hz);first|(exact absurd hz (by decide))|(exfalso;omega)|skip))|exact u_ret rfl rfl|(apply u_ret;rfl;first|exact rfl|(refine retB ?_)|(refine retI ?_)|(refine retD ?_))|(intro hz;(try simp only[sbs] at hz)))
   all_goals first | (refine hR fun k hk=>?_;rcases Nat.lt_or_ge k i with h3 | h3;exact hJ k h3;rw[show k=i by omega]) | (rw[if_neg];rw[Bool.not_eq_true];apply Plan.ok_f2;refine Plan.not_items hi ?_)
   all_goals (cases h2:inR (p.it i).target 0 1440 <;> cases h3:(p.it i).free <;> simp_all [Plan.itOk] <;> omega)
  ·have hz0:1≤i:=by omega
   have hlg:=Plan.leg_of hJ0 (i:=i-1) fun k hk=>hJ k (by omega)
   obtain⟨w,hw,he⟩:=sub_leg hi64.leg hlg
   have hcw:=c46 (bs:=bs) w 0 1
   rw[he] at hcw
   repeat' (first|(apply nrm;simp only[sbe];rfl)|(apply u_iteT;rfl;exact hli)|(apply u_chk;rfl)|(apply u_eaddr;rfl;rfl;(·first|exact ea_it hi|exact ea_it (by omega));simp only[sbe];rfl)|(apply u_bin;rfl;rfl;exact hw;simp only[sbe];rfl)|(apply u_inc;rfl;omega;simp only[sbe];rfl)|(apply u_pred;rfl;omega;simp only[sbe];rfl)|(apply u_ev;rfl;simp only[sbe];rfl)|(apply u_call;rfl;rfl;(·first|exact hcw|exact c46 _ _ _);rfl;simp only[sbe];rfl)|(apply u_or;rfl)|(apply u_and;rfl)|refine u_join ?_|(apply u_jump;rfl;rfl)|refine at_jump ?_|refine kj rfl ?_|(apply u_ite;rfl;all_goals (intro hz;(try simp only[sbs] at hz);first|(exact absurd hz (by decide))|(exfalso;omega)|skip))|exact u_ret rfl rfl|(apply u_ret;rfl;first|exact rfl|(refine retB ?_)|(refine retI ?_)|(refine retD ?_))|(intro hz;(try simp only[sbs] at hz)))
   all_goals first | (refine hR fun k hk=>?_;rcases Nat.lt_or_ge k i with h3 | h3;exact hJ k h3;rw[show k=i by omega]) | (rw[if_neg];rw[Bool.not_eq_true];apply Plan.ok_f2;refine Plan.not_items hi ?_)
   all_goals (cases h1:inR ((p.it i).leg-(p.it (i-1)).leg) 0 1 <;> cases h2:inR (p.it i).target 0 1440 <;> cases h3:(p.it i).free <;> simp_all [Plan.itOk] <;> omega)
 ·have hI:p.itemsOk=true:=Plan.items_of fun i hi=>hJ i hi
  have hlf:decide ((p.n:Int)<(p.n:Int))=false:=by simp
  have hj:=c47 (bs:=bs) (l:=p.jumps) (least:=1) (many:=10) (most:=36000000) hp.jumps.2
  have hpt:=c47 (bs:=bs) (l:=p.points) (least:=0) (many:=60) (most:=1000) hp.points.2
  have hex:=c47 (bs:=bs) (l:=p.extra) (least:=0) (many:=60) (most:=1000) hp.extra.2
  cases hpw:inR p.power (-1) (p.n-1)
  ·have hcp:=c46 (bs:=bs) p.power (-1) (p.n-1)
   rw[hpw] at hcp
   repeat' (first|(apply nrm;simp only[sbe];rfl)|(apply u_orT;rfl;exact rfl)|(apply u_iteT;rfl;exact rfl)|(apply u_iteF;rfl;exact hlf)|(apply u_chk;rfl)|(apply u_lenL;rfl;exact ln_it;simp only[sbe];rfl)|(apply u_sub;rfl;rfl;omega;simp only[sbe];rfl)|(apply u_ev;rfl;simp only[sbe];rfl)|(apply u_call;rfl;rfl;(·first|exact hcp|exact c46 _ _ _|exact h47a|exact h47b|exact hj|exact hpt|exact hex);rfl;simp only[sbe];rfl)|(apply u_or;rfl)|(apply u_jump;rfl;rfl)|refine at_jump ?_|(refine over_jump (by decide) ?_)|refine kj rfl ?_|(apply u_ite;rfl;all_goals (intro hz;(try simp only[sbs] at hz);first|(exact absurd hz (by decide))|(exfalso;omega)|skip))|exact u_ret rfl rfl|(apply u_ret;rfl;first|exact rfl|(refine retB ?_)|(refine retI ?_)|(refine retD ?_))|(intro hz;(try simp only[sbs] at hz)))
   all_goals simp[Plan.ok,Plan.moreOk,hpw]
  have hpw2:=inR_t hpw
  have hcp:=c46 (bs:=bs) p.power (-1) (p.n-1)
  rw[hpw] at hcp
  by_cases hneg:p.power<0
  ·have hpf:decide (p.power≥0)=false:=by simp;omega
   repeat' (first|(apply nrm;simp only[sbe];rfl)|(apply u_andF;rfl;exact hpf)|(apply u_iteF;rfl;exact hlf)|(apply u_chk;rfl)|(apply u_lenL;rfl;exact ln_it;simp only[sbe];rfl)|(apply u_sub;rfl;rfl;omega;simp only[sbe];rfl)|(apply u_ev;rfl;simp only[sbe];rfl)|(apply u_call;rfl;rfl;(·first|exact hcp|exact c46 _ _ _|exact h47a|exact h47b|exact hj|exact hpt|exact hex);rfl;simp only[sbe];rfl)|(apply u_or;rfl)|(apply u_jump;rfl;rfl)|refine at_jump ?_|(refine over_jump (by decide) ?_)|refine kj rfl ?_|(apply u_ite;rfl;all_goals (intro hz;(try simp only[sbs] at hz);first|(exact absurd hz (by decide))|(exfalso;omega)|skip))|exact u_ret rfl rfl|(apply u_ret;rfl;first|exact rfl|(refine retB ?_)|(refine retI ?_)|(refine retD ?_))|(intro hz;(try simp only[sbs] at hz)))
   all_goals first
   |(rw[if_neg];intro h;simp only[Plan.ok,Plan.rulesOk,Plan.moreOk,Plan.ptsOk,Bool.and_eq_true,Bool.or_eq_true,decide_eq_true_eq,beq_iff_eq] at h;simp_all <;> omega)
   |(rw[if_pos];simp_all [Plan.ok,Plan.rulesOk,Plan.moreOk,Plan.ptsOk];done)
  ·have hpe:D.eaddr 4 (.lst (p.items.map Item.d)) (I p.power)=some (.ptr (p.it p.power.toNat).d.cells):=by
    have:=ea_it (p:=p) (i:=p.power.toNat) (by omega)
    rwa [In,show(p.power.toNat:Int)=p.power by omega] at this
   repeat' (first|(apply nrm;simp only[sbe];rfl)|(apply u_iteF;rfl;exact hlf)|(apply u_chk;rfl)|(apply u_eaddr;rfl;rfl;exact hpe;simp only[sbe];rfl)|(apply u_lenL;rfl;exact ln_it;simp only[sbe];rfl)|(apply u_sub;rfl;rfl;omega;simp only[sbe];rfl)|(apply u_ev;rfl;simp only[sbe];rfl)|(apply u_call;rfl;rfl;(·first|exact hcp|exact c46 _ _ _|exact h47a|exact h47b|exact hj|exact hpt|exact hex);rfl;simp only[sbe];rfl)|(apply u_or;rfl)|(apply u_and;rfl)|(apply u_jump;rfl;rfl)|refine at_jump ?_|(refine over_jump (by decide) ?_)|refine kj rfl ?_|(apply u_ite;rfl;all_goals (intro hz;(try simp only[sbs] at hz);first|(exact absurd hz (by decide))|(exfalso;omega)|skip))|exact u_ret rfl rfl|(apply u_ret;rfl;first|exact rfl|(refine retB ?_)|(refine retI ?_)|(refine retD ?_))|(intro hz;(try simp only[sbs] at hz)))
   all_goals first
   |(rw[if_neg];intro h;simp only[Plan.ok,Plan.rulesOk,Plan.moreOk,Plan.ptsOk,Bool.and_eq_true,Bool.or_eq_true,decide_eq_true_eq,beq_iff_eq] at h;simp_all <;> omega)
   |(rw[if_pos];simp_all [Plan.ok,Plan.rulesOk,Plan.moreOk,Plan.ptsOk];done)

end Go.Am.Sc

/-
 What the specification says of a plan.
-/
namespace Go.Am.Sc
open Go.Proofs
set_option maxRecDepth 100000
set_option maxHeartbeats 4000000

attribute [local irreducible] inR allR

variable {bs:List D} {p:Plan}



theorem c20 (hp : p.Ok) : FSpecR Tryz.prog 20 (.st bs) [p.d] (B p.ok) := by
  have hL := hp.itemsL
  have hmi : p.items.length = p.n := rfl
  refine ku20.R rfl rfl ?_
  unfold u20
  simp only [ups_cons, ups_nil, List.cons_append, List.nil_append]
  cases hn : inR p.n 1 100
  · have hc := c49 (bs := bs) p.n 1 100
    rw [hn] at hc
    repeat' (first | ((with_reducible apply nrm); (· simp only [sbe]; rfl)) | ((with_reducible apply u_orT); (· rfl); (· exact rfl)) | ((with_reducible apply u_iteT); (· rfl); (· exact rfl)) | ((with_reducible apply u_chk); (· rfl)) | ((with_reducible apply u_lenL); (· rfl); (· exact ln_it); (· simp only [sbe]; rfl)) | ((with_reducible apply u_ev); (· rfl); (· simp only [sbe]; rfl)) | ((with_reducible apply u_call); (· rfl); (· rfl); (· exact hc); (· rfl); (· simp only [sbe]; rfl)) | ((with_reducible apply u_ret); (· rfl); first | exact rfl | (refine retB ?_) | (refine retI ?_) | (refine retD ?_)))
    simp [Plan.ok, Plan.headOk, hn]
  have hn2 := inR_t hn
  have hc := c49 (bs := bs) p.n 1 100
  rw [hn] at hc
  have hea0 : D.eaddr 4 (.lst (p.items.map Item.d)) (I 0) = some (.ptr (p.it 0).d.cells) := ea_it (i := 0) (by omega)
  repeat' (first | ((with_reducible apply nrm); (· simp only [sbe]; rfl)) | ((with_reducible apply u_chk); (· rfl)) | ((with_reducible apply u_eaddr); (· rfl); (· rfl); (· exact hea0); (· simp only [sbe]; rfl)) | ((with_reducible apply u_lenL); (· rfl); (· exact ln_it); (· simp only [sbe]; rfl)) | ((with_reducible apply u_ev); (· rfl); (· simp only [sbe]; rfl)) | ((with_reducible apply u_call); (· rfl); (· rfl); (· first | exact hc | exact c49 _ _ _); (· rfl); (· simp only [sbe]; rfl)) | ((with_reducible apply u_or); (· rfl)) | (with_reducible refine u_join ?_) | ((with_reducible apply u_ite); (· rfl); all_goals (intro hz; (try simp only [sbs] at hz); first | (exact absurd hz (by decide)) | (exfalso; omega) | skip)) | (with_reducible exact u_ret rfl rfl) | ((with_reducible apply u_ret); (· rfl); first | exact rfl | (refine retB ?_) | (refine retI ?_) | (refine retD ?_)) | ((with_reducible intro hz); (try simp only [sbs] at hz)))
  · rcases hz with hz | hz <;> simp [Plan.ok, Plan.headOk, hz]
  have hJ0 : (p.it 0).leg = 0 := by simp_all
  have hcl : inR p.classes 1 20 = true := by simp_all
  have hhead : p.headOk = true := by simp [Plan.headOk, hn, hcl, hJ0]
  refine u_range (fun i => [In i]) (fun i => ∀ k, k < i → p.itOk k = true) p.n rfl (fun _ => rfl) (fun k h => absurd h (Nat.not_lt_zero _)) (fun i hi hJ R hR => ?_) (fun hJ R => ?_)
  · have hli : decide ((i : Int) < (p.n : Int)) = true := by simp; omega
    have hi64 : (p.it i).Ok := hp.items _ (List.mem_of_getElem? (Plan.it_getElem hi))
    by_cases h0 : i = 0
    · have hz0 : decide ((i : Int) > 0) = false := by simp [h0]
      repeat' (first | ((with_reducible apply nrm); (· simp only [sbe]; rfl)) | ((with_reducible apply u_andF); (· rfl); (· exact hz0)) | ((with_reducible apply u_iteT); (· rfl); (· exact hli)) | ((with_reducible apply u_chk); (· rfl)) | ((with_reducible apply u_eaddr); (· rfl); (· rfl); (· exact ea_it hi); (· simp only [sbe]; rfl)) | ((with_reducible apply u_lenL); (· rfl); (· exact ln_it); (· simp only [sbe]; rfl)) | ((with_reducible apply u_inc); (· rfl); (· omega); (· simp only [sbe]; rfl)) | ((with_reducible apply u_ev); (· rfl); (· simp only [sbe]; rfl)) | ((with_reducible apply u_call); (· rfl); (· rfl); (· exact c49 _ _ _); (· rfl); (· simp only [sbe]; rfl)) | ((with_reducible apply u_or); (· rfl)) | ((with_reducible apply u_and); (· rfl)) | (with_reducible refine u_join ?_) | ((with_reducible apply u_jump); (· rfl); (· rfl)) | (with_reducible refine at_jump ?_) | (with_reducible refine kj rfl ?_) | ((with_reducible apply u_ite); (· rfl); all_goals (intro hz; (try simp only [sbs] at hz); first | (exact absurd hz (by decide)) | (exfalso; omega) | skip)) | (with_reducible exact u_ret rfl rfl) | ((with_reducible apply u_ret); (· rfl); first | exact rfl | (refine retB ?_) | (refine retI ?_) | (refine retD ?_)) | ((with_reducible intro hz); (try simp only [sbs] at hz)))
      all_goals first | (refine hR fun k hk => ?_; rcases Nat.lt_or_ge k i with h3 | h3; exact hJ k h3; rw [show k = i by omega]) | (apply Eq.symm; apply Plan.ok_f2; refine Plan.not_items hi ?_)
      all_goals (by_cases k1 : (p.it i).kind = 1 <;> by_cases k2 : (p.it i).kind = 2 <;> by_cases k3 : (p.it i).target = 0 <;> cases h2 : inR (p.it i).target 0 1440 <;> cases h3 : (p.it i).free <;> simp_all [Plan.itOk] <;> omega)
    · have hz0 : 1 ≤ i := by omega
      have hlg := Plan.leg_of hJ0 (i := i - 1) fun k hk => hJ k (by omega)
      obtain ⟨w, hw, he⟩ := sub_leg hi64.leg hlg
      have hcw := c49 (bs := bs) w 0 1
      rw [he] at hcw
      repeat' (first | ((with_reducible apply nrm); (· simp only [sbe]; rfl)) | ((with_reducible apply u_iteT); (· rfl); (· exact hli)) | ((with_reducible apply u_chk); (· rfl)) | ((with_reducible apply u_eaddr); (· rfl); (· rfl); (· first | exact ea_it hi | exact ea_it (by omega)); (· simp only [sbe]; rfl)) | ((with_reducible apply u_lenL); (· rfl); (· exact ln_it); (· simp only [sbe]; rfl)) | ((with_reducible apply u_bin); (· rfl); (· rfl); (· exact hw); (· simp only [sbe]; rfl)) | ((with_reducible apply u_inc); (· rfl); (· omega); (· simp only [sbe]; rfl)) | ((with_reducible apply u_pred); (· rfl); (· omega); (· simp only [sbe]; rfl)) | ((with_reducible apply u_ev); (· rfl); (· simp only [sbe]; rfl)) | ((with_reducible apply u_call); (· rfl); (· rfl); (· first | exact hcw | exact c49 _ _ _); (· rfl); (· simp only [sbe]; rfl)) | ((with_reducible apply u_or); (· rfl)) | ((with_reducible apply u_and); (· rfl)) | (with_reducible refine u_join ?_) | ((with_reducible apply u_jump); (· rfl); (· rfl)) | (with_reducible refine at_jump ?_) | (with_reducible refine kj rfl ?_) | ((with_reducible apply u_ite); (· rfl); all_goals (intro hz; (try simp only [sbs] at hz); first | (exact absurd hz (by decide)) | (exfalso; omega) | skip)) | (with_reducible exact u_ret rfl rfl) | ((with_reducible apply u_ret); (· rfl); first | exact rfl | (refine retB ?_) | (refine retI ?_) | (refine retD ?_)) | ((with_reducible intro hz); (try simp only [sbs] at hz)))
      all_goals first | (refine hR fun k hk => ?_; rcases Nat.lt_or_ge k i with h3 | h3; exact hJ k h3; rw [show k = i by omega]) | (apply Eq.symm; apply Plan.ok_f2; refine Plan.not_items hi ?_)
      all_goals (by_cases k1 : (p.it i).kind = 1 <;> by_cases k2 : (p.it i).kind = 2 <;> by_cases k3 : (p.it i).target = 0 <;> cases h1 : inR ((p.it i).leg - (p.it (i - 1)).leg) 0 1 <;> cases h2 : inR (p.it i).target 0 1440 <;> cases h3 : (p.it i).free <;> simp_all [Plan.itOk] <;> omega)
  · have hI : p.itemsOk = true := Plan.items_of fun i hi => hJ i hi
    have hlf : decide ((p.n : Int) < (p.n : Int)) = false := by simp
    have hj := c50 (bs := bs) (l := p.jumps) (least := 1) (most := 10) (lo := 0) (hi := 36000000) hp.jumps.2
    have hpt := c50 (bs := bs) (l := p.points) (least := 0) (most := 60) (lo := 0) (hi := 1000) hp.points.2
    have hex := c50 (bs := bs) (l := p.extra) (least := 0) (most := 60) (lo := 0) (hi := 1000) hp.extra.2
    cases hpw : inR p.power (-1) (p.n - 1)
    · have hcp := c49 (bs := bs) p.power (-1) (p.n - 1)
      rw [hpw] at hcp
      repeat' (first | ((with_reducible apply nrm); (· simp only [sbe]; rfl)) | ((with_reducible apply u_orT); (· rfl); (· exact Bool.or_true _)) | ((with_reducible apply u_iteT); (· rfl); (· exact rfl)) | ((with_reducible apply u_iteF); (· rfl); (· exact hlf)) | ((with_reducible apply u_chk); (· rfl)) | ((with_reducible apply u_lenL); (· rfl); (· exact ln_it); (· simp only [sbe]; rfl)) | ((with_reducible apply u_sub); (· rfl); (· rfl); (· omega); (· simp only [sbe]; rfl)) | ((with_reducible apply u_ev); (· rfl); (· simp only [sbe]; rfl)) | ((with_reducible apply u_call); (· rfl); (· rfl); (· first | exact hcp | exact c49 _ _ _ | exact hj); (· rfl); (· simp only [sbe]; rfl)) | ((with_reducible apply u_or); (· rfl)) | ((with_reducible apply u_jump); (· rfl); (· rfl)) | (with_reducible refine at_jump ?_) | (with_reducible refine over_jump (by decide) ?_) | (with_reducible refine kj rfl ?_) | ((with_reducible apply u_ite); (· rfl); all_goals (intro hz; (try simp only [sbs] at hz); first | (exact absurd hz (by decide)) | (exfalso; omega) | skip)) | (with_reducible exact u_ret rfl rfl) | ((with_reducible apply u_ret); (· rfl); first | exact rfl | (refine retB ?_) | (refine retI ?_) | (refine retD ?_)) | ((with_reducible intro hz); (try simp only [sbs] at hz)))
      all_goals simp [Plan.ok, Plan.moreOk, hpw]
    have hpw2 := inR_t hpw
    have hcp := c49 (bs := bs) p.power (-1) (p.n - 1)
    rw [hpw] at hcp
    by_cases hneg : p.power < 0
    · have hpf : decide (p.power ≥ 0) = false := by simp; omega
      repeat' (first | ((with_reducible apply nrm); (· simp only [sbe]; rfl)) | ((with_reducible apply u_andF); (· rfl); (· exact hpf)) | ((with_reducible apply u_iteF); (· rfl); (· exact hlf)) | ((with_reducible apply u_chk); (· rfl)) | ((with_reducible apply u_lenL); (· rfl); (· exact ln_it); (· simp only [sbe]; rfl)) | ((with_reducible apply u_sub); (· rfl); (· rfl); (· omega); (· simp only [sbe]; rfl)) | ((with_reducible apply u_ev); (· rfl); (· simp only [sbe]; rfl)) | ((with_reducible apply u_call); (· rfl); (· rfl); (· first | exact hcp | exact c49 _ _ _ | exact hj | exact hpt | exact hex); (· rfl); (· simp only [sbe]; rfl)) | ((with_reducible apply u_or); (· rfl)) | ((with_reducible apply u_and); (· rfl)) | ((with_reducible apply u_jump); (· rfl); (· rfl)) | (with_reducible refine at_jump ?_) | (with_reducible refine over_jump (by decide) ?_) | (with_reducible refine kj rfl ?_) | ((with_reducible apply u_ite); (· rfl); all_goals (intro hz; (try simp only [sbs] at hz); first | (exact absurd hz (by decide)) | (exfalso; omega) | skip)) | (with_reducible exact u_ret rfl rfl) | ((with_reducible apply u_ret); (· rfl); first | exact rfl | (refine retB ?_) | (refine retI ?_) | (refine retD ?_)) | ((with_reducible intro hz); (try simp only [sbs] at hz)))
      all_goals rw [show p.ok = (p.rulesOk && (p.moreOk && p.ptsOk)) by simp [Plan.ok, hhead, hI]]
      all_goals first
        | (symm; rw [Bool.eq_false_iff]; intro h; simp only [Plan.rulesOk, Plan.moreOk, Plan.ptsOk, Bool.and_eq_true, Bool.or_eq_true, decide_eq_true_eq, beq_iff_eq] at h; simp_all <;> omega)
        | (have hr : p.rulesOk = true := by simp_all [Plan.rulesOk]
           have hm : p.moreOk = true := by simp_all [Plan.moreOk]
           rw [hr, hm]; rfl)
    · have hpe : D.eaddr 4 (.lst (p.items.map Item.d)) (I p.power) = some (.ptr (p.it p.power.toNat).d.cells) := by
        have := ea_it (p := p) (i := p.power.toNat) (by omega)
        rwa [In, show (p.power.toNat : Int) = p.power by omega] at this
      repeat' (first | ((with_reducible apply nrm); (· simp only [sbe]; rfl)) | ((with_reducible apply u_iteF); (· rfl); (· exact hlf)) | ((with_reducible apply u_chk); (· rfl)) | ((with_reducible apply u_eaddr); (· rfl); (· rfl); (· exact hpe); (· simp only [sbe]; rfl)) | ((with_reducible apply u_lenL); (· rfl); (· exact ln_it); (· simp only [sbe]; rfl)) | ((with_reducible apply u_sub); (· rfl); (· rfl); (· omega); (· simp only [sbe]; rfl)) | ((with_reducible apply u_ev); (· rfl); (· simp only [sbe]; rfl)) | ((with_reducible apply u_call); (· rfl); (· rfl); (· first | exact hcp | exact c49 _ _ _ | exact hj | exact hpt | exact hex); (· rfl); (· simp only [sbe]; rfl)) | ((with_reducible apply u_or); (· rfl)) | ((with_reducible apply u_and); (· rfl)) | ((with_reducible apply u_jump); (· rfl); (· rfl)) | (with_reducible refine at_jump ?_) | (with_reducible refine over_jump (by decide) ?_) | (with_reducible refine kj rfl ?_) | ((with_reducible apply u_ite); (· rfl); all_goals (intro hz; (try simp only [sbs] at hz); first | (exact absurd hz (by decide)) | (exfalso; omega) | skip)) | (with_reducible exact u_ret rfl rfl) | ((with_reducible apply u_ret); (· rfl); first | exact rfl | (refine retB ?_) | (refine retI ?_) | (refine retD ?_)) | ((with_reducible intro hz); (try simp only [sbs] at hz)))
      all_goals rw [show p.ok = (p.rulesOk && (p.moreOk && p.ptsOk)) by simp [Plan.ok, hhead, hI]]
      all_goals first
        | (symm; rw [Bool.eq_false_iff]; intro h; simp only [Plan.rulesOk, Plan.moreOk, Plan.ptsOk, Bool.and_eq_true, Bool.or_eq_true, decide_eq_true_eq, beq_iff_eq] at h; simp_all <;> omega)
        | (have hr : p.rulesOk = true := by simp_all [Plan.rulesOk]
           have hm : p.moreOk = true := by simp_all [Plan.moreOk]
           rw [hr, hm]; rfl)

end Go.Am.Sc

/-
 What CheckCard answers,and what the specification says of a card.
-/
namespace Go.Am.Sc
open Go.Proofs
set_option maxRecDepth 100000
set_option maxHeartbeats 4000000

attribute [local irreducible] inR allR lineOk

variable {bs:List D} {p:Plan} {c:Card}

theorem ea_ln {i:Nat}(h:i<c.lines.length):D.eaddr 4 (.lst (c.lines.map Line.d)) (In i)=some (.ptr (c.ln i).d.cells):=eaddr_lst (Card.ln_getElem h) rfl
theorem ea_last (h:1≤p.n):D.eaddr 4 (.lst (p.items.map Item.d)) (I ((p.n:Int)-1))=some (.ptr (p.it (p.n-1)).d.cells):=by
 rw[show(p.n:Int)-1=((p.n-1:Nat):Int) by omega]
 exact ea_it (by omega)


theorem c19 (hp:p.Ok)(hc:c.Ok):FSpecR Tryz.prog 19 (.st bs) [p.d,c.d] (I (if(p.ok&&cardOk p c)=true then 0 else 2)):=by
 have hmi:p.items.length=p.n:=rfl
 have h18:=c18 (bs:=bs) hp
 refine ku19.R rfl rfl ?_
 unfold u19
 simp only[ups_cons,ups_nil,List.cons_append,List.nil_append]
 cases hok:p.ok
 ·rw[hok] at h18
  replace h18:FSpecR Tryz.prog 18 (.st bs) [p.d] (I 2):=h18
  repeat' (first|(apply nrm;simp only[sbe];rfl)|(apply u_orT;rfl;exact rfl)|(apply u_iteT;rfl;exact rfl)|(apply u_chk;rfl)|(apply u_ev;rfl;simp only[sbe];rfl)|(apply u_call;rfl;rfl;exact h18;rfl;simp only[sbe];rfl)|exact u_ret rfl rfl)
  all_goals (try exact rfl)
 rw[hok] at h18
 replace h18:FSpecR Tryz.prog 18 (.st bs) [p.d] (I 0):=h18
 have hh:=Plan.ok_head hok
 have hl:=Plan.ok_leg hok (i:=p.n-1) (by omega)
 have hst:=c47 (bs:=bs) (l:=c.starts) (least:=1) (many:=6) (most:=100000) hc.starts.2
 repeat' (first|(apply nrm;simp only[sbe];rfl)|(apply u_chk;rfl)|(apply u_eaddr;rfl;rfl;exact ea_last hh.1.1;simp only[sbe];rfl)|(apply u_lenL;rfl;exact ln_it;simp only[sbe];rfl)|(apply u_lenL;rfl;exact lenL_map;simp only[sbe];rfl)|(apply u_add;rfl;rfl;omega;simp only[sbe];rfl)|(apply u_sub;rfl;rfl;omega;simp only[sbe];rfl)|(apply u_ev;rfl;simp only[sbe];rfl)|(apply u_call;rfl;rfl;(·first|exact h18|exact c46 _ _ _|exact hst);rfl;simp only[sbe];rfl)|(apply u_or;rfl)|refine u_join ?_|(apply u_ite;rfl;all_goals (intro hz;(try simp only[sbs] at hz);first|(exact absurd hz (by decide))|(exfalso;omega)|skip))|exact u_ret rfl rfl|(apply u_ret;rfl;first|exact rfl|(refine retB ?_)|(refine retI ?_)|(refine retD ?_))|(intro hz;(try simp only[sbs] at hz)))
 ·rw[if_neg]
  intro h
  simp only[Bool.true_and,cardOk,Bool.and_eq_true,beq_iff_eq] at h
  obtain⟨h1,h2,h3,h4⟩:=h
  by_cases hs:(c.starts.length:Int)=p.legs
  ·rw[allR_eq hs (Plan.ok_legs hok)] at h2
   unfold Plan.legs at hs
   simp_all
  ·rw[allR_ne hs] at h2
   cases h2
 ·have hlen:c.lines.length=p.n:=by
   have:(c.lines.length:Int)=p.n:=by simp_all
   omega
  have hcls:inR c.cls 0 (p.classes-1)=true:=by simp_all
  have hsl:(c.starts.length:Int)=p.legs:=by unfold Plan.legs;simp_all
  have hst2:allR c.starts p.legs p.legs 0 100000=true:=by
   rw[allR_eq hsl (Plan.ok_legs hok)]
   simp_all
  clear hz
  refine u_range (fun i=>[In i]) (fun i=>∀k,k<i→lnOk p c k=true) c.lines.length rfl (fun _=>rfl) (fun k h=>absurd h (Nat.not_lt_zero _)) (fun i hi hJ R hR=>?_) (fun hJ R=>?_)
  ·have hli:decide ((i:Int)<(c.lines.length:Int))=true:=by simp;omega
   have hip:i<p.n:=by omega
   have hic:i<c.lines.length:=by omega
   by_cases h0:i=0
   ·have hz0:decide ((i:Int) > 0)=false:=by simp[h0]
    repeat' (first|(apply nrm;simp only[sbe];rfl)|(apply u_andF;rfl;exact hz0)|(apply u_iteT;rfl;exact hli)|(apply u_chk;rfl)|(apply u_eaddr;rfl;rfl;(·first|exact ea_it hip|exact ea_ln hic);simp only[sbe];rfl)|(apply u_inc;rfl;omega;simp only[sbe];rfl)|(apply u_ev;rfl;simp only[sbe];rfl)|(apply u_call;rfl;rfl;exact c48 _ _;rfl;simp only[sbe];rfl)|(apply u_or;rfl)|(apply u_and;rfl)|refine u_join ?_|(apply u_jump;rfl;rfl)|refine at_jump ?_|refine kj rfl ?_|(apply u_ite;rfl;all_goals (intro hz;(try simp only[sbs] at hz);first|(exact absurd hz (by decide))|(exfalso;omega)|skip))|exact u_ret rfl rfl|(apply u_ret;rfl;first|exact rfl|(refine retB ?_)|(refine retI ?_)|(refine retD ?_))|(intro hz;(try simp only[sbs] at hz)))
    all_goals (try exact(false:Bool))
    all_goals first | (refine hR fun k hk=>?_;rcases Nat.lt_or_ge k i with h3 | h3;exact hJ k h3;rw[show k=i by omega]) | (rw[if_neg];rw[Bool.true_and,Bool.not_eq_true];refine not_lines hip ?_)
    all_goals (cases h1:lineOk (p.it i) (c.ln i) <;> simp_all [lnOk] <;> omega)
   ·have hz0:1≤i:=by omega
    have hzt:decide ((i:Int) > 0)=true:=by simp;omega
    repeat' (first|(apply nrm;simp only[sbe];rfl)|(apply u_iteT;rfl;exact hli)|(apply u_chk;rfl)|(apply u_eaddr;rfl;rfl;(·first|exact ea_it hip|exact ea_ln hic|exact ea_it (Nat.lt_of_le_of_lt (Nat.sub_le i 1) hip)|exact ea_ln (Nat.lt_of_le_of_lt (Nat.sub_le i 1) hic));simp only[sbe];rfl)|(apply u_inc;rfl;omega;simp only[sbe];rfl)|(apply u_pred;rfl;omega;simp only[sbe];rfl)|(apply u_ev;rfl;simp only[sbe];rfl)|(apply u_call;rfl;rfl;exact c48 _ _;rfl;simp only[sbe];rfl)|(apply u_or;rfl)|(apply u_and;rfl)|refine u_join ?_|(apply u_jump;rfl;rfl)|refine at_jump ?_|refine kj rfl ?_|(apply u_ite;rfl;all_goals (intro hz;(try simp only[sbs] at hz);first|(exact absurd hz (by decide))|(exfalso;omega)|skip))|exact u_ret rfl rfl|(apply u_ret;rfl;first|exact rfl|(refine retB ?_)|(refine retI ?_)|(refine retD ?_))|(intro hz;(try simp only[sbs] at hz)))
    all_goals (try exact(false:Bool))
    all_goals first | (refine hR fun k hk=>?_;rcases Nat.lt_or_ge k i with h3 | h3;exact hJ k h3;rw[show k=i by omega]) | (rw[if_neg];rw[Bool.true_and,Bool.not_eq_true];refine not_lines hip ?_)
    all_goals (by_cases k1:(c.ln (i-1)).mark=2 <;> by_cases k2:(p.it (i-1)).leg=(p.it i).leg <;> by_cases k3:(c.ln i).mark=2 <;> cases h1:lineOk (p.it i) (c.ln i) <;> simp_all [lnOk] <;> omega)
  ·have hlf:decide ((c.lines.length:Int)<(c.lines.length:Int))=false:=by simp
   repeat' (first|(apply nrm;simp only[sbe];rfl)|(apply u_iteF;rfl;exact hlf)|(apply u_ev;rfl;simp only[sbe];rfl)|(apply u_jump;rfl;rfl)|refine at_jump ?_|(refine over_jump (by decide) ?_)|refine kj rfl ?_|(apply u_ret;rfl;first|exact rfl|(refine retB ?_)|(refine retI ?_)|(refine retD ?_)))
   rw[if_pos]
   simp[cardOk,hcls,hst2,hlen,lines_of fun i hi=>hJ i (by omega)]

theorem c21 (hp:p.Ok)(hc:c.Ok)(hok:p.ok=true):FSpecR Tryz.prog 21 (.st bs) [p.d,c.d] (B (cardOk p c)):=by
 have hmi:p.items.length=p.n:=rfl
 have hh:=Plan.ok_head hok
 have hl:=Plan.ok_leg hok (i:=p.n-1) (by omega)
 have hst:=c50 (bs:=bs) (l:=c.starts) (least:=p.legs) (most:=p.legs) (lo:=0) (hi:=100000) hc.starts.2
 have h51:=c51 (bs:=bs) (p:=p) (by omega) (by omega) (by omega)
 refine ku21.R rfl rfl ?_
 unfold u21
 simp only[ups_cons,ups_nil,List.cons_append,List.nil_append]
 repeat' (first|(apply nrm;simp only[sbe];rfl)|(apply u_chk;rfl)|(apply u_lenL;rfl;exact ln_it;simp only[sbe];rfl)|(apply u_lenL;rfl;exact lenL_map;simp only[sbe];rfl)|(apply u_sub;rfl;rfl;omega;simp only[sbe];rfl)|(apply u_ev;rfl;simp only[sbe];rfl)|(apply u_call;rfl;rfl;(·first|exact c49 _ _ _|exact hst|exact h51);rfl;simp only[sbe];rfl)|(apply u_or;rfl)|refine u_join ?_|(apply u_ite;rfl;all_goals (intro hz;(try simp only[sbs] at hz);first|(exact absurd hz (by decide))|(exfalso;omega)|skip))|exact u_ret rfl rfl|(apply u_ret;rfl;first|exact rfl|(refine retB ?_)|(refine retI ?_)|(refine retD ?_))|(intro hz;(try simp only[sbs] at hz)))
 ·symm
  rw[Bool.eq_false_iff]
  intro h
  simp only[cardOk,Bool.and_eq_true,beq_iff_eq] at h
  simp_all
 ·have hlen:c.lines.length=p.n:=by
   have:(c.lines.length:Int)=p.n:=by simp_all
   omega
  have hcls:inR c.cls 0 (p.classes-1)=true:=by simp_all
  have hst2:allR c.starts p.legs p.legs 0 100000=true:=by simp_all
  clear hz
  refine u_range (fun i=>[In i]) (fun i=>∀k,k<i→lnOk p c k=true) p.n rfl (fun _=>rfl) (fun k h=>absurd h (Nat.not_lt_zero _)) (fun i hi hJ R hR=>?_) (fun hJ R=>?_)
  ·have hli:decide ((i:Int)<(p.n:Int))=true:=by simp;omega
   have hip:i<p.n:=by omega
   have hic:i<c.lines.length:=by omega
   by_cases h0:i=0
   ·have hz0:decide ((i:Int) > 0)=false:=by simp[h0]
    repeat' (first|(apply nrm;simp only[sbe];rfl)|(apply u_andF;rfl;exact hz0)|(apply u_iteT;rfl;exact hli)|(apply u_chk;rfl)|(apply u_eaddr;rfl;rfl;(·first|exact ea_it hip|exact ea_ln hic);simp only[sbe];rfl)|(apply u_lenL;rfl;exact ln_it;simp only[sbe];rfl)|(apply u_inc;rfl;omega;simp only[sbe];rfl)|(apply u_ev;rfl;simp only[sbe];rfl)|(apply u_call;rfl;rfl;exact c52 _ _;rfl;simp only[sbe];rfl)|(apply u_and;rfl)|refine u_join ?_|(apply u_jump;rfl;rfl)|refine at_jump ?_|refine kj rfl ?_|(apply u_ite;rfl;all_goals (intro hz;(try simp only[sbs] at hz);first|(exact absurd hz (by decide))|(exfalso;omega)|skip))|exact u_ret rfl rfl|(apply u_ret;rfl;first|exact rfl|(refine retB ?_)|(refine retI ?_)|(refine retD ?_))|(intro hz;(try simp only[sbs] at hz)))
    all_goals (try exact(false:Bool))
    all_goals first | (refine hR fun k hk=>?_;rcases Nat.lt_or_ge k i with h3 | h3;exact hJ k h3;rw[show k=i by omega]) | (symm;refine not_lines hip ?_)
    all_goals (cases h1:lineOk (p.it i) (c.ln i) <;> simp_all [lnOk] <;> omega)
   ·have hz0:1≤i:=by omega
    have hzt:decide ((i:Int) > 0)=true:=by simp;omega
    repeat' (first|(apply nrm;simp only[sbe];rfl)|(apply u_iteT;rfl;exact hli)|(apply u_chk;rfl)|(apply u_eaddr;rfl;rfl;(·first|exact ea_it hip|exact ea_ln hic|exact ea_it (Nat.lt_of_le_of_lt (Nat.sub_le i 1) hip)|exact ea_ln (Nat.lt_of_le_of_lt (Nat.sub_le i 1) hic));simp only[sbe];rfl)|(apply u_lenL;rfl;exact ln_it;simp only[sbe];rfl)|(apply u_inc;rfl;omega;simp only[sbe];rfl)|(apply u_pred;rfl;omega;simp only[sbe];rfl)|(apply u_ev;rfl;simp only[sbe];rfl)|(apply u_call;rfl;rfl;exact c52 _ _;rfl;simp only[sbe];rfl)|(apply u_and;rfl)|refine u_join ?_|(apply u_jump;rfl;rfl)|refine at_jump ?_|refine kj rfl ?_|(apply u_ite;rfl;all_goals (intro hz;(try simp only[sbs] at hz);first|(exact absurd hz (by decide))|(exfalso;omega)|skip))|exact u_ret rfl rfl|(apply u_ret;rfl;first|exact rfl|(refine retB ?_)|(refine retI ?_)|(refine retD ?_))|(intro hz;(try simp only[sbs] at hz)))
    all_goals (try exact(false:Bool))
    all_goals first | (refine hR fun k hk=>?_;rcases Nat.lt_or_ge k i with h3 | h3;exact hJ k h3;rw[show k=i by omega]) | (symm;refine not_lines hip ?_)
    all_goals (by_cases k1:(c.ln (i-1)).mark=2 <;> by_cases k2:(p.it (i-1)).leg=(p.it i).leg <;> by_cases k3:(c.ln i).mark=2 <;> cases h1:lineOk (p.it i) (c.ln i) <;> simp_all [lnOk] <;> omega)
  ·have hlf:decide ((p.n:Int)<(p.n:Int))=false:=by simp
   repeat' (first|(apply nrm;simp only[sbe];rfl)|(apply u_iteF;rfl;exact hlf)|(apply u_lenL;rfl;exact ln_it;simp only[sbe];rfl)|(apply u_ev;rfl;simp only[sbe];rfl)|(apply u_jump;rfl;rfl)|refine at_jump ?_|(refine over_jump (by decide) ?_)|refine kj rfl ?_|(apply u_ret;rfl;first|exact rfl|(refine retB ?_)|(refine retI ?_)|(refine retD ?_)))
   symm
   simp[cardOk,hcls,hst2,hlen,lines_of fun i hi=>hJ i (by omega)]

end Go.Am.Sc

/-
  The law of checks, as a text.
-/
namespace Go.Am.Sc
open Go.Proofs

end Go.Am.Sc

/-
 Which arguments are small;the law of checks.
-/
namespace Go.Am.Sc
open Go.Proofs
set_option maxRecDepth 100000
set_option maxHeartbeats 4000000

attribute [local irreducible] inR allR lineOk

variable {bs:List D} {p:Plan} {c:Card}

def Plan.small (p:Plan):Bool:=decide ((p.n:Int)≤12)&&(decide ((p.jumps.length:Int)≤20)&&(decide ((p.points.length:Int)≤80)&&decide ((p.extra.length:Int)≤80)))

theorem c15:FSpecR Tryz.prog 15 (.st bs) [p.d] (B p.small):=by
 refine ku15.R rfl rfl ?_
 unfold u15
 simp only[ups_cons,ups_nil,List.cons_append,List.nil_append]
 repeat' (first|(apply nrm;simp only[sbe];rfl)|(apply u_chk;rfl)|(apply u_lenL;rfl;exact ln_it;simp only[sbe];rfl)|(apply u_lenL;rfl;exact lenL_map;simp only[sbe];rfl)|(apply u_ev;rfl;simp only[sbe];rfl)|(apply u_and;rfl)|exact u_ret rfl rfl|(apply u_ret;rfl;first|exact rfl|(refine retB ?_)|(refine retI ?_)|(refine retD ?_))|(intro hz;(try simp only[sbs] at hz)))
 simp[Plan.small,Bool.and_assoc]

def Card.small (c:Card):Bool:=decide ((c.starts.length:Int)≤12)&&decide ((c.lines.length:Int)≤30)
def shortL (l:List Card)(most:Int):Bool:=l.all Card.small&&(decide ((l.length:Int)≤most)||(decide ((l.length:Int) > 200)&&decide ((l.length:Int)<300)))

theorem ea_card {l:List Card}{i:Nat}(h:i<l.length):D.eaddr 3 (.lst (l.map Card.d)) (In i)=some (.ptr (l[i]).d.cells):=eaddr_get h rfl

theorem c16 {l:List Card}{most:Int}(hL:l.length≤maxLen):FSpecR Tryz.prog 16 (.st bs) [Cards l,I most] (B (shortL l most)):=by
 have hL':l.length≤9223372036854775807:=hL
 refine ku16.R rfl rfl ?_
 unfold u16
 simp only[ups_cons,ups_nil,List.cons_append,List.nil_append]
 repeat' ((with_reducible refine u_join ?_))
 refine u_range (fun i=>[I i]) (fun i=>∀k (h:k<i) (h2:k<l.length),(l[k]).small=true) l.length rfl (fun _=>rfl) (fun k h=>absurd h (Nat.not_lt_zero _)) (fun i hj hJ R hR=>?_) (fun hJ R=>?_)
 ·have hli:decide ((i:Int)<(l.length:Int))=true:=by simp;omega
  repeat' (first|(apply nrm;simp only[sbe];rfl)|(apply u_iteT;rfl;exact hli)|(apply u_chk;rfl)|(apply u_eaddr;rfl;rfl;exact ea_card hj;simp only[sbe];rfl)|(apply u_lenL;rfl;exact lenL_map;simp only[sbe];rfl)|(apply u_add;rfl;rfl;omega;simp only[sbe];rfl)|(apply u_ev;rfl;simp only[sbe];rfl)|(apply u_or;rfl)|refine u_join ?_|(apply u_jump;rfl;rfl)|refine at_jump ?_|refine kj rfl ?_|(apply u_ite;rfl;all_goals (intro hz;(try simp only[sbs] at hz);first|(exact absurd hz (by decide))|(exfalso;omega)|skip))|exact u_ret rfl rfl|(apply u_ret;rfl;first|exact rfl|(refine retB ?_)|(refine retI ?_)|(refine retD ?_))|(intro hz;(try simp only[sbs] at hz)))
  ·have:l.all Card.small=false:=List.all_eq_false.2 ⟨_,List.getElem_mem hj,by simp only[Card.small,Bool.and_eq_true,decide_eq_true_eq];omega⟩
   simp[shortL,this]
  ·refine hR fun k hk h2=>?_
   rcases Nat.lt_or_ge k i with h3 | h3
   ·exact hJ k h3 h2
   ·have e:k=i:=by omega
    subst e
    simp only[Card.small,Bool.and_eq_true,decide_eq_true_eq]
    omega
 ·have hlf:decide ((l.length:Int)<(l.length:Int))=false:=by simp
  repeat' (first|(apply nrm;simp only[sbe];rfl)|(apply u_iteF;rfl;exact hlf)|(apply u_lenL;rfl;exact lenL_map;simp only[sbe];rfl)|(apply u_ev;rfl;simp only[sbe];rfl)|(apply u_or;rfl)|(apply u_and;rfl)|(apply u_jump;rfl;rfl)|refine at_jump ?_|(refine over_jump (by decide) ?_)|refine kj rfl ?_|exact u_ret rfl rfl|(apply u_ret;rfl;first|exact rfl|(refine retB ?_)|(refine retI ?_)|(refine retD ?_))|(intro hz;(try simp only[sbs] at hz)))
  have:l.all Card.small=true:=List.all_eq_true.2 fun a ha=>by
   obtain⟨k,hk,rfl⟩:=List.mem_iff_getElem.1 ha
   exact hJ k hk hk
  simp[shortL,this]

end Go.Am.Sc

/-
  Due minutes and where a car is out, as texts.
-/
namespace Go.Am.Sc
open Go.Proofs

noncomputable def u35 : U := (ups [.chk (.aggN 14 y0),
  .chk (.aggN 3 y1),
  .call 19 y3 [(agc 14 y0), (agc 3 y1)] [true],
  .ev (.bin .neq .int y4 (ki 0)),
  .chain true y5 (ups [.chk (.cell 0 y0),
  .ev (.lenL (.cell 0 y0)),
  .ev (.bin .sub .int y6 (ki 1)),
  .call 46 y3 [y2, (ki 0), y7] [true],
  .ev (.un .not y8)]
  (.ret y9)),
  .chain true y6 (ups [.chk (.cell 0 y0),
  .ev (.eaddr 4 (.cell 0 y0) y2),
  .chk (.padd 0 y7),
  .ev (.ld false 1 y3 (.padd 0 y7)),
  .ev (.bin .neq .int y8 (ki 1))]
  (.ret y9))]
  (.ite y7 (.ret (.tcons (.tcons (ki 0) (.tcons (ki 2) .tnil)) (.tcons y3 .tnil))) (ups [.ev (.eaddr 4 (.cell 2 y1) y2),
  .chk (.padd 3 y8),
  .ev (.ld false 1 y3 (.padd 3 y8)),
  .ev (.bin .eql .int y9 (ki 2))]
  (.ite y10 (.ret (.tcons (.tcons (ki 0) (.tcons (ki 5) .tnil)) (.tcons y3 .tnil))) (ups [.call 88 y3 [(agc 14 y0), (agc 3 y1), y2] [true]]
  (.ret (.tcons (.tcons y11 (.tcons (ki 0) .tnil)) (.tcons y3 .tnil))))))))
theorem ku35 : UOk Tryz.prog 35 .plain (scf true [] [] Tryz.f35) [false, false, true] u35 := UOk.plain Tryz.func35 (by kernel_rfl) (by kernel_rfl)

noncomputable def u36 : U := (ups [.chk (.aggN 14 y0),
  .chk (.aggN 3 y1),
  .call 19 y2 [(agc 14 y0), (agc 3 y1)] [true],
  .ev (.bin .neq .int y3 (ki 0))]
  (.ite y4 (.ret (.tcons (.tcons (ki 0) (.tcons (ki 2) .tnil)) (.tcons y2 .tnil))) (ups [.call 89 y2 [(agc 14 y0), (agc 3 y1)] [true]]
  (.ret (.tcons (.tcons y5 (.tcons (ki 0) .tnil)) (.tcons y2 .tnil))))))
theorem ku36 : UOk Tryz.prog 36 .plain (scf true [] [] Tryz.f36) [false, false] u36 := UOk.plain Tryz.func36 (by kernel_rfl) (by kernel_rfl)

noncomputable def u88 : U := (ups [.chk (.aggN 14 y0),
  .chk (.aggN 3 y1),
  .ev (.eaddr 4 (.cell 0 y0) y2),
  .chk (.padd 1 y4),
  .ev (.ld false 1 y3 (.padd 1 y4)),
  .ev (.bin .gtr .int y2 (ki 0)),
  .chain false y6 (ups [.chk (.cell 0 y0),
  .ev (.bin .sub .int y2 (ki 1)),
  .ev (.eaddr 4 (.cell 0 y0) y7),
  .chk (.padd 1 y8),
  .ev (.ld false 1 y3 (.padd 1 y8)),
  .ev (.bin .eql .int y9 y5)]
  (.ret y10))]
  (.ite y7 (ups [.ev (.bin .sub .int y2 (ki 1)),
  .ev (.eaddr 4 (.cell 2 y1) y8),
  .chk (.padd 0 y9),
  .ev (.ld false 1 y3 (.padd 0 y9)),
  .ev (.eaddr 4 (.cell 0 y0) y2),
  .chk (.padd 2 y11),
  .ev (.ld false 1 y3 (.padd 2 y11)),
  .ev (.bin .add .int y10 y12)]
  (.ret (.tcons y13 (.tcons y3 .tnil)))) (ups [.ev (.eaddr 1 (.cell 1 y1) y5),
  .ev (.ld false 1 y3 y8),
  .ev (.eaddr 4 (.cell 0 y0) y2),
  .chk (.padd 2 y10),
  .ev (.ld false 1 y3 (.padd 2 y10)),
  .ev (.bin .add .int y9 y11)]
  (.ret (.tcons y12 (.tcons y3 .tnil))))))
theorem ku88 : UOk Tryz.prog 88 .plain (scf true [] [] Tryz.f88) [false, false, true] u88 := UOk.plain Tryz.func88 (by kernel_rfl) (by kernel_rfl)

noncomputable def u118 : U := (ups [.ev (.mkptr (.aggN 14 y0)),
  .ev (.mkptr (.cons (.scal y1) .nil)),
  .ev (.mkfn 139 .tnil (.tcons y3 (.tcons y4 .tnil)))]
  (.ret (.tcons y5 (.tcons y2 .tnil))))
theorem ku118 : UOk Tryz.prog 118 .plain (scf true [] [] Tryz.f118) [false, true] u118 := UOk.plain Tryz.func118 (by kernel_rfl) (by kernel_rfl)

noncomputable def u119 : U := (ups [.chk (.aggN 14 y0),
  .chk (.aggN 3 y1),
  .ev (.eaddr 4 (.cell 0 y0) y2),
  .chk (.padd 0 y4),
  .ev (.ld false 1 y3 (.padd 0 y4)),
  .ev (.bin .neq .int y5 (ki 1)),
  .chain true y6 (ups [.chk (.cell 2 y1),
  .ev (.eaddr 4 (.cell 2 y1) y2),
  .chk (.padd 3 y7),
  .ev (.ld false 1 y3 (.padd 3 y7)),
  .ev (.bin .eql .int y8 (ki 2))]
  (.ret y9))]
  (.ite y7 (.ret (.tcons (.tcons (ki 0) (.tcons (ki 0) .tnil)) (.tcons y3 .tnil))) (ups [.ev (.eaddr 4 (.cell 2 y1) y2),
  .chk (.padd 0 y8),
  .ev (.ld false 1 y3 (.padd 0 y8)),
  .call 88 y3 [(agc 14 y0), (agc 3 y1), y2] [true],
  .ev (.bin .sub .int y9 y10),
  .join 0 0 (ups [.ev (.bin .gtr .int y11 (ki 0))]
  (.ite y12 (.ret (.tcons (.tcons (ki 1) (.tcons y11 .tnil)) (.tcons y3 .tnil))) (ups [.ev (.bin .lss .int y11 (ki 0))]
  (.ite y13 (ups [.ev (.un .neg y11)]
  (.ret (.tcons (.tcons (ki 2) (.tcons y14 .tnil)) (.tcons y3 .tnil)))) (.jump 0 [] [])))))]
  (.ret (.tcons (.tcons (ki 0) (.tcons (ki 0) .tnil)) (.tcons y3 .tnil))))))
theorem ku119 : UOk Tryz.prog 119 .plain (scf true [] [] Tryz.f119) [false, false, true] u119 := UOk.plain Tryz.func119 (by kernel_rfl) (by kernel_rfl)

noncomputable def u89 : U := (ups [.ev (.mkptr (.aggN 14 y0)),
  .ev (.mkptr (.aggN 3 y1)),
  .ev (.newb 3 1 y2 (.const (.agg [(.v (.int .i64 0))]))),
  .chk (.padd 0 y3),
  .ev (.ld false 1 y5 (.padd 0 y3)),
  .chk (.padd 0 y3),
  .ev (.ld false 1 y5 (.padd 0 y3)),
  .ev (.lenL y7),
  .ev (.bin .sub .int y8 (ki 1)),
  .ev (.eaddr 4 y6 y9),
  .chk (.padd 1 y10),
  .ev (.ld false 1 y5 (.padd 1 y10)),
  .ev (.newb 3 1 y5 (.const (.agg [(.v (.int .i64 0))]))),
  .ev (.sto 1 y12 (.fstid y5) y11),
  .ev (.ld false 1 y13 (.fstid y5)),
  .ev (.bin .add .int y14 (ki 1)),
  .join 0 1 (.loop 1 [(ki 0), y13] (ups [.ev (.bin .lss .int y16 y15)]
  (.ite y18 (ups [.join 2 1 (ups [.ev (.newb 3 1 y17 (.const (.agg [(.v (.int .i64 0))]))),
  .ev (.sto 1 y19 (.fstid y17) y16),
  .ev (.newb 3 1 y20 (.const (.agg [(.v (.int .i64 0))]))),
  .ev (.sto 1 y21 (.fstid y20) (ki 0)),
  .ev (.ld true 14 y22 y3),
  .ev (.ld false 1 y22 (.fstid y17)),
  .call 118 y22 [y23, y24] [true],
  .join 3 1 (ups [.rforx y25 y22 [0, 1, 2, 3, 4, 5, 6, 7, 11, 12, 13, 14, 15, 16, 17, 18, 19, 20, 21, 22, 23, 24, 25, 26, 27] [y0, y1, y3, y4, (.fstid y2), (.fstid y5), (.fstid y17), (.fstid y20), (.padd 0 y3), y6, (.padd 0 y3), y7, y8, y9, y10, (.padd 1 y10), y11, y14, y15, y16, y18, y16, y23, y24, y25] 1 4 none (ups [.join 6 1 (ups [.chk (.padd 2 y4),
  .ev (.ld false 1 y26 (.padd 2 y4)),
  .ev (.eaddr 4 y28 y27),
  .chk (.padd 3 y29),
  .ev (.ld false 1 y26 (.padd 3 y29)),
  .ev (.bin .eql .int y30 (ki 2)),
  .chain false y31 (ups [.chk (.padd 2 y3),
  .chk (.padd 5 (.padd 2 y3)),
  .ev (.ld false 1 y26 (.padd 5 (.padd 2 y3))),
  .ev (.un .not y32),
  .chain true y33 (ups [.ev (.ld false 1 y26 (.fstid y17)),
  .ev (.ld false 1 y26 (.fstid y5)),
  .ev (.bin .eql .int y34 y35)]
  (.ret y36))]
  (.ret y34))]
  (.ite y32 (ups [.ev (.sto 1 y26 (.fstid y2) y27)]
  (.ret y33)) (ups [.ev (.ld true 14 y26 y3),
  .ev (.ld true 3 y26 y4),
  .call 119 y26 [y33, y34, y27] [true, true],
  .ev (.bin .eql .int (.tget 0 y35) (ki 1)),
  .join 7 1 (.ite y36 (ups [.ev (.ld false 1 y26 (.fstid y20)),
  .ev (.bin .add .int y37 (.tget 1 y35)),
  .ev (.sto 1 y26 (.fstid y20) y38),
  .chk (.padd 2 y3),
  .chk (.padd 2 (.padd 2 y3)),
  .ev (.ld false 1 y39 (.padd 2 (.padd 2 y3))),
  .ev (.bin .gtr .int (.tget 1 y35) y40),
  .chain true y41 (ups [.ev (.ld false 1 y39 (.fstid y20)),
  .chk (.padd 2 y3),
  .chk (.padd 3 (.padd 2 y3)),
  .ev (.ld false 1 y39 (.padd 3 (.padd 2 y3))),
  .ev (.bin .gtr .int y42 y43)]
  (.ret y44))]
  (.ite y42 (ups [.ev (.sto 1 y39 (.fstid y2) y27)]
  (.ret y43)) (.jump 7 [y39] []))) (.jump 7 [y26] []))]
  (.jump 6 [y37] [(.tget 0 y35), (.tget 1 y35), (.tcons (.tget 0 y35) (.tcons (.tget 1 y35) .tnil)), (.tcons (.tget 0 y35) (.tcons (.tget 1 y35) .tnil)), (.tget 0 y35), (.tget 1 y35), (.tget 0 y35)]))))]
  (.jump 4 [y28] [])) (.jump 3 [y26] [])]
  (.ret (.tcons (.ld false 1 y26 (.fstid y2)) (.tcons y26 .tnil))))]
  (.jump 2 [y26] [(.fstid y20)])),
  .ev (.bin .add .int y16 (ki 1))]
  (.jump 1 [y20, y19] [])) (.jump 0 [y17] [])))),
  .ev (.sto 1 y16 (.fstid y2) (ki (-1)))]
  (.ret (.tcons (.ld false 1 y17 (.fstid y2)) (.tcons y17 .tnil))))
theorem ku89 : UOk Tryz.prog 89 .plain (scf false [] [] Tryz.f89) [false, false] u89 := UOk.plain Tryz.func89 (by kernel_rfl) (by kernel_rfl)

noncomputable def u139 : U := (ups [.chk (.padd 0 y1),
  .ev (.ld false 1 y3 (.padd 0 y1)),
  .ev (.lenL y4),
  .join 0 1 (.loop 1 [(ki 0), y3] (ups [.ev (.bin .lss .int y6 y5)]
  (.ite y8 (ups [.join 2 1 (ups [.ev (.eaddr 4 y4 y6),
  .ev (.ld true 4 y7 y9),
  .chk (.aggN 4 y10),
  .ev (.ld false 1 y7 y2),
  .ev (.bin .eql .int (.cell 1 y10) y11),
  .gen (.wcallv [(y12, true)] y0 y7 [y6] [true]),
  .chain false y12 (ups [.ev (.un .not (.tget 0 y13))]
  (.ret y14))]
  (.ite y14 (.ret (.tcons .tnil (.tcons (.tget 1 y13) .tnil))) (.jump 2 [(.tget 1 y13)] [(.cell 1 y10), (.cell 0 y10), (.cell 1 y10), (.cell 2 y10), (.cell 3 y10)]))),
  .ev (.bin .add .int y6 (ki 1))]
  (.jump 1 [y10, y9] [])) (.jump 0 [y7] []))))]
  (.ret (.tcons .tnil (.tcons y6 .tnil))))
theorem ku139 : UOk Tryz.prog 139 .plain (scf false [1000021] [] Tryz.f139) [true, true, true] u139 := UOk.plain Tryz.func139 (by kernel_rfl) (by kernel_rfl)

end Go.Am.Sc

/-
 Due minutes,lateness,and where a car is out.
-/
namespace Go.Am.Sc

def Card.st (c:Card)(k:Nat):Int:=c.starts.getD k 0

def dueA (p:Plan)(c:Card)(i:Nat):Int:=
 if(i != 0&&(p.it (i-1)).leg==(p.it i).leg)=true then(c.ln (i-1)).minute+(p.it i).target else c.st (p.it i).leg.toNat+(p.it i).target

def ctl (p:Plan)(c:Card)(i:Nat):Bool:=(p.it i).kind==1&&(c.ln i).mark != 2

def lateN (p:Plan)(c:Card)(i:Nat):Int:=if ctl p c i=true then max 0 ((c.ln i).minute-dueA p c i) else 0
def earlyN (p:Plan)(c:Card)(i:Nat):Int:=if(ctl p c i&&!(p.it i).free)=true then max 0 (dueA p c i-(c.ln i).minute) else 0

def sumTo (p:Plan)(c:Card)(l:Int):Nat→Int
 | 0=>0
 | i+1=>sumTo p c l i+if(p.it i).leg=l then lateN p c i else 0

def stops (p:Plan)(c:Card)(i:Nat):Bool:=
 decide (lateN p c i > p.maxLate)||(decide (lateN p c i > 0)&&decide (sumTo p c (p.it i).leg (i+1) > p.legLate))||((c.ln i).mark==2&&(!p.ret||(p.it i).leg==p.legs-1))

def fst (f:Nat→Bool):Nat→Int
 | 0=>-1
 | n+1=>if 0≤fst f n then fst f n else if f n=true then n else -1

theorem fst_no {f:Nat→Bool}:∀{n:Nat},(∀k,k<n→f k=false)→fst f n=-1
 | 0,_=>rfl
 | n+1,h=>by
  rw[fst,fst_no fun k hk=>h k (by omega),if_neg (by omega),h n (by omega)]
  simp

theorem fst_at {f:Nat→Bool}{i:Nat}:∀{n:Nat},i<n→f i=true→(∀k,k<i→f k=false)→fst f n=i
 | 0,h,_,_=>absurd h (Nat.not_lt_zero _)
 | n+1,h,h1,h2=>by
  rcases Nat.lt_or_ge i n with h3 | h3
  ·have e:=fst_at h3 h1 h2
   rw[fst,e,if_pos (by omega)]
  ·obtain rfl:i=n:=by omega
   rw[fst,fst_no h2,if_neg (by omega),if_pos h1]

def outI (p:Plan)(c:Card):Int:=fst (stops p c) p.n

def runsB (p:Plan)(c:Card)(i:Int):Bool:=decide (outI p c<0)||decide (outI p c > i)

variable {p:Plan} {c:Card}

structure CdOk (p:Plan)(c:Card):Prop where
 cls:0≤c.cls∧c.cls<p.classes
 stl:(c.starts.length:Int)=p.legs
 st:∀k,k<c.starts.length→0≤c.st k∧c.st k≤100000
 len:c.lines.length=p.n
 ln:∀i,i<p.n→lineOk (p.it i) (c.ln i)=true

theorem cdOk (hc:cardOk p c=true):CdOk p c:=by
 simp only[cardOk,Bool.and_eq_true,beq_iff_eq] at hc
 obtain⟨h1,h2,h3,h4⟩:=hc
 have h5:=inR_t h1
 simp only[allR,Bool.and_eq_true] at h2
 have h6:=inR_t h2.2
 refine⟨by omega,by omega,fun k hk=>?_,h3,fun i hi=>?_⟩
 ·have:=List.all_eq_true.1 h2.1 c.starts[k] (List.getElem_mem hk)
  have:=inR_t this
  simpa[Card.st,List.getD,hk] using this
 ·have:=List.all_eq_true.1 h4 i (List.mem_range.2 hi)
  simp only[lnOk,Bool.and_eq_true] at this
  exact this.1

theorem CdOk.minute (h:CdOk p c){i:Nat}(hi:i<p.n):0≤(c.ln i).minute∧(c.ln i).minute≤100000:=by
 have:=h.ln i hi
 simp only[lineOk,Bool.and_eq_true] at this
 exact inR_t this.1

theorem CdOk.time (h:CdOk p c){i:Nat}(hi:i<p.n):0≤(c.ln i).time∧(c.ln i).time≤36000000:=by
 have:=h.ln i hi
 simp only[lineOk,Bool.and_eq_true] at this
 exact inR_t this.2.1

theorem CdOk.mark (h:CdOk p c){i:Nat}(hi:i<p.n):(c.ln i).mark=0∨(c.ln i).mark=1∨(c.ln i).mark=2:=by
 have:=h.ln i hi
 simp only[lineOk,Bool.and_eq_true,Bool.or_eq_true,beq_iff_eq] at this
 omega

theorem Plan.ok_kind (h:p.ok=true){i:Nat}(hi:i<p.n):((p.it i).kind=1∧0≤(p.it i).target∧(p.it i).target≤1440)∨((p.it i).kind=2∧(p.it i).target=0∧(p.it i).free=false):=by
 have:=Plan.ok_itOk (Plan.ok_parts h).2.1 hi
 simp only[Plan.itOk,Bool.and_eq_true,Bool.or_eq_true,beq_iff_eq,Bool.not_eq_true'] at this
 rcases this.2.2 with⟨h1,h2⟩ | ⟨h1,h2,h3⟩
 ·exact .inl ⟨h1,inR_t h2⟩
 ·exact .inr ⟨h1,h2,h3⟩

theorem Plan.ok_mono (h : p.ok = true) : ∀ {i k : Nat}, i ≤ k → k < p.n → (p.it i).leg ≤ (p.it k).leg
  | i, 0, h1, _ => by obtain rfl : i = 0 := by omega
                      omega
  | i, k + 1, h1, h2 => by
    rcases Nat.lt_or_ge k i with h3 | h3
    · obtain rfl : i = k + 1 := by omega
      omega
    · have ih := Plan.ok_mono h h3 (by omega)
      have := Plan.ok_itOk (Plan.ok_parts h).2.1 h2
      simp only [Plan.itOk, Bool.and_eq_true, Bool.or_eq_true, beq_iff_eq, Nat.add_sub_cancel] at this
      rcases this.1 with h4 | h4
      · omega
      · have := inR_t h4
        omega

theorem CdOk.stAt (hp:p.ok=true)(h:CdOk p c){i:Nat}(hi:i<p.n):(p.it i).leg.toNat<c.starts.length∧0≤c.st (p.it i).leg.toNat∧c.st (p.it i).leg.toNat≤100000:=by
 have h1:=Plan.ok_leg hp hi
 have h2:=Plan.ok_mono hp (i:=i) (k:=p.n-1) (by omega) (by omega)
 have h3:=h.stl
 unfold Plan.legs at h3
 have h4:(p.it i).leg.toNat<c.starts.length:=by omega
 exact⟨h4,h.st _ h4⟩

theorem CdOk.due (hp:p.ok=true)(h:CdOk p c){i:Nat}(hi:i<p.n):0≤dueA p c i∧dueA p c i≤101440:=by
 have h1:=Plan.ok_kind hp hi
 have h2:=h.stAt hp hi
 have h3:=h.minute (i:=i-1) (by omega)
 unfold dueA
 split <;> omega

theorem CdOk.late (hp:p.ok=true)(h:CdOk p c){i:Nat}(hi:i<p.n):0≤lateN p c i∧lateN p c i≤100000:=by
 have h1:=h.due hp hi
 have h2:=h.minute hi
 unfold lateN
 split <;> omega

theorem CdOk.early (hp:p.ok=true)(h:CdOk p c){i:Nat}(hi:i<p.n):0≤earlyN p c i∧earlyN p c i≤101440:=by
 have h1:=h.due hp hi
 have h2:=h.minute hi
 unfold earlyN
 split <;> omega

theorem CdOk.sum (hp:p.ok=true)(h:CdOk p c)(l:Int):∀{i:Nat},i≤p.n→0≤sumTo p c l i∧sumTo p c l i≤100000*i
 | 0,_=>by simp[sumTo]
 | i+1,hi=>by
  have ih:=h.sum hp l (i:=i) (by omega)
  have:=h.late hp (i:=i) (by omega)
  rw[sumTo]
  split <;> omega

end Go.Am.Sc

/-
 Due minutes and lateness,in the program and in its specification.
-/
namespace Go.Am.Sc
open Go.Proofs
set_option maxRecDepth 100000
set_option maxHeartbeats 4000000

attribute [local irreducible] inR allR lineOk

variable {bs:List D} {p:Plan} {c:Card}

theorem ea_st {k:Nat}(h:k<c.starts.length):D.eaddr 1 (Is c.starts) (In k)=some (.ptr [I (c.st k)]):=by
 have:=eaddr_get (enc:=I) (sz:=1) (xs:=c.starts) h rfl
 simpa[Card.st,List.getD,h,D.cells] using this


theorem c88 (hok:p.ok=true)(h:CdOk p c){i:Nat}(hi:i<p.n):FSpecR Tryz.prog 88 (.st bs) [p.d,c.d,In i] (I (dueA p c i)):=by
 have hh:=Plan.ok_head hok
 have hkd:=Plan.ok_kind hok hi
 have hst:=h.stAt hok hi
 have hlg:=Plan.ok_leg hok hi
 have hln:=h.len
 have hmn:=h.minute hi
 have heL:D.eaddr 1 (Is c.starts) (I (p.it i).leg)=some (.ptr [I (c.st (p.it i).leg.toNat)]):=by
  have:=ea_st (c:=c) hst.1
  rwa [In,show((p.it i).leg.toNat:Int)=(p.it i).leg by omega] at this
 unfold dueA
 by_cases h0:i=0
 ·have hz0:decide ((i:Int) > 0)=false:=by simp[h0]
  rw[if_neg (by simp[h0])]
  refine ku88.R rfl rfl ?_
  unfold u88
  simp only[ups_cons,ups_nil,List.cons_append,List.nil_append]
  repeat' (first|(apply nrm;simp only[sbe];rfl)|(apply u_andF;rfl;exact hz0)|(apply u_iteF;rfl;exact rfl)|(apply u_chk;rfl)|(apply u_eaddr;rfl;rfl;(·first|exact ea_it hi|exact heL);simp only[sbe];rfl)|(apply u_add;rfl;rfl;omega;simp only[sbe];rfl)|(apply u_ev;rfl;simp only[sbe];rfl)|exact u_ret rfl rfl)
 ·have hz0:1≤i:=by omega
  have hmn1:=h.minute (i:=i-1) (by omega)
  have hzt:decide ((i:Int) > 0)=true:=by simp;omega
  have hzn:(i != 0)=true:=by simp[h0]
  cases hb:(p.it (i-1)).leg==(p.it i).leg
  ·have hf:(decide ((i:Int) > 0)&&(p.it (i-1)).leg==(p.it i).leg)=false:=by rw[hb,Bool.and_false]
   rw[if_neg (by simp)]
   refine ku88.R rfl rfl ?_
   unfold u88
   simp only[ups_cons,ups_nil,List.cons_append,List.nil_append]
   repeat' (first|(apply nrm;simp only[sbe];rfl)|(apply u_iteF;rfl;exact hf)|(apply u_chk;rfl)|(apply u_eaddr;rfl;rfl;(·first|exact ea_it hi|exact ea_it (Nat.lt_of_le_of_lt (Nat.sub_le i 1) hi)|exact heL);simp only[sbe];rfl)|(apply u_pred;rfl;omega;simp only[sbe];rfl)|(apply u_add;rfl;rfl;omega;simp only[sbe];rfl)|(apply u_ev;rfl;simp only[sbe];rfl)|(apply u_and;rfl)|exact u_ret rfl rfl|(intro hz;(try simp only[sbs] at hz)))
  ·have ht:(decide ((i:Int) > 0)&&(p.it (i-1)).leg==(p.it i).leg)=true:=by rw[hb,hzt];rfl
   rw[if_pos (by rw[hzn];rfl)]
   refine ku88.R rfl rfl ?_
   unfold u88
   simp only[ups_cons,ups_nil,List.cons_append,List.nil_append]
   repeat' (first|(apply nrm;simp only[sbe];rfl)|(apply u_iteT;rfl;exact ht)|(apply u_chk;rfl)|(apply u_eaddr;rfl;rfl;(·first|exact ea_it hi|exact ea_it (Nat.lt_of_le_of_lt (Nat.sub_le i 1) hi)|exact ea_ln (by omega));simp only[sbe];rfl)|(apply u_pred;rfl;omega;simp only[sbe];rfl)|(apply u_add;rfl;rfl;omega;simp only[sbe];rfl)|(apply u_ev;rfl;simp only[sbe];rfl)|(apply u_and;rfl)|exact u_ret rfl rfl|(intro hz;(try simp only[sbs] at hz)))

def sideK (p:Plan)(c:Card)(i:Nat):Int:=if ctl p c i=true then(if(c.ln i).minute > dueA p c i then 1 else if(c.ln i).minute<dueA p c i then 2 else 0) else 0
def sideN (p:Plan)(c:Card)(i:Nat):Int:=if ctl p c i=true then(if(c.ln i).minute > dueA p c i then(c.ln i).minute-dueA p c i else dueA p c i-(c.ln i).minute) else 0

theorem c119 (hok:p.ok=true)(h:CdOk p c){i:Nat}(hi:i<p.n):FSpecR Tryz.prog 119 (.st bs) [p.d,c.d,In i] (.tup [I (sideK p c i),I (sideN p c i)]):=by
 have hd:=h.due hok hi
 have hm:=h.minute hi
 have hln:=h.len
 have h88:=c88 (bs:=bs) hok h hi
 refine ku119.R rfl rfl ?_
 unfold u119
 simp only[ups_cons,ups_nil,List.cons_append,List.nil_append]
 repeat' (first|(apply nrm;simp only[sbe];rfl)|(apply u_chk;rfl)|(apply u_eaddr;rfl;rfl;(·first|exact ea_it hi|exact ea_ln (by omega));simp only[sbe];rfl)|(apply u_sub;rfl;rfl;omega;simp only[sbe];rfl)|(apply u_ev;rfl;simp only[sbe];rfl)|(apply u_call;rfl;rfl;exact h88;rfl;simp only[sbe];rfl)|(apply u_or;rfl)|refine u_join ?_|(apply u_jump;rfl;rfl)|refine at_jump ?_|refine kj rfl ?_|(apply u_ite;rfl;all_goals (intro hz;(try simp only[sbs] at hz);first|(exact absurd hz (by decide))|(exfalso;omega)|skip))|exact u_ret rfl rfl|(apply u_ret;rfl;first|exact rfl|(refine retB ?_)|(refine retI ?_)|(refine retD ?_))|(intro hz;(try simp only[sbs] at hz)))
 ·have hz0:ctl p c i=false:=by
   rw[Bool.eq_false_iff]
   simp only[ctl,ne_eq,Bool.and_eq_true,beq_iff_eq,bne_iff_ne]
   omega
  simp[sideK,sideN,hz0]
 all_goals
  have hz0:ctl p c i=true:=by
   simp only[ctl,Bool.and_eq_true,beq_iff_eq,bne_iff_ne]
   omega
  simp only[sideK,sideN,if_pos hz0]
 ·rw[if_pos (by omega),if_pos (by omega)]
 ·rw[if_neg (by omega),if_pos (by omega),if_neg (by omega),wrap64 (by omega)]
  rw[show(0:Int)-((c.ln i).minute-dueA p c i)=dueA p c i-(c.ln i).minute by omega]
 ·rw[if_neg (by omega),if_neg (by omega),if_neg (by omega),show dueA p c i-(c.ln i).minute=0 by omega]

theorem side_late {i:Nat}:(sideK p c i==1)=decide (lateN p c i > 0):=by
 unfold sideK lateN
 split
 ·split
  ·rw[show decide (_ > _)=true by simp;omega];rfl
  ·rw[show decide (_ > _)=false by simp;omega]
   split <;> rfl
 ·rfl

theorem side_by {i:Nat}(h:sideK p c i=1):sideN p c i=lateN p c i:=by
 unfold sideK at h
 unfold sideN lateN
 split at h
 ·rename_i hc
  rw[if_pos hc,if_pos hc]
  split at h
  ·rename_i hm
   rw[if_pos hm]
   omega
  ·split at h <;> cases h
 ·cases h

theorem c118 (n:Int):FSpecR Tryz.prog 118 (.st bs) [p.d,I n] (.fn 139 [] [.ptr p.cs,.ptr [I n]]):=by
 refine ku118.R rfl rfl ?_
 unfold u118
 simp only[ups_cons,ups_nil,List.cons_append,List.nil_append]
 repeat' (first|(apply u_ev;rfl;simp only[sbe];rfl)|exact u_ret rfl rfl)

end Go.Am.Sc

/-
 Where a car is out: the loop over a leg's items.
-/
namespace Go.Am.Sc
open Go.Proofs
set_option maxRecDepth 100000
set_option maxHeartbeats 4000000

attribute [local irreducible] inR allR lineOk

variable {bs:List D} {p:Plan} {c:Card}

section
variable {k0:Nat} {rec:Loop×Code} {sl:List Nat} {cds:List D} {n:Int}

theorem c139_all (hN:p.n≤100)(F:Nat→List D)(h1:∀i,i<p.n→(p.it i).leg=n→YSpecB Tryz.prog (.ylb k0 rec sl cds) (.st (F i)) [In i] true (.st (F (i+1))))(h2:∀i,i<p.n→(p.it i).leg≠n→F (i+1)=F i) :
  FSpecW Tryz.prog 139 (.st (F 0)) [.ylb k0 rec sl cds,.ptr p.cs,.ptr [I n]] (.tup []) (.st (F p.n)):=by
 refine ku139.W rfl ?_
 unfold u139
 simp only[ups_cons,ups_nil,List.cons_append,List.nil_append]
 repeat' (first|(apply u_chk;rfl)|(apply u_lenL;rfl;exact ln_it;simp only[sbe];rfl)|(apply u_ev;rfl;simp only[sbe];rfl)|refine u_join ?_)
 refine u_range (fun i=>[In i,.st (F i)]) (fun _=>True) p.n rfl (fun _=>rfl) trivial (fun i hi _ R hR=>?_) (fun _ R=>?_)
 ·have hli:decide ((i:Int)<(p.n:Int))=true:=by simp;omega
  have hR:=hR trivial
  cases he:(p.it i).leg==n
  ·have e:=h2 i hi (by simpa using he)
   rw[e] at hR
   repeat' (first|(apply nrm;simp only[sbe];rfl)|((apply u_genTN (.v (.bool false)));rfl;exact he;rfl;simp only[sbe];rfl)|(apply u_andF;rfl;exact he)|(apply u_iteT;rfl;exact hli)|(apply u_iteF;rfl;exact rfl)|(apply u_chk;rfl)|(apply u_eaddr;rfl;rfl;exact ea_it hi;simp only[sbe];rfl)|(apply u_inc;rfl;omega;simp only[sbe];rfl)|(apply u_ev;rfl;simp only[sbe];rfl)|refine u_join ?_|(apply u_jump;rfl;rfl)|refine at_jump ?_|refine kj rfl ?_)
   exact hR
  ·have hc:CallV Tryz.prog (.ylb k0 rec sl cds) (.st (F i)) [In i] (.v (.bool true)) (.st (F (i+1))):=⟨true,rfl,h1 i hi (by simpa using he)⟩
   repeat' (first|(apply nrm;simp only[sbe];rfl)|(apply u_genT;rfl;exact he;rfl;rfl;rfl;exact hc;rfl;simp only[sbe];rfl)|(apply u_iteT;rfl;exact hli)|(apply u_iteF;rfl;exact Bool.and_false _)|(apply u_chk;rfl)|(apply u_eaddr;rfl;rfl;exact ea_it hi;simp only[sbe];rfl)|(apply u_inc;rfl;omega;simp only[sbe];rfl)|(apply u_ev;rfl;simp only[sbe];rfl)|(apply u_and;rfl)|refine u_join ?_|(apply u_jump;rfl;rfl)|refine at_jump ?_|refine kj rfl ?_|exact u_ret rfl rfl|(intro hz;(try simp only[sbs] at hz)))
   all_goals (try exact hR)
 ·have hlf:decide ((p.n:Int)<(p.n:Int))=false:=by simp
  repeat' (first|(apply nrm;simp only[sbe];rfl)|(apply u_iteF;rfl;exact hlf)|(apply u_ev;rfl;simp only[sbe];rfl)|(apply u_jump;rfl;rfl)|refine at_jump ?_|(refine over_jump (by decide) ?_)|refine kj rfl ?_|exact u_ret rfl rfl)

theorem c139_stop (hN:p.n≤100)(F:Nat→List D)(G:List D)(m:Nat)(hm:m<p.n)(hl:(p.it m).leg=n)(h1:∀i,i<m→(p.it i).leg=n→YSpecB Tryz.prog (.ylb k0 rec sl cds) (.st (F i)) [In i] true (.st (F (i+1))))(h2:∀i,i<m→(p.it i).leg≠n→F (i+1)=F i)(h3:YSpecB Tryz.prog (.ylb k0 rec sl cds) (.st (F m)) [In m] false (.st G)) :
  FSpecW Tryz.prog 139 (.st (F 0)) [.ylb k0 rec sl cds,.ptr p.cs,.ptr [I n]] (.tup []) (.st G):=by
 refine ku139.W rfl ?_
 unfold u139
 simp only[ups_cons,ups_nil,List.cons_append,List.nil_append]
 repeat' (first|(apply u_chk;rfl)|(apply u_lenL;rfl;exact ln_it;simp only[sbe];rfl)|(apply u_ev;rfl;simp only[sbe];rfl)|refine u_join ?_)
 refine u_range (fun i=>[In i,.st (F i)]) (fun i=>i≤m) p.n rfl (fun _=>rfl) (Nat.zero_le _) (fun i hi hJ R hR=>?_) (fun hJ R=>?_)
 ·have hli:decide ((i:Int)<(p.n:Int))=true:=by simp;omega
  rcases Nat.lt_or_ge i m with him | him
  ·have hR:=hR (by omega)
   cases he:(p.it i).leg==n
   ·have e:=h2 i him (by simpa using he)
    rw[e] at hR
    repeat' (first|(apply nrm;simp only[sbe];rfl)|((apply u_genTN (.v (.bool false)));rfl;exact he;rfl;simp only[sbe];rfl)|(apply u_andF;rfl;exact he)|(apply u_iteT;rfl;exact hli)|(apply u_iteF;rfl;exact rfl)|(apply u_chk;rfl)|(apply u_eaddr;rfl;rfl;exact ea_it hi;simp only[sbe];rfl)|(apply u_inc;rfl;omega;simp only[sbe];rfl)|(apply u_ev;rfl;simp only[sbe];rfl)|refine u_join ?_|(apply u_jump;rfl;rfl)|refine at_jump ?_|refine kj rfl ?_)
    exact hR
   ·have hc:CallV Tryz.prog (.ylb k0 rec sl cds) (.st (F i)) [In i] (.v (.bool true)) (.st (F (i+1))):=⟨true,rfl,h1 i him (by simpa using he)⟩
    repeat' (first|(apply nrm;simp only[sbe];rfl)|(apply u_genT;rfl;exact he;rfl;rfl;rfl;exact hc;rfl;simp only[sbe];rfl)|(apply u_iteT;rfl;exact hli)|(apply u_iteF;rfl;exact Bool.and_false _)|(apply u_chk;rfl)|(apply u_eaddr;rfl;rfl;exact ea_it hi;simp only[sbe];rfl)|(apply u_inc;rfl;omega;simp only[sbe];rfl)|(apply u_ev;rfl;simp only[sbe];rfl)|(apply u_and;rfl)|refine u_join ?_|(apply u_jump;rfl;rfl)|refine at_jump ?_|refine kj rfl ?_|exact u_ret rfl rfl|(intro hz;(try simp only[sbs] at hz)))
    all_goals (try exact hR)
  ·obtain rfl:i=m:=by omega
   have he:((p.it i).leg==n)=true:=by simpa using hl
   have ht:(((p.it i).leg==n)&&true)=true:=by rw[he];rfl
   have hc:CallV Tryz.prog (.ylb k0 rec sl cds) (.st (F i)) [In i] (.v (.bool false)) (.st G):=⟨false,rfl,h3⟩
   repeat' (first|(apply nrm;simp only[sbe];rfl)|(apply u_genT;rfl;exact he;rfl;rfl;rfl;exact hc;rfl;simp only[sbe];rfl)|(apply u_iteT;rfl;(·first|exact hli|exact ht))|(apply u_chk;rfl)|(apply u_eaddr;rfl;rfl;exact ea_it hi;simp only[sbe];rfl)|(apply u_ev;rfl;simp only[sbe];rfl)|(apply u_and;rfl)|refine u_join ?_|exact u_ret rfl rfl|(apply u_ret;rfl;first|exact rfl|(refine retB ?_)|(refine retI ?_)|(refine retD ?_))|(intro hz;(try simp only[sbs] at hz)))
 ·exact absurd hJ (by omega)

end

end Go.Am.Sc

/-
 Where a car is out,in the program.
-/
namespace Go.Am.Sc
open Go.Proofs
set_option maxRecDepth 100000
set_option maxHeartbeats 4000000

attribute [local irreducible] inR allR lineOk

variable {bs:List D} {p:Plan} {c:Card}

abbrev vb (n:Int):D:=.blk 3 1 [I n]

def legJ (p:Plan)(c:Card):Nat→List D
 | 0=>[]
 | k+1=>legJ p c k++[vb k,vb (sumTo p c k p.n),.tup []]

def legS (p:Plan)(c:Card)(k:Nat):List D:=vb 0 :: vb (p.it (p.n-1)).leg :: legJ p c k

def legF (p:Plan)(c:Card)(k:Nat)(x:D)(i:Nat):List D:=(legS p c k++[vb k])++vb (sumTo p c k i) :: [x]

theorem legF_set {k i:Nat}{x y:D}:(legF p c k x i).set ((legS p c k++[vb k])++[vb 0]).length y=legF p c k y i:=by
 unfold legF
 rw[List.set_append_right _ _ (by simp)]
 simp

theorem legF_get {k i:Nat}{x:D}:(legF p c k x i)[((legS p c k++[vb k])++[vb 0]).length]? = some x:=by
 unfold legF
 rw[List.getElem?_append_right (by simp)]
 simp

theorem legF_n {k i:Nat}{x:D}:D.ld false 1 (.st (legF p c k x i)) (.loc (legS p c k).length 0)=some (I k):=by
 unfold legF
 rw[List.append_assoc]
 exact ld_var

theorem legF_s {k i:Nat}{x:D}:D.ld false 1 (.st (legF p c k x i)) (.loc (legS p c k++[vb k]).length 0)=some (I (sumTo p c k i)):=ld_var

theorem legF_last {k i:Nat}{x:D}:D.ld false 1 (.st (legF p c k x i)) (.loc 1 0)=some (I (p.it (p.n-1)).leg):=ld_blk (e:=3) (sz:=1) (cs:=[I (p.it (p.n-1)).leg]) rfl rfl

theorem legF_sto {k i:Nat}{x:D}:D.sto 1 (.st (legF p c k x i)) (.loc (legS p c k++[vb k]).length 0) (I (sumTo p c k (i+1)))=some (.st (legF p c k x (i+1))):=sto_var rfl

def legG (p:Plan)(c:Card)(k:Nat)(x:D)(i:Nat)(r:Int):List D:=vb r :: (legF p c k x i).tail

theorem legF_res {k i:Nat}{x:D}{r:Int}:D.sto 1 (.st (legF p c k x i)) (.loc 0 0) (I r)=some (.st (legG p c k x i r)):=sto_var (bs:=[]) (r:=(legF p c k x i).tail) (e:=3) (sz:=1) (d0:=I 0) (d:=I r) rfl

theorem legG_set {k i:Nat}{x y:D}{r:Int}:(legG p c k x i r).set ((legS p c k++[vb k])++[vb 0]).length y=legG p c k y i r:=by
 have:=legF_set (p:=p) (c:=c) (k:=k) (i:=i) (x:=x) (y:=y)
 simp only[legG,legF,legS,List.cons_append,List.length_cons,List.set_cons_succ,List.tail_cons,List.cons.injEq,true_and] at this ⊢
 exact this

theorem legG_get {k i:Nat}{x:D}{r:Int}:(legG p c k x i r)[((legS p c k++[vb k])++[vb 0]).length]? = some x:=by
 have:=legF_get (p:=p) (c:=c) (k:=k) (i:=i) (x:=x)
 simp only[legG,legF,legS,List.cons_append,List.length_cons,List.getElem?_cons_succ,List.tail_cons] at this ⊢
 exact this

theorem legF_end {k:Nat}:legF p c k (.tup []) p.n=legS p c (k+1):=by simp[legF,legS,legJ]

theorem legF_zero {k:Nat}{x:D}:((legS p c k++[vb k])++[vb 0])++[x]=legF p c k x 0:=by simp[legF,sumTo]

theorem leg_n {k:Nat}:D.ld false 1 (.st ((legS p c k++[vb k])++[vb 0])) (.loc (legS p c k).length 0)=some (I k):=by
 rw[List.append_assoc]
 exact ld_var

theorem leg_s1 {k:Nat}:D.sto 1 (.st (legS p c k++[vb 0])) (.loc (legS p c k).length 0) (I k)=some (.st (legS p c k++[vb k])):=sto_var rfl
theorem leg_s2 {k:Nat}:D.sto 1 (.st ((legS p c k++[vb k])++[vb 0])) (.loc (legS p c k++[vb k]).length 0) (I 0)=some (.st ((legS p c k++[vb k])++[vb 0])):=sto_var rfl








theorem c89_none (hp:p.Ok)(hok:p.ok=true)(h:CdOk p c)(hno:∀i,i<p.n→stops p c i=false):FSpecW Tryz.prog 89 (.st []) [p.d,c.d] (I (-1)) (.st (vb (-1) :: (legS p c p.legs.toNat).tail)):=by
 have hh:=Plan.ok_head hok
 have hln:=h.len
 have hlg:=Plan.ok_legs hok
 have hl:=Plan.ok_leg hok (i:=p.n-1) (by omega)
 refine ku89.W rfl ?_
 unfold u89
 simp only[ups_cons,ups_nil,List.cons_append,List.nil_append]
 repeat' (first|(apply u_chk;rfl)|(apply u_eaddr;rfl;rfl;exact ea_last hh.1.1;simp only[sbe];rfl)|(apply u_lenL;rfl;exact ln_it;simp only[sbe];rfl)|(apply u_add;rfl;rfl;omega;simp only[sbe];rfl)|(apply u_sub;rfl;rfl;omega;simp only[sbe];rfl)|(apply u_ev;rfl;simp only[sbe];rfl)|refine u_join ?_)
 refine u_range (fun k=>[In k,.st (legS p c k)]) (fun _=>True) p.legs.toNat rfl (fun _=>rfl) trivial (fun k hk _ R hR=>?_) (fun _ R=>?_)
 ·have hR:=hR trivial
  have hkl:decide ((k:Int)<(p.it (p.n-1)).leg+1)=true:=by
   unfold Plan.legs at hk
   simp;omega
  repeat' (first|(apply nrm;simp only[sbe];rfl)|(apply u_iteT;rfl;exact hkl)|(apply u_ld;rfl;rfl;exact leg_n;simp only[sbe];rfl)|(apply u_sto;rfl;rfl;rfl;(·first|exact leg_s1|exact leg_s2);simp only[sbe];rfl)|(apply u_ev;rfl;simp only[sbe];rfl)|(apply u_call;rfl;rfl;exact c118 _;rfl;simp only[sbe];rfl)|refine u_join ?_)
  refine u_rforx (bs':=legF p c k (.tup []) p.n) (.tup []) false rfl (by kernel_rfl) rfl rfl legF_get (fun rec hrec=>?_) (fun _=>?_) (fun e=>by cases e)
  ·rw[legF_zero,legF_set]
   refine c139_all hh.1.2 (legF p c k (.lpb false)) (fun i hi hik=>?_) (fun i hi hik=>by unfold legF;rw[sumTo,if_neg hik,Int.add_zero])
   have hR2:=hrec (legF p c k (.lpb false) i) [In i] true (legF p c k (.tup []) (i+1)) legF_get rfl legF_get
   rw[legF_set,legF_set] at hR2
   refine hR2 ?_
   have hns:stops p c i=false:=hno i hi
   have hlast:p.legs-1=(p.it (p.n-1)).leg:=by unfold Plan.legs;omega
   have hL:=h.late hok hi
   have hs:=h.sum hok (k:Int) (i:=i) (by omega)
   have h119:=c119 (bs:=legF p c k (.tup []) i) hok h hi
   have hsl:=side_late (p:=p) (c:=c) (i:=i)
   have hsum:sumTo p c k (i+1)=sumTo p c k i+lateN p c i:=by rw[sumTo,if_pos hik]
   have hsto:D.sto 1 (.st (legF p c k (.tup []) i)) (.loc (legS p c k++[vb k]).length 0) (I (sumTo p c k i+lateN p c i))=some (.st (legF p c k (.tup []) (i+1))):=by
    rw[←hsum]
    exact legF_sto
   have hld:D.ld false 1 (.st (legF p c k (.tup []) (i+1))) (.loc (legS p c k++[vb k]).length 0)=some (I (sumTo p c k i+lateN p c i)):=by
    rw[←hsum]
    exact legF_s
   rw[stops,hik,hlast,hsum] at hns
   rw[Bool.or_eq_false_iff,Bool.or_eq_false_iff] at hns
   obtain⟨⟨hn1,hn2⟩,hn3⟩:=hns
   clear hR2 hrec
   simp only[List.cons_append,List.nil_append]
   cases hlt:decide (lateN p c i > 0)
   ·have hz:lateN p c i=0:=by simp at hlt;omega
    have e:legF p c k (.tup []) (i+1)=legF p c k (.tup []) i:=by unfold legF;rw[hsum,hz,Int.add_zero]
    rw[hlt] at hsl
    rw[e]
    repeat' (first|(apply nrm;simp only[sbe];rfl)|(apply u_iteF;rfl;(·first|exact hn3|exact hsl))|(apply u_chk;rfl)|(apply u_ld;rfl;rfl;(·first|exact legF_n|exact legF_last);simp only[sbe];rfl)|(apply u_eaddr;rfl;rfl;(·exact ea_ln (by omega));simp only[sbe];rfl)|(apply u_ev;rfl;simp only[sbe];rfl)|(apply u_call;rfl;rfl;exact h119;rfl;simp only[sbe];rfl)|(apply u_or;rfl)|(apply u_and;rfl)|refine u_join ?_|(apply u_jump;rfl;rfl)|refine at_jump ?_|refine kj rfl ?_|exact u_ret rfl rfl|(intro hz;(try simp only[sbs] at hz)))
    all_goals exact rfl
   ·have hk1:sideK p c i=1:=by rw[hlt] at hsl;simpa using hsl
    rw[hk1,side_by hk1] at h119
    rw[hlt,Bool.true_and] at hn2
    have hf2:(decide (lateN p c i > p.maxLate)||decide (sumTo p c k i+lateN p c i > p.legLate))=false:=by rw[hn1,hn2];rfl
    repeat' (first|(apply nrm;simp only[sbe];rfl)|(apply u_iteT;rfl;exact rfl)|(apply u_iteF;rfl;(·first|exact hn3|exact hf2))|(apply u_chk;rfl)|(apply u_ld;rfl;rfl;(·first|exact legF_n|exact hld|exact legF_s|exact legF_last);simp only[sbe];rfl)|(apply u_eaddr;rfl;rfl;(·exact ea_ln (by omega));simp only[sbe];rfl)|(apply u_sto;rfl;rfl;rfl;exact hsto;simp only[sbe];rfl)|(apply u_add;rfl;rfl;omega;simp only[sbe];rfl)|(apply u_ev;rfl;simp only[sbe];rfl)|(apply u_call;rfl;rfl;exact h119;rfl;simp only[sbe];rfl)|(apply u_or;rfl)|(apply u_and;rfl)|refine u_join ?_|(apply u_jump;rfl;rfl)|refine at_jump ?_|refine kj rfl ?_|exact u_ret rfl rfl|(intro hz;(try simp only[sbs] at hz)))
    all_goals exact rfl
  ·rw[legF_end]
   repeat' (first|(apply nrm;simp only[sbe];rfl)|(apply u_inc;rfl;omega;simp only[sbe];rfl)|(apply u_jump;rfl;rfl)|refine at_jump ?_|refine kj rfl ?_)
   exact hR
 ·have hkl:decide ((p.legs.toNat:Int)<(p.it (p.n-1)).leg+1)=false:=by
   unfold Plan.legs
   simp;omega
  have hsto:D.sto 1 (.st (legS p c p.legs.toNat)) (.loc 0 0) (I (-1))=some (.st (vb (-1) :: (legS p c p.legs.toNat).tail)):=sto_var (bs:=[]) (r:=(legS p c p.legs.toNat).tail) (e:=3) (sz:=1) (d0:=I 0) (d:=I (-1)) rfl
  repeat' (first|(apply nrm;simp only[sbe];rfl)|(apply u_iteF;rfl;exact hkl)|(apply u_sto;rfl;rfl;rfl;exact hsto;simp only[sbe];rfl)|(apply u_ev;rfl;simp only[sbe];rfl)|(apply u_jump;rfl;rfl)|refine at_jump ?_|(refine over_jump (by decide) ?_)|refine kj rfl ?_|exact u_ret rfl rfl)

def stopAt (p:Plan)(c:Card)(m:Nat):Nat:=if((c.ln m).mark==2&&(!p.ret||(p.it m).leg==(p.it (p.n-1)).leg))=true then m else m+1

theorem c89_stop (hp:p.Ok)(hok:p.ok=true)(h:CdOk p c){m:Nat}(hm:m<p.n)(hst:stops p c m=true)(hno:∀i,i<m→stops p c i=false):FSpecW Tryz.prog 89 (.st []) [p.d,c.d] (I m) (.st (legG p c (p.it m).leg.toNat (.tup []) (stopAt p c m) m)):=by
 have hlm:=Plan.ok_leg hok hm
 have hmx:=(Plan.ok_parts hok).2.2.1
 simp only[Plan.rulesOk,Bool.and_eq_true] at hmx
 have hmx:=inR_t hmx.2.2.2.1
 have hle:=Plan.ok_mono hok (i:=m) (k:=p.n-1) (by omega) (by omega)
 have hh:=Plan.ok_head hok
 have hln:=h.len
 have hlg:=Plan.ok_legs hok
 have hl:=Plan.ok_leg hok (i:=p.n-1) (by omega)
 refine ku89.W rfl ?_
 unfold u89
 simp only[ups_cons,ups_nil,List.cons_append,List.nil_append]
 repeat' (first|(apply u_chk;rfl)|(apply u_eaddr;rfl;rfl;exact ea_last hh.1.1;simp only[sbe];rfl)|(apply u_lenL;rfl;exact ln_it;simp only[sbe];rfl)|(apply u_add;rfl;rfl;omega;simp only[sbe];rfl)|(apply u_sub;rfl;rfl;omega;simp only[sbe];rfl)|(apply u_ev;rfl;simp only[sbe];rfl)|refine u_join ?_)
 refine u_range (fun k=>[In k,.st (legS p c k)]) (fun k=>(k:Int)≤(p.it m).leg) p.legs.toNat rfl (fun _=>rfl) (by omega) (fun k hk hJ R hR=>?_) (fun hJ R=>?_)
 ·rcases Int.lt_or_le k (p.it m).leg with hkm | hkm
  ·have hR:=hR (by omega)
   have hkl:decide ((k:Int)<(p.it (p.n-1)).leg+1)=true:=by
    unfold Plan.legs at hk
    simp;omega
   repeat' (first|(apply nrm;simp only[sbe];rfl)|(apply u_iteT;rfl;exact hkl)|(apply u_ld;rfl;rfl;exact leg_n;simp only[sbe];rfl)|(apply u_sto;rfl;rfl;rfl;(·first|exact leg_s1|exact leg_s2);simp only[sbe];rfl)|(apply u_ev;rfl;simp only[sbe];rfl)|(apply u_call;rfl;rfl;exact c118 _;rfl;simp only[sbe];rfl)|refine u_join ?_)
   refine u_rforx (bs':=legF p c k (.tup []) p.n) (.tup []) false rfl (by kernel_rfl) rfl rfl legF_get (fun rec hrec=>?_) (fun _=>?_) (fun e=>by cases e)
   ·rw[legF_zero,legF_set]
    refine c139_all hh.1.2 (legF p c k (.lpb false)) (fun i hi hik=>?_) (fun i hi hik=>by unfold legF;rw[sumTo,if_neg hik,Int.add_zero])
    have hR2:=hrec (legF p c k (.lpb false) i) [In i] true (legF p c k (.tup []) (i+1)) legF_get rfl legF_get
    rw[legF_set,legF_set] at hR2
    refine hR2 ?_
    have hns:stops p c i=false:=(hno i (by rcases Nat.lt_or_ge i m with h1 | h1;exact h1;have:=Plan.ok_mono hok h1 hi;omega))
    have hlast:p.legs-1=(p.it (p.n-1)).leg:=by unfold Plan.legs;omega
    have hL:=h.late hok hi
    have hs:=h.sum hok (k:Int) (i:=i) (by omega)
    have h119:=c119 (bs:=legF p c k (.tup []) i) hok h hi
    have hsl:=side_late (p:=p) (c:=c) (i:=i)
    have hsum:sumTo p c k (i+1)=sumTo p c k i+lateN p c i:=by rw[sumTo,if_pos hik]
    have hsto:D.sto 1 (.st (legF p c k (.tup []) i)) (.loc (legS p c k++[vb k]).length 0) (I (sumTo p c k i+lateN p c i))=some (.st (legF p c k (.tup []) (i+1))):=by
     rw[←hsum]
     exact legF_sto
    have hld:D.ld false 1 (.st (legF p c k (.tup []) (i+1))) (.loc (legS p c k++[vb k]).length 0)=some (I (sumTo p c k i+lateN p c i)):=by
     rw[←hsum]
     exact legF_s
    rw[stops,hik,hlast,hsum] at hns
    rw[Bool.or_eq_false_iff,Bool.or_eq_false_iff] at hns
    obtain⟨⟨hn1,hn2⟩,hn3⟩:=hns
    clear hR2 hrec
    simp only[List.cons_append,List.nil_append]
    cases hlt:decide (lateN p c i > 0)
    ·have hz:lateN p c i=0:=by simp at hlt;omega
     have e:legF p c k (.tup []) (i+1)=legF p c k (.tup []) i:=by unfold legF;rw[hsum,hz,Int.add_zero]
     rw[hlt] at hsl
     rw[e]
     repeat' (first|(apply nrm;simp only[sbe];rfl)|(apply u_iteF;rfl;(·first|exact hn3|exact hsl))|(apply u_chk;rfl)|(apply u_ld;rfl;rfl;(·first|exact legF_n|exact legF_last);simp only[sbe];rfl)|(apply u_eaddr;rfl;rfl;(·exact ea_ln (by omega));simp only[sbe];rfl)|(apply u_ev;rfl;simp only[sbe];rfl)|(apply u_call;rfl;rfl;exact h119;rfl;simp only[sbe];rfl)|(apply u_or;rfl)|(apply u_and;rfl)|refine u_join ?_|(apply u_jump;rfl;rfl)|refine at_jump ?_|refine kj rfl ?_|exact u_ret rfl rfl|(intro hz;(try simp only[sbs] at hz)))
     all_goals exact rfl
    ·have hk1:sideK p c i=1:=by rw[hlt] at hsl;simpa using hsl
     rw[hk1,side_by hk1] at h119
     rw[hlt,Bool.true_and] at hn2
     have hf2:(decide (lateN p c i > p.maxLate)||decide (sumTo p c k i+lateN p c i > p.legLate))=false:=by rw[hn1,hn2];rfl
     repeat' (first|(apply nrm;simp only[sbe];rfl)|(apply u_iteT;rfl;exact rfl)|(apply u_iteF;rfl;(·first|exact hn3|exact hf2))|(apply u_chk;rfl)|(apply u_ld;rfl;rfl;(·first|exact legF_n|exact hld|exact legF_s|exact legF_last);simp only[sbe];rfl)|(apply u_eaddr;rfl;rfl;(·exact ea_ln (by omega));simp only[sbe];rfl)|(apply u_sto;rfl;rfl;rfl;exact hsto;simp only[sbe];rfl)|(apply u_add;rfl;rfl;omega;simp only[sbe];rfl)|(apply u_ev;rfl;simp only[sbe];rfl)|(apply u_call;rfl;rfl;exact h119;rfl;simp only[sbe];rfl)|(apply u_or;rfl)|(apply u_and;rfl)|refine u_join ?_|(apply u_jump;rfl;rfl)|refine at_jump ?_|refine kj rfl ?_|exact u_ret rfl rfl|(intro hz;(try simp only[sbs] at hz)))
     all_goals exact rfl
   ·rw[legF_end]
    repeat' (first|(apply nrm;simp only[sbe];rfl)|(apply u_inc;rfl;omega;simp only[sbe];rfl)|(apply u_jump;rfl;rfl)|refine at_jump ?_|refine kj rfl ?_)
    exact hR
  ·have hke:(p.it m).leg=(k:Int):=by omega
   have hkn:(p.it m).leg.toNat=k:=by omega
   have hkl:decide ((k:Int)<(p.it (p.n-1)).leg+1)=true:=by
    unfold Plan.legs at hk
    simp;omega
   repeat' (first|(apply nrm;simp only[sbe];rfl)|(apply u_iteT;rfl;exact hkl)|(apply u_ld;rfl;rfl;exact leg_n;simp only[sbe];rfl)|(apply u_sto;rfl;rfl;rfl;(·first|exact leg_s1|exact leg_s2);simp only[sbe];rfl)|(apply u_ev;rfl;simp only[sbe];rfl)|(apply u_call;rfl;rfl;exact c118 _;rfl;simp only[sbe];rfl)|refine u_join ?_)
   rw[hkn]
   refine u_rforx (bs':=legG p c k (.tup []) (stopAt p c m) m) (.tup []) true rfl (by kernel_rfl) rfl rfl legG_get (fun rec hrec=>?_) (fun e=>by cases e) (fun _=>?_)
   ·rw[legF_zero,legG_set]
    refine c139_stop hh.1.2 (legF p c k (.lpb false)) _ m hm hke (fun i hi hik=>?_) (fun i hi hik=>by unfold legF;rw[sumTo,if_neg hik,Int.add_zero]) ?_
    ·have hi':=hi
     have hi:=Nat.lt_trans hi hm
     have hR2:=hrec (legF p c k (.lpb false) i) [In i] true (legF p c k (.tup []) (i+1)) legF_get rfl legF_get
     rw[legF_set,legF_set] at hR2
     refine hR2 ?_
     have hns:stops p c i=false:=hno i hi'
     have hlast:p.legs-1=(p.it (p.n-1)).leg:=by unfold Plan.legs;omega
     have hL:=h.late hok hi
     have hs:=h.sum hok (k:Int) (i:=i) (by omega)
     have h119:=c119 (bs:=legF p c k (.tup []) i) hok h hi
     have hsl:=side_late (p:=p) (c:=c) (i:=i)
     have hsum:sumTo p c k (i+1)=sumTo p c k i+lateN p c i:=by rw[sumTo,if_pos hik]
     have hsto:D.sto 1 (.st (legF p c k (.tup []) i)) (.loc (legS p c k++[vb k]).length 0) (I (sumTo p c k i+lateN p c i))=some (.st (legF p c k (.tup []) (i+1))):=by
      rw[←hsum]
      exact legF_sto
     have hld:D.ld false 1 (.st (legF p c k (.tup []) (i+1))) (.loc (legS p c k++[vb k]).length 0)=some (I (sumTo p c k i+lateN p c i)):=by
      rw[←hsum]
      exact legF_s
     rw[stops,hik,hlast,hsum] at hns
     rw[Bool.or_eq_false_iff,Bool.or_eq_false_iff] at hns
     obtain⟨⟨hn1,hn2⟩,hn3⟩:=hns
     clear hR2 hrec
     simp only[List.cons_append,List.nil_append]
     cases hlt:decide (lateN p c i > 0)
     ·have hz:lateN p c i=0:=by simp at hlt;omega
      have e:legF p c k (.tup []) (i+1)=legF p c k (.tup []) i:=by unfold legF;rw[hsum,hz,Int.add_zero]
      rw[hlt] at hsl
      rw[e]
      repeat' (first|(apply nrm;simp only[sbe];rfl)|(apply u_iteF;rfl;(·first|exact hn3|exact hsl))|(apply u_chk;rfl)|(apply u_ld;rfl;rfl;(·first|exact legF_n|exact legF_last);simp only[sbe];rfl)|(apply u_eaddr;rfl;rfl;(·exact ea_ln (by omega));simp only[sbe];rfl)|(apply u_ev;rfl;simp only[sbe];rfl)|(apply u_call;rfl;rfl;exact h119;rfl;simp only[sbe];rfl)|(apply u_or;rfl)|(apply u_and;rfl)|refine u_join ?_|(apply u_jump;rfl;rfl)|refine at_jump ?_|refine kj rfl ?_|exact u_ret rfl rfl|(intro hz;(try simp only[sbs] at hz)))
      all_goals exact rfl
     ·have hk1:sideK p c i=1:=by rw[hlt] at hsl;simpa using hsl
      rw[hk1,side_by hk1] at h119
      rw[hlt,Bool.true_and] at hn2
      have hf2:(decide (lateN p c i > p.maxLate)||decide (sumTo p c k i+lateN p c i > p.legLate))=false:=by rw[hn1,hn2];rfl
      repeat' (first|(apply nrm;simp only[sbe];rfl)|(apply u_iteT;rfl;exact rfl)|(apply u_iteF;rfl;(·first|exact hn3|exact hf2))|(apply u_chk;rfl)|(apply u_ld;rfl;rfl;(·first|exact legF_n|exact hld|exact legF_s|exact legF_last);simp only[sbe];rfl)|(apply u_eaddr;rfl;rfl;(·exact ea_ln (by omega));simp only[sbe];rfl)|(apply u_sto;rfl;rfl;rfl;exact hsto;simp only[sbe];rfl)|(apply u_add;rfl;rfl;omega;simp only[sbe];rfl)|(apply u_ev;rfl;simp only[sbe];rfl)|(apply u_call;rfl;rfl;exact h119;rfl;simp only[sbe];rfl)|(apply u_or;rfl)|(apply u_and;rfl)|refine u_join ?_|(apply u_jump;rfl;rfl)|refine at_jump ?_|refine kj rfl ?_|exact u_ret rfl rfl|(intro hz;(try simp only[sbs] at hz)))
      all_goals exact rfl
    ·have hR2:=hrec (legF p c k (.lpb false) m) [In m] false (legG p c k (.tup []) (stopAt p c m) m) legF_get rfl legG_get
     rw[legF_set,legG_set] at hR2
     refine hR2 ?_
     have hns:=hst
     have hlast:p.legs-1=(p.it (p.n-1)).leg:=by unfold Plan.legs;omega
     have hL:=h.late hok hm
     have hs:=h.sum hok (k:Int) (i:=m) (by omega)
     have h119:=c119 (bs:=legF p c k (.tup []) m) hok h hm
     have hsl:=side_late (p:=p) (c:=c) (i:=m)
     have hsum:sumTo p c k (m+1)=sumTo p c k m+lateN p c m:=by rw[sumTo,if_pos hke]
     have hsto:D.sto 1 (.st (legF p c k (.tup []) m)) (.loc (legS p c k++[vb k]).length 0) (I (sumTo p c k m+lateN p c m))=some (.st (legF p c k (.tup []) (m+1))):=by
      rw[←hsum]
      exact legF_sto
     have hld:D.ld false 1 (.st (legF p c k (.tup []) (m+1))) (.loc (legS p c k++[vb k]).length 0)=some (I (sumTo p c k m+lateN p c m)):=by
      rw[←hsum]
      exact legF_s
     rw[stops,hke,hlast,hsum] at hns
     clear hR2 hrec
     simp only[List.cons_append,List.nil_append]
     unfold stopAt
     rw[hke]
     cases hmk:((c.ln m).mark==2&&(!p.ret||(k:Int)==(p.it (p.n-1)).leg))
     ·rw[if_neg (by simp)]
      rw[hmk,Bool.or_false,Bool.or_eq_true,Bool.and_eq_true] at hns
      have hlt:decide (lateN p c m > 0)=true:=by
       rcases hns with h1 | h1
       ·simp at h1 ⊢;omega
       ·exact h1.1
      have hk1:sideK p c m=1:=by rw[hlt] at hsl;simpa using hsl
      rw[hk1,side_by hk1] at h119
      have ht:(decide (lateN p c m > p.maxLate)||decide (sumTo p c k m+lateN p c m > p.legLate))=true:=by
       rw[Bool.or_eq_true]
       rcases hns with h1 | h1
       ·exact .inl h1
       ·exact .inr h1.2
      repeat' (first|(apply nrm;simp only[sbe];rfl)|(apply u_iteT;rfl;(·first|exact rfl|exact ht))|(apply u_iteF;rfl;exact hmk)|(apply u_chk;rfl)|(apply u_ld;rfl;rfl;(·first|exact legF_n|exact hld|exact legF_s|exact legF_last);simp only[sbe];rfl)|(apply u_eaddr;rfl;rfl;(·exact ea_ln (by omega));simp only[sbe];rfl)|(apply u_sto;rfl;rfl;rfl;(·first|exact hsto|exact legF_res);simp only[sbe];rfl)|(apply u_add;rfl;rfl;omega;simp only[sbe];rfl)|(apply u_ev;rfl;simp only[sbe];rfl)|(apply u_call;rfl;rfl;exact h119;rfl;simp only[sbe];rfl)|(apply u_or;rfl)|(apply u_and;rfl)|refine u_join ?_|exact u_ret rfl rfl|(apply u_ret;rfl;first|exact rfl|(refine retB ?_)|(refine retI ?_)|(refine retD ?_))|(intro hz;(try simp only[sbs] at hz)))
      all_goals exact rfl
     ·rw[if_pos rfl]
      repeat' (first|(apply nrm;simp only[sbe];rfl)|(apply u_iteT;rfl;exact hmk)|(apply u_chk;rfl)|(apply u_ld;rfl;rfl;(·first|exact legF_n|exact legF_last);simp only[sbe];rfl)|(apply u_eaddr;rfl;rfl;(·exact ea_ln (by omega));simp only[sbe];rfl)|(apply u_sto;rfl;rfl;rfl;exact legF_res;simp only[sbe];rfl)|(apply u_ev;rfl;simp only[sbe];rfl)|(apply u_or;rfl)|(apply u_and;rfl)|refine u_join ?_|exact u_ret rfl rfl|(apply u_ret;rfl;first|exact rfl|(refine retB ?_)|(refine retI ?_)|(refine retD ?_))|(intro hz;(try simp only[sbs] at hz)))
      all_goals exact rfl
   ·repeat' (((with_reducible apply u_ret);(·rfl);first | exact rfl | (refine retB ?_) | (refine retI ?_) | (refine retD ?_)))
 ·exact absurd hJ (by unfold Plan.legs;omega)

theorem noid_map {α:Type}{enc:α→D}(h:∀x,(enc x).noid=true):∀l:List α,noids (l.map enc)=true
 | []=>rfl
 | x :: l=>by simp[noids,h x,noid_map h l]

theorem plan_noid (p:Plan):p.d.noid=true:=by
 simp only[Plan.d,Plan.cs,D.noid,noids,noid_map (enc:=I) (fun _=>rfl),noid_map (enc:=Item.d) (fun x=>rfl),Bool.and_self]
theorem card_noid (c:Card):c.d.noid=true:=by
 simp only[Card.d,Card.cs,D.noid,noids,noid_map (enc:=I) (fun _=>rfl),noid_map (enc:=Line.d) (fun x=>rfl),Bool.and_self]
theorem cards_noid (l:List Card):(Cards l).noid=true:=by
 simp only[D.noid,noid_map (enc:=Card.d) card_noid]

theorem c89 (hp:p.Ok)(hok:p.ok=true)(h:CdOk p c):FSpecR Tryz.prog 89 (.st bs) [p.d,c.d] (I (outI p c)):=by
 have hm:noids [p.d,c.d]=true:=by simp[noids,plan_noid,card_noid]
 by_cases hx:∃m,m<p.n∧stops p c m=true
 ·obtain⟨m,h1,h2,h3⟩:∃m,m<p.n∧stops p c m=true∧∀i,i<m→stops p c i=false:=by
   obtain⟨m,h1,h2⟩:=hx
   induction m using Nat.strongRecOn with
   | _ m ih=>
    by_cases h4:∃k,k<m∧stops p c k=true
    ·obtain⟨k,h5,h6⟩:=h4
     exact ih k h5 (by omega) h6
    ·exact⟨m,h1,h2,fun i hi=>by
      rw[Bool.eq_false_iff]
      exact fun e=>h4 ⟨i,hi,e⟩⟩
  have:=c89_stop hp hok h h1 h2 h3
  rw[outI,fst_at h1 h2 h3]
  exact this.melt (n:=1) hm rfl bs
 ·have hno:∀i,i<p.n→stops p c i=false:=fun i hi=>by
   rw[Bool.eq_false_iff]
   exact fun e=>hx ⟨i,hi,e⟩
  have:=c89_none hp hok h hno
  rw[outI,fst_no hno]
  exact this.melt (n:=1) hm rfl bs

end Go.Am.Sc

/-
 The law of due minutes.
-/
namespace Go.Am.Sc
open Go.Proofs
set_option maxRecDepth 100000
set_option maxHeartbeats 4000000

attribute [local irreducible] inR allR lineOk

variable {bs:List D} {p:Plan} {c:Card}

def dueR (p:Plan)(c:Card)(i:Int):Int×Int:=
 if(p.ok&&cardOk p c&&inR i 0 (p.n-1)&&(p.it i.toNat).kind==1)=true then(if(c.ln i.toNat).mark=2 then(0,5) else(dueA p c i.toNat,0)) else(0,2)

theorem ea_itZ {i:Int}(h:0≤i∧i<p.n):D.eaddr 4 (.lst (p.items.map Item.d)) (I i)=some (.ptr (p.it i.toNat).d.cells):=by
 have:=ea_it (p:=p) (i:=i.toNat) (by omega)
 rwa [In,show((i.toNat:Nat):Int)=i by omega] at this
theorem ea_lnZ {i:Int}(h:0≤i∧i<c.lines.length):D.eaddr 4 (.lst (c.lines.map Line.d)) (I i)=some (.ptr (c.ln i.toNat).d.cells):=by
 have:=ea_ln (c:=c) (i:=i.toNat) (by omega)
 rwa [In,show((i.toNat:Nat):Int)=i by omega] at this

theorem c35 (hp:p.Ok)(hc:c.Ok)(i:Int):FSpecR Tryz.prog 35 (.st bs) [p.d,c.d,I i] (.tup [I (dueR p c i).1,I (dueR p c i).2]):=by
 have h19:=c19 (bs:=bs) hp hc
 refine ku35.R rfl rfl ?_
 unfold u35
 simp only[ups_cons,ups_nil,List.cons_append,List.nil_append]
 cases hok:p.ok&&cardOk p c
 ·rw[hok] at h19
  replace h19:FSpecR Tryz.prog 19 (.st bs) [p.d,c.d] (I 2):=h19
  rw[show dueR p c i=(0,2) by simp[dueR,hok]]
  repeat' (first|(apply nrm;simp only[sbe];rfl)|(apply u_orT;rfl;exact rfl)|(apply u_iteT;rfl;exact rfl)|(apply u_chk;rfl)|(apply u_ev;rfl;simp only[sbe];rfl)|(apply u_call;rfl;rfl;exact h19;rfl;simp only[sbe];rfl)|exact u_ret rfl rfl)
 have hok1:=(Bool.and_eq_true _ _ ▸ hok:p.ok=true∧cardOk p c=true)
 have h:=cdOk hok1.2
 have hh:=Plan.ok_head hok1.1
 have hln:=h.len
 rw[hok] at h19
 replace h19:FSpecR Tryz.prog 19 (.st bs) [p.d,c.d] (I 0):=h19
 have h46:=c46 (bs:=bs) i 0 (p.n-1)
 cases hi:inR i 0 (p.n-1)
 ·rw[hi] at h46
  rw[show dueR p c i=(0,2) by simp[dueR,hi]]
  repeat' (first|(apply nrm;simp only[sbe];rfl)|(apply u_orT;rfl;exact rfl)|(apply u_iteT;rfl;exact rfl)|(apply u_chk;rfl)|(apply u_lenL;rfl;exact ln_it;simp only[sbe];rfl)|(apply u_sub;rfl;rfl;omega;simp only[sbe];rfl)|(apply u_ev;rfl;simp only[sbe];rfl)|(apply u_call;rfl;rfl;(·first|exact h19|exact h46);rfl;simp only[sbe];rfl)|(apply u_or;rfl)|exact u_ret rfl rfl|(intro hz;(try simp only[sbs] at hz)))
 have hi2:=inR_t hi
 rw[hi] at h46
 have h88:=c88 (bs:=bs) hok1.1 h (i:=i.toNat) (by omega)
 rw[In,show((i.toNat:Nat):Int)=i by omega] at h88
 unfold dueR
 rw[hok,hi]
 repeat' (first|(apply nrm;simp only[sbe];rfl)|(apply u_chk;rfl)|(apply u_eaddr;rfl;rfl;(·first|exact ea_itZ (by omega)|exact ea_lnZ (by omega));simp only[sbe];rfl)|(apply u_lenL;rfl;exact ln_it;simp only[sbe];rfl)|(apply u_sub;rfl;rfl;omega;simp only[sbe];rfl)|(apply u_ev;rfl;simp only[sbe];rfl)|(apply u_call;rfl;rfl;(·first|exact h19|exact h46|exact h88);rfl;simp only[sbe];rfl)|(apply u_or;rfl)|(apply u_ite;rfl;all_goals (intro hz;(try simp only[sbs] at hz);first|(exact absurd hz (by decide))|(exfalso;omega)|skip))|exact u_ret rfl rfl|(apply u_ret;rfl;first|exact rfl|(refine retB ?_)|(refine retI ?_)|(refine retD ?_))|(intro hz;(try simp only[sbs] at hz)))
 all_goals simp_all

theorem c36 (hp:p.Ok)(hc:c.Ok):FSpecR Tryz.prog 36 (.st bs) [p.d,c.d] (.tup [I (if(p.ok&&cardOk p c)=true then outI p c else 0),I (if(p.ok&&cardOk p c)=true then 0 else 2)]):=by
 have h19:=c19 (bs:=bs) hp hc
 refine ku36.R rfl rfl ?_
 unfold u36
 simp only[ups_cons,ups_nil,List.cons_append,List.nil_append]
 cases hok:p.ok&&cardOk p c
 ·rw[hok] at h19
  replace h19:FSpecR Tryz.prog 19 (.st bs) [p.d,c.d] (I 2):=h19
  repeat' (first|(apply u_iteT;rfl;exact rfl)|(apply u_chk;rfl)|(apply u_ev;rfl;simp only[sbe];rfl)|(apply u_call;rfl;rfl;exact h19;rfl;simp only[sbe];rfl)|exact u_ret rfl rfl)
 ·rw[hok] at h19
  replace h19:FSpecR Tryz.prog 19 (.st bs) [p.d,c.d] (I 0):=h19
  have hok1:=(Bool.and_eq_true _ _ ▸ hok:p.ok=true∧cardOk p c=true)
  repeat' (first|(apply u_iteF;rfl;exact rfl)|(apply u_chk;rfl)|(apply u_ev;rfl;simp only[sbe];rfl)|(apply u_call;rfl;rfl;(·first|exact h19|exact c89 hp hok1.1 (cdOk hok1.2));rfl;simp only[sbe];rfl)|exact u_ret rfl rfl)

end Go.Am.Sc

/-
  Times and totals, as texts.
-/
namespace Go.Am.Sc
open Go.Proofs

noncomputable def u23 : U := (ups [.chk (.aggN 14 y0),
  .call 53 y3 [(agc 14 y0), y1] [true, true],
  .ev (.un .not (.tget 1 y4)),
  .chain true y5 (ups [.ev (.lenL y1),
  .ev (.bin .sub .int y6 (ki 1)),
  .call 46 y3 [y2, (ki 0), y7] [true],
  .ev (.un .not y8)]
  (.ret y9))]
  (.ite y6 (.ret (.tcons (.tcons (ki 0) (.tcons (ki 2) .tnil)) (.tcons y3 .tnil))) (ups [.call 57 y3 [(.tget 0 y4), y2] [true]]
  (.ret (.tcons (.tcons y7 (.tcons (ki 0) .tnil)) (.tcons y3 .tnil))))))
theorem ku23 : UOk Tryz.prog 23 .plain (scf true [] [] Tryz.f23) [false, true, true] u23 := UOk.plain Tryz.func23 (by kernel_rfl) (by kernel_rfl)

noncomputable def u24 : U := (ups [.chk (.aggN 14 y0),
  .ev (.lenL y1),
  .ev (.bin .gtr .int y3 (ki 200))]
  (.ite y4 (.ret (.tcons (kb false) (.tcons y2 .tnil))) (ups [.join 0 0 (.loop 1 [(ki 0)] (ups [.ev (.lenL y1),
  .ev (.bin .lss .int y5 y6)]
  (.ite y7 (ups [.join 2 0 (ups [.ev (.eaddr 3 y1 y5),
  .ev (.ld true 3 y2 y8),
  .call 21 y2 [(agc 14 y0), y9] [true],
  .ev (.un .not y10)]
  (.ite y11 (.ret (.tcons (kb false) (.tcons y2 .tnil))) (.jump 2 [] []))),
  .ev (.bin .add .int y5 (ki 1))]
  (.jump 1 [y8] [])) (.jump 0 [] []))))]
  (.ret (.tcons (kb true) (.tcons y2 .tnil))))))
theorem ku24 : UOk Tryz.prog 24 .plain (scf true [] [] Tryz.f24) [false, true] u24 := UOk.plain Tryz.func24 (by kernel_rfl) (by kernel_rfl)

noncomputable def u54 : U := (ups [.chk (.nn y0),
  .chk (.padd 0 y0),
  .chk (.padd 0 (.padd 0 y0)),
  .ev (.ld false 1 y2 (.padd 0 (.padd 0 y0))),
  .ev (.eaddr 4 y3 y1),
  .chk (.padd 0 y4),
  .ev (.ld false 1 y2 (.padd 0 y4)),
  .ev (.bin .eql .int y5 (ki 2))]
  (.ret (.tcons y6 (.tcons y2 .tnil))))
theorem ku54 : UOk Tryz.prog 54 .plain (scf true [] [] Tryz.f54) [true, true] u54 := UOk.plain Tryz.func54 (by kernel_rfl) (by kernel_rfl)

noncomputable def u55 : U := (ups [.chk (.nn y0),
  .chk (.padd 15 y0),
  .ev (.ld false 1 y3 (.padd 15 y0)),
  .ev (.eaddr 1 y4 y1),
  .ev (.ld false 1 y3 y5),
  .ev (.bin .lss .int y6 (ki 0)),
  .chain true y7 (ups [.chk (.nn y0),
  .chk (.padd 15 y0),
  .ev (.ld false 1 y3 (.padd 15 y0)),
  .ev (.eaddr 1 y8 y1),
  .ev (.ld false 1 y3 y9),
  .ev (.bin .lss .int y2 y10)]
  (.ret y11))]
  (.ret (.tcons y8 (.tcons y3 .tnil))))
theorem ku55 : UOk Tryz.prog 55 .plain (scf true [] [] Tryz.f55) [true, true, true] u55 := UOk.plain Tryz.func55 (by kernel_rfl) (by kernel_rfl)

noncomputable def u57 : U := (ups [.chk (.nn y0),
  .chk (.padd 0 y0),
  .chk (.padd 0 (.padd 0 y0)),
  .ev (.ld false 1 y2 (.padd 0 (.padd 0 y0))),
  .ev (.lenL y3),
  .join 0 1 (.loop 1 [(ki 0), (ki 0)] (ups [.ev (.bin .lss .int y6 y4)]
  (.ite y7 (ups [.join 2 1 (ups [.call 55 y2 [y0, y1, y6] [true],
  .ev (.un .not y8)]
  (.ite y9 (.jump 0 [y5] []) (ups [.call 54 y2 [y0, y6] [true],
  .join 3 1 (.ite y10 (ups [.call 56 y2 [y0, y1, y6] [true],
  .ev (.bin .add .int y5 y11)]
  (.jump 3 [y12] [])) (.jump 3 [y5] [])),
  .call 108 y2 [y0, y1, y6] [true, true],
  .ev (.bin .add .int y11 (.tget 1 y12)),
  .chk (.nn y0),
  .chk (.padd 14 y0),
  .ev (.ld false 1 y2 (.padd 14 y0)),
  .ev (.eaddr 3 y14 y1),
  .chk (.padd 2 y15),
  .ev (.ld false 1 y2 (.padd 2 y15)),
  .ev (.eaddr 4 y16 y6),
  .chk (.padd 2 y17),
  .ev (.ld false 1 y2 (.padd 2 y17)),
  .join 3 1 (.ite y18 (ups [.call 109 y2 [y0, y1, y6] [true],
  .ev (.bin .add .int y13 y19)]
  (.jump 3 [y20] [])) (.jump 3 [y13] []))]
  (.jump 2 [y19] [(.tget 0 y12), (.tget 1 y12), (.tcons (.tget 0 y12) (.tcons (.tget 1 y12) .tnil)), (.tcons (.tget 0 y12) (.tcons (.tget 1 y12) .tnil)), (.tget 0 y12), (.tget 1 y12), (.tget 1 y12)])))),
  .ev (.bin .add .int y6 (ki 1))]
  (.jump 1 [y8, y9] [])) (.jump 0 [y5] []))))]
  (.ret (.tcons y5 (.tcons y2 .tnil))))
theorem ku57 : UOk Tryz.prog 57 .plain (scf true [] [] Tryz.f57) [true, true] u57 := UOk.plain Tryz.func57 (by kernel_rfl) (by kernel_rfl)

noncomputable def u66 : U := (ups [.chk (.nn y0),
  .chk (.padd 14 y0),
  .ev (.ld false 1 y3 (.padd 14 y0)),
  .ev (.eaddr 3 y4 y1),
  .chk (.padd 2 y5),
  .ev (.ld false 1 y3 (.padd 2 y5)),
  .ev (.eaddr 4 y6 y2),
  .chk (.padd 1 y7),
  .ev (.ld false 1 y3 (.padd 1 y7))]
  (.ret (.tcons y8 (.tcons y3 .tnil))))
theorem ku66 : UOk Tryz.prog 66 .plain (scf true [] [] Tryz.f66) [true, true, true] u66 := UOk.plain Tryz.func66 (by kernel_rfl) (by kernel_rfl)

noncomputable def u101 : U := (ups [.call 127 y2 [y0, y1] [true],
  .ev (.bin .geq .int y3 (ki 0))]
  (.ret (.tcons y4 (.tcons y2 .tnil))))
theorem ku101 : UOk Tryz.prog 101 .plain (scf true [] [] Tryz.f101) [true, true] u101 := UOk.plain Tryz.func101 (by kernel_rfl) (by kernel_rfl)

noncomputable def u102 : U := (ups [.chk (.aggN 3 y0),
  .ev (.ld true 14 y2 y1),
  .call 19 y2 [y3, (agc 3 y0)] [true],
  .ev (.bin .neq .int y4 (ki 0))]
  (.ret (.tcons y5 (.tcons y2 .tnil))))
theorem ku102 : UOk Tryz.prog 102 .plain (scf true [] [] Tryz.f102) [false, true] u102 := UOk.plain Tryz.func102 (by kernel_rfl) (by kernel_rfl)

noncomputable def u103 : U := (ups [.chk (.nn y0),
  .chk (.padd 14 y0),
  .ev (.ld false 1 y3 (.padd 14 y0)),
  .ev (.eaddr 3 y4 y1),
  .chk (.padd 0 y5),
  .ev (.ld false 1 y3 (.padd 0 y5)),
  .call 64 y3 [y0, y2, y6] [true],
  .ev (.lenL y7),
  .ev (.bin .gtr .int y8 (ki 0))]
  (.ite y9 (.ret (.tcons y7 (.tcons y3 .tnil))) (ups [.call 64 y3 [y0, y2, (ki (-1))] [true]]
  (.ret (.tcons y10 (.tcons y3 .tnil))))))
theorem ku103 : UOk Tryz.prog 103 .plain (scf true [] [] Tryz.f103) [true, true, true] u103 := UOk.plain Tryz.func103 (by kernel_rfl) (by kernel_rfl)

noncomputable def u104 : U := (ups [.call 67 y4 [y0, y1, y3] [true],
  .ev (.lenL y1),
  .ev (.bin .sub .int y6 (ki 1)),
  .ev (.bin .quo .int y7 (ki 2)),
  .ev (.eaddr 1 y5 y8),
  .ev (.ld false 1 y4 y9)]
  (.ret (.tcons y10 (.tcons y4 .tnil))))
theorem ku104 : UOk Tryz.prog 104 .plain (scf true [] [] Tryz.f104) [true, true, true, true] u104 := UOk.plain Tryz.func104 (by kernel_rfl) (by kernel_rfl)

noncomputable def u105 : U := (ups [.call 67 y4 [y0, y1, y3] [true],
  .ev (.lenL y1),
  .ev (.bin .sub .int y6 (ki 1)),
  .ev (.eaddr 1 y5 y7),
  .ev (.ld false 1 y4 y8)]
  (.ret (.tcons y9 (.tcons y4 .tnil))))
theorem ku105 : UOk Tryz.prog 105 .plain (scf true [] [] Tryz.f105) [true, true, true, true] u105 := UOk.plain Tryz.func105 (by kernel_rfl) (by kernel_rfl)

noncomputable def u106 : U := (ups [.call 67 y4 [y0, y1, y3] [true],
  .ev (.eaddr 1 y5 (ki 0)),
  .ev (.ld false 1 y4 y6),
  .ev (.lenL y1),
  .join 0 1 (.loop 1 [(ki (-1)), y7, (ki 0)] (ups [.ev (.bin .lss .int y11 y8)]
  (.ite y12 (ups [.join 2 2 (ups [.ev (.eaddr 1 y1 y11),
  .ev (.ld false 1 y4 y13),
  .chk (.nn y0),
  .chk (.padd 14 y0),
  .ev (.ld false 1 y4 (.padd 14 y0)),
  .ev (.eaddr 3 y15 y14),
  .chk (.padd 2 y16),
  .ev (.ld false 1 y4 (.padd 2 y16)),
  .ev (.eaddr 4 y17 y3),
  .chk (.padd 0 y18),
  .ev (.ld false 1 y4 (.padd 0 y18)),
  .call 66 y4 [y0, y14, y3] [true],
  .chk (.nn y0),
  .chk (.padd 14 y0),
  .ev (.ld false 1 y4 (.padd 14 y0)),
  .ev (.eaddr 3 y21 y2),
  .chk (.padd 2 y22),
  .ev (.ld false 1 y4 (.padd 2 y22)),
  .ev (.eaddr 4 y23 y3),
  .chk (.padd 0 y24),
  .ev (.ld false 1 y4 (.padd 0 y24)),
  .ev (.bin .leq .int y19 y25),
  .chain false y26 (ups [.ev (.bin .gtr .int y19 y9),
  .chain true y27 (ups [.ev (.bin .eql .int y19 y9),
  .chain false y28 (ups [.ev (.bin .gtr .int y20 y10)]
  (.ret y29))]
  (.ret y29))]
  (.ret y28)),
  .phi y27 [y19, y20] [y9, y10]]
  (.jump 2 [y28, y29] [])),
  .ev (.bin .add .int y11 (ki 1))]
  (.jump 1 [y13, y14, y15] [])) (.jump 0 [y10] []))))]
  (.ret (.tcons y9 (.tcons y4 .tnil))))
theorem ku106 : UOk Tryz.prog 106 .plain (scf true [] [] Tryz.f106) [true, true, true, true] u106 := UOk.plain Tryz.func106 (by kernel_rfl) (by kernel_rfl)

noncomputable def u107 : U := (ups [.call 67 y4 [y0, y1, y3] [true],
  .ev (.eaddr 1 y5 (ki 0)),
  .ev (.ld false 1 y4 y6),
  .chk (.nn y0),
  .chk (.padd 0 y0),
  .chk (.padd 2 (.padd 0 y0)),
  .chk (.padd 8 (.padd 2 (.padd 0 y0))),
  .ev (.ld false 1 y4 (.padd 8 (.padd 2 (.padd 0 y0)))),
  .ev (.bin .mul .int y7 y8),
  .ev (.bin .add .int y9 (ki 99)),
  .ev (.bin .quo .int y10 (ki 100))]
  (.ret (.tcons y11 (.tcons y4 .tnil))))
theorem ku107 : UOk Tryz.prog 107 .plain (scf true [] [] Tryz.f107) [true, true, true, true] u107 := UOk.plain Tryz.func107 (by kernel_rfl) (by kernel_rfl)

noncomputable def u108 : U := (ups [.chk (.nn y0),
  .chk (.padd 0 y0),
  .ev (.ld true 14 y3 (.padd 0 y0)),
  .chk (.nn y0),
  .chk (.padd 14 y0),
  .ev (.ld false 1 y3 (.padd 14 y0)),
  .ev (.eaddr 3 y5 y1),
  .ev (.ld true 3 y3 y6),
  .call 119 y3 [y4, y7, y2] [true, true],
  .join 0 0 (ups [.ev (.bin .eql .int (.tget 0 y8) (ki 1))]
  (.ite y9 (ups [.chk (.nn y0),
  .chk (.padd 0 y0),
  .chk (.padd 2 (.padd 0 y0)),
  .chk (.padd 0 (.padd 2 (.padd 0 y0))),
  .ev (.ld false 1 y3 (.padd 0 (.padd 2 (.padd 0 y0)))),
  .ev (.bin .mul .int (.tget 1 y8) y10)]
  (.ret (.tcons (.tcons (ki 1) (.tcons y11 .tnil)) (.tcons y3 .tnil)))) (ups [.ev (.bin .eql .int (.tget 0 y8) (ki 2)),
  .chain false y10 (ups [.chk (.nn y0),
  .chk (.padd 0 y0),
  .chk (.padd 0 (.padd 0 y0)),
  .ev (.ld false 1 y3 (.padd 0 (.padd 0 y0))),
  .ev (.eaddr 4 y11 y2),
  .chk (.padd 3 y12),
  .ev (.ld false 1 y3 (.padd 3 y12)),
  .ev (.un .not y13)]
  (.ret y14))]
  (.ite y11 (ups [.chk (.nn y0),
  .chk (.padd 0 y0),
  .chk (.padd 2 (.padd 0 y0)),
  .chk (.padd 1 (.padd 2 (.padd 0 y0))),
  .ev (.ld false 1 y3 (.padd 1 (.padd 2 (.padd 0 y0)))),
  .ev (.bin .mul .int (.tget 1 y8) y12)]
  (.ret (.tcons (.tcons (ki 2) (.tcons y13 .tnil)) (.tcons y3 .tnil)))) (.jump 0 [] [])))))]
  (.ret (.tcons (.tcons (.tget 0 y8) (.tcons (ki 0) .tnil)) (.tcons y3 .tnil))))
theorem ku108 : UOk Tryz.prog 108 .plain (scf true [] [] Tryz.f108) [true, true, true] u108 := UOk.plain Tryz.func108 (by kernel_rfl) (by kernel_rfl)

noncomputable def u109 : U := (ups [.call 123 y3 [y0, y1, y2] [true],
  .ev (.lenL y4),
  .chk (.nn y0),
  .chk (.padd 0 y0),
  .chk (.padd 2 (.padd 0 y0)),
  .chk (.padd 4 (.padd 2 (.padd 0 y0))),
  .ev (.ld false 1 y3 (.padd 4 (.padd 2 (.padd 0 y0)))),
  .chk (.nn y0),
  .chk (.padd 0 y0),
  .chk (.padd 2 (.padd 0 y0)),
  .chk (.padd 4 (.padd 2 (.padd 0 y0))),
  .ev (.ld false 1 y3 (.padd 4 (.padd 2 (.padd 0 y0)))),
  .ev (.lenL y7),
  .ev (.mm false y5 y8),
  .ev (.bin .sub .int y9 (ki 1)),
  .ev (.eaddr 1 y6 y10),
  .ev (.ld false 1 y3 y11)]
  (.ret (.tcons y12 (.tcons y3 .tnil))))
theorem ku109 : UOk Tryz.prog 109 .plain (scf true [] [] Tryz.f109) [true, true, true] u109 := UOk.plain Tryz.func109 (by kernel_rfl) (by kernel_rfl)

noncomputable def u123 : U := (ups [.ev (.bin .add .int y2 (ki 1)),
  .join 0 1 (.loop 1 [(.const (.lst [])), (ki 0)] (ups [.ev (.bin .lss .int y6 y4)]
  (.ite y7 (ups [.join 2 1 (ups [.chk (.nn y0),
  .chk (.padd 14 y0),
  .ev (.ld false 1 y3 (.padd 14 y0)),
  .ev (.eaddr 3 y8 y1),
  .chk (.padd 2 y9),
  .ev (.ld false 1 y3 (.padd 2 y9)),
  .ev (.eaddr 4 y10 y6),
  .chk (.padd 2 y11),
  .ev (.ld false 1 y3 (.padd 2 y11)),
  .chain false y12 (ups [.call 55 y3 [y0, y1, y6] [true]]
  (.ret y13)),
  .join 3 1 (.ite y13 (ups [.ev (.lcons (.scal y6) (.const (.lst []))),
  .ev (.app 1 8 y5 y14)]
  (.jump 3 [y15] [])) (.jump 3 [y5] []))]
  (.jump 2 [y14] [])),
  .ev (.bin .add .int y6 (ki 1))]
  (.jump 1 [y8, y9] [])) (.jump 0 [y5] []))))]
  (.ret (.tcons y5 (.tcons y3 .tnil))))
theorem ku123 : UOk Tryz.prog 123 .plain (scf true [] [] Tryz.f123) [true, true, true] u123 := UOk.plain Tryz.func123 (by kernel_rfl) (by kernel_rfl)

noncomputable def u127 : U := (ups [.ev (.lenL y0),
  .join 0 0 (.loop 1 [(ki 0)] (ups [.ev (.bin .lss .int y4 y3)]
  (.ite y5 (ups [.join 2 0 (ups [.ev (.eaddr 3 y0 y4),
  .ev (.ld true 3 y2 y6),
  .callv y1 y2 [y7] [true]]
  (.ite y8 (.ret (.tcons y4 (.tcons y2 .tnil))) (.jump 2 [] []))),
  .ev (.bin .add .int y4 (ki 1))]
  (.jump 1 [y6] [])) (.jump 0 [] []))))]
  (.ret (.tcons (ki (-1)) (.tcons y2 .tnil))))
theorem ku127 : UOk Tryz.prog 127 .plain (scf true [] [] Tryz.f127) [true, true] u127 := UOk.plain Tryz.func127 (by kernel_rfl) (by kernel_rfl)

noncomputable def u53 : U := (ups [.ev (.mkptr (.aggN 14 y0)),
  .ev (.ld true 14 y2 y3),
  .call 18 y2 [y4] [true],
  .ev (.bin .neq .int y5 (ki 0)),
  .chain true y6 (ups [.ev (.lenL y1),
  .ev (.bin .gtr .int y7 (ki 200))]
  (.ret y8)),
  .chain true y7 (ups [.ev (.mkfn 102 .tnil (.tcons y3 .tnil)),
  .call 101 y2 [y1, y8] [true]]
  (.ret y9))]
  (.ite y8 (.ret (.tcons (.tcons (.const (.v (.pointer none))) (.tcons (kb false) .tnil)) (.tcons y2 .tnil))) (ups [.ev (.ld true 14 y2 y3),
  .ev (.cons (.aggN 14 y9) (.cons (.scal y1) (.cons (.const (.agg [.snil])) .nil))),
  .ev (.newb 99 16 y2 (.aggN 16 y10)),
  .ev (.lenL y1),
  .join 0 1 (.loop 1 [(ki 0), y11] (ups [.ev (.bin .lss .int y13 y12)]
  (.ite y15 (ups [.join 2 1 (ups [.ev (.eaddr 3 y1 y13),
  .ev (.ld true 3 y14 y16),
  .chk (.aggN 3 y17),
  .ev (.nn (.fstid y2)),
  .chk (.padd 15 y18),
  .ev (.ld false 1 y14 (.padd 15 y18)),
  .ev (.ld true 14 y14 y3),
  .call 89 y14 [y20, (agc 3 y17)] [true],
  .ev (.lcons (.scal y21) (.const (.lst []))),
  .ev (.apph 3 1 8 y14 y19 y22),
  .ev (.nn (.fstid y2)),
  .chk (.padd 15 y24),
  .ev (.sto 1 y23 (.padd 15 y24) (.apps y14 y19 y22))]
  (.jump 2 [y25] [(agc 3 y17), (.apps y14 y19 y22), (.cell 0 y17), (.cell 1 y17), (.cell 2 y17)])),
  .ev (.bin .add .int y13 (ki 1))]
  (.jump 1 [y17, y16] [])) (.jump 0 [y14] []))))]
  (.ret (.tcons (.tcons (.fstid y2) (.tcons (kb true) .tnil)) (.tcons y13 .tnil))))))
theorem ku53 : UOk Tryz.prog 53 .plain { scf false [] [25] Tryz.f53 with nils := true } [false, true] u53 := UOk.plain Tryz.func53 (by kernel_rfl) (by kernel_rfl)

noncomputable def u56 : U := (ups [.call 103 y3 [y0, y1, y2] [true],
  .chk (.nn y0),
  .chk (.padd 14 y0),
  .ev (.ld false 1 y3 (.padd 14 y0)),
  .ev (.eaddr 3 y5 y1),
  .chk (.padd 2 y6),
  .ev (.ld false 1 y3 (.padd 2 y6)),
  .ev (.eaddr 4 y7 y2),
  .chk (.padd 3 y8),
  .ev (.ld false 1 y3 (.padd 3 y8)),
  .join 0 0 (ups [.ev (.bin .eql .int y9 (ki 0))]
  (.ite y10 (ups [.call 66 y3 [y0, y1, y2] [true]]
  (.ret (.tcons y11 (.tcons y3 .tnil)))) (ups [.ev (.bin .eql .int y9 (ki 2))]
  (.ite y11 (ups [.ev (.lenL y4),
  .ev (.bin .eql .int y12 (ki 0))]
  (.ite y13 (ups [.chk (.nn y0),
  .chk (.padd 0 y0),
  .chk (.padd 2 (.padd 0 y0)),
  .chk (.padd 6 (.padd 2 (.padd 0 y0))),
  .ev (.ld false 1 y3 (.padd 6 (.padd 2 (.padd 0 y0))))]
  (.ret (.tcons y14 (.tcons y3 .tnil)))) (ups [.call 67 y3 [y0, y4, y2] [true],
  .ev (.eaddr 1 y14 (ki 0)),
  .ev (.ld false 1 y3 y15),
  .chk (.nn y0),
  .chk (.padd 0 y0),
  .chk (.padd 2 (.padd 0 y0)),
  .chk (.padd 6 (.padd 2 (.padd 0 y0))),
  .ev (.ld false 1 y3 (.padd 6 (.padd 2 (.padd 0 y0)))),
  .ev (.bin .add .int y16 y17)]
  (.ret (.tcons y18 (.tcons y3 .tnil)))))) (.jump 0 [] []))))),
  .ev (.lenL y4),
  .ev (.bin .eql .int y10 (ki 0))]
  (.ite y11 (.ret (.tcons (ki 0) (.tcons y3 .tnil))) (ups [.ev (.mkfn 104 (.tcons y0 .tnil) .tnil),
  .ev (.mkfn 105 (.tcons y0 .tnil) .tnil),
  .ev (.mkfn 106 (.tcons y0 .tnil) .tnil),
  .ev (.mkfn 107 (.tcons y0 .tnil) .tnil),
  .ev (.newb 129 5 y3 (.const (.agg [(.v .nilFunc), (.v .nilFunc), (.v .nilFunc), (.v .nilFunc), (.v .nilFunc)]))),
  .ev (.sto 5 y16 (.fstid y3) (.cons (.const (.v .nilFunc)) (.cons y12 (.cons y13 (.cons y14 (.cons y15 .nil)))))),
  .chk (.nn y0),
  .chk (.padd 0 y0),
  .chk (.padd 2 (.padd 0 y0)),
  .chk (.padd 7 (.padd 2 (.padd 0 y0))),
  .ev (.ld false 1 y17 (.padd 7 (.padd 2 (.padd 0 y0)))),
  .ev (.m4 (.elemA 5 1) (.fstid y3) y18 .nil .nil),
  .ev (.ld false 1 y17 y19),
  .callv y20 y17 [y4, y1, y2] [true]]
  (.ret (.tcons y21 (.tcons y17 .tnil))))))
theorem ku56 : UOk Tryz.prog 56 .plain (scf false [] [8] Tryz.f56) [true, true, true] u56 := UOk.plain Tryz.func56 (by kernel_rfl) (by kernel_rfl)

noncomputable def u64 : U := (ups [.chk (.nn y0),
  .chk (.padd 14 y0),
  .ev (.ld false 1 y3 (.padd 14 y0)),
  .ev (.lenL y4),
  .join 0 2 (.loop 1 [(.const .snil), (ki 0), y3] (ups [.ev (.bin .lss .int y7 y5)]
  (.ite y9 (ups [.join 2 2 (ups [.ev (.eaddr 3 y4 y7),
  .ev (.ld true 3 y8 y10),
  .chk (.aggN 3 y11),
  .ev (.eaddr 4 (.cell 2 y11) y1),
  .chk (.padd 3 y12),
  .ev (.ld false 1 y8 (.padd 3 y12)),
  .ev (.bin .eql .int y13 (ki 0)),
  .chain false y14 (ups [.call 55 y8 [y0, y7, y1] [true]]
  (.ret y15)),
  .chain false y15 (ups [.ev (.bin .lss .int y2 (ki 0)),
  .chain true y16 (ups [.chk (.cell 0 y11),
  .ev (.bin .eql .int (.cell 0 y11) y2)]
  (.ret y17))]
  (.ret y17)),
  .join 3 2 (.ite y16 (ups [.ev (.lcons (.scal y7) (.const (.lst []))),
  .ev (.apph 3 1 8 y8 y6 y17)]
  (.jump 3 [(.apps y8 y6 y17), y18] [])) (.jump 3 [y6, y8] []))]
  (.jump 2 [y17, y18] [(.cell 2 y11), (.cell 0 y11), (.cell 1 y11), (.cell 2 y11)])),
  .ev (.bin .add .int y7 (ki 1))]
  (.jump 1 [y10, y12, y11] [])) (.jump 0 [y6, y8] []))))]
  (.ret (.tcons y6 (.tcons y7 .tnil))))
theorem ku64 : UOk Tryz.prog 64 .plain (scf false [] [7] Tryz.f64) [true, true, true] u64 := UOk.plain Tryz.func64 (by kernel_rfl) (by kernel_rfl)

noncomputable def u67 : U := (ups [.ev (.lenL y1),
  .join 0 2 (.loop 1 [(.const .snil), (ki 0), y3] (ups [.ev (.bin .lss .int y6 y4)]
  (.ite y8 (ups [.join 2 2 (ups [.ev (.eaddr 1 y1 y6),
  .ev (.ld false 1 y7 y9),
  .call 66 y7 [y0, y10, y2] [true],
  .ev (.lcons (.scal y11) (.const (.lst []))),
  .ev (.apph 3 1 8 y7 y5 y12)]
  (.jump 2 [(.apps y7 y5 y12), y13] [(.apps y7 y5 y12)])),
  .ev (.bin .add .int y6 (ki 1))]
  (.jump 1 [y9, y11, y10] [])) (.jump 0 [y5, y7] [])))),
  .wcall 96 y6 [y5] []]
  (.ret (.tcons y5 (.tcons y8 .tnil))))
theorem ku67 : UOk Tryz.prog 67 .plain (scf false [] [7] Tryz.f67) [true, true, true] u67 := UOk.plain Tryz.func67 (by kernel_rfl) (by kernel_rfl)

end Go.Am.Sc

/-
 Real times,notional times,false starts,totals.
-/
namespace Go.Am.Sc

def srt (l:List Int):List Int:=l.mergeSort fun x y=>decide (x≤y)

theorem srt_perm (l:List Int):(srt l).Perm l:=List.mergeSort_perm l _
theorem srt_len (l:List Int):(srt l).length=l.length:=List.length_mergeSort l
theorem srt_sorted (l:List Int):(srt l).Pairwise (·≤·):=by
 have:=List.pairwise_mergeSort (le:=fun x y:Int=>decide (x≤y)) (fun a b c h1 h2=>by simp at *;omega) (fun a b=>by simp;omega) l
 simpa[srt] using this
theorem srt_mem {l:List Int}{x:Int}:x∈srt l↔x∈l:=(srt_perm l).mem_iff

def ins (t:Int):List Int→List Int
 | []=>[t]
 | x :: r=>if x≤t then x :: ins t r else t :: x :: r

theorem ins_perm (t:Int):∀l:List Int,(ins t l).Perm (t :: l)
 | []=>.refl _
 | x :: r=>by
  rw[ins]
  split
  ·exact((ins_perm t r).cons x).trans (.swap t x r)
  ·exact .refl _

def insL:List Int→List Int→List Int
 | o,[]=>o
 | o,t :: r=>insL (ins t o) r

theorem insL_perm:∀(o l:List Int),(insL o l).Perm (o++l)
 | o,[]=>by simp[insL]
 | o,t :: r=>by
  rw[insL]
  refine(insL_perm (ins t o) r).trans (((ins_perm t o).append_right r).trans ?_)
  exact List.perm_middle.symm

theorem ins_length (t:Int)(l:List Int):(ins t l).length=l.length+1:=by simpa using(ins_perm t l).length_eq
theorem insL_length (l:List Int):(insL [] l).length=l.length:=by simpa using(insL_perm [] l).length_eq

def cd (l:List Card)(k:Nat):Card:=l.getD k default

def isReal (p:Plan)(l:List Card)(i:Nat)(cls:Int)(k:Nat):Bool:=
 ((cd l k).ln i).mark==0&&(runsB p (cd l k) i&&(decide (cls<0)||(cd l k).cls==cls))

def realTo (p:Plan)(l:List Card)(i:Nat)(cls:Int)(n:Nat):List Nat:=(List.range n).filter (isReal p l i cls)
def realN (p:Plan)(l:List Card)(i:Nat)(cls:Int):List Nat:=realTo p l i cls l.length

theorem realTo_succ {p:Plan}{l:List Card}{i:Nat}{cls:Int}{n:Nat}:realTo p l i cls (n+1)=if isReal p l i cls n=true then realTo p l i cls n++[n] else realTo p l i cls n:=by
 unfold realTo
 rw[List.range_succ,List.filter_append]
 cases h:isReal p l i cls n <;> simp[h]

theorem realTo_len {p:Plan}{l:List Card}{i:Nat}{cls:Int}{n:Nat}:(realTo p l i cls n).length≤n:=by
 simpa[realTo] using List.length_filter_le (isReal p l i cls) (List.range n)

theorem mem_real {p:Plan}{l:List Card}{i:Nat}{cls:Int}{k:Nat}:k∈realN p l i cls↔k<l.length∧isReal p l i cls k=true:=by
 simp[realN,realTo]

def basis (p:Plan)(l:List Card)(i car:Nat):List Nat:=
 if 0<(realN p l i (cd l car).cls).length then realN p l i (cd l car).cls else realN p l i (-1)

theorem mem_basis {p:Plan}{l:List Card}{i car k:Nat}(h:k∈basis p l i car):k<l.length∧((cd l k).ln i).mark=0:=by
 unfold basis at h
 split at h
 all_goals
  have:=mem_real.1 h
  refine⟨this.1,?_⟩
  have:=this.2
  simp only[isReal,Bool.and_eq_true,beq_iff_eq] at this
  exact this.1

theorem basis_len {p:Plan}{l:List Card}{i car:Nat}:(basis p l i car).length≤l.length:=by
 unfold basis
 split <;> exact realTo_len

def tmK (l:List Card)(i k:Nat):Int:=((cd l k).ln i).time
def mnK (l:List Card)(i k:Nat):Int:=((cd l k).ln i).minute
def tms (l:List Card)(i:Nat)(b:List Nat):List Int:=b.map (tmK l i)

def befF (l:List Card)(i:Nat)(at_:Int)(s:Int×Int)(k:Nat):Int×Int:=
 if mnK l i k≤at_∧(mnK l i k > s.1∨mnK l i k=s.1∧tmK l i k > s.2) then(mnK l i k,tmK l i k) else s

def least (l:List Card)(i:Nat)(b:List Nat):Int:=(srt (tms l i b)).getD 0 0

def notN (p:Plan)(l:List Card)(car i:Nat):Int:=
 if(basis p l i car).length=0 then 0
 else if p.notional=1 then(srt (tms l i (basis p l i car))).getD (((basis p l i car).length-1) / 2) 0
 else if p.notional=2 then(srt (tms l i (basis p l i car))).getD ((basis p l i car).length-1) 0
 else if p.notional=4 then(least l i (basis p l i car)*p.percent+99) / 100
 else((basis p l i car).foldl (befF l i (mnK l i car)) (-1,least l i (basis p l i car))).2

def timeN (p:Plan)(l:List Card)(car i:Nat):Int:=
 if((cd l car).ln i).mark=0 then tmK l i car
 else if((cd l car).ln i).mark=1 then notN p l car i
 else(if 0<(basis p l i car).length then least l i (basis p l i car) else 0)+p.missed

def jumpK (c:Card):Nat→Nat
 | 0=>0
 | i+1=>jumpK c i+if(c.ln i).jump=true then 1 else 0

def jumpN (p:Plan)(c:Card)(i:Nat):Int:=if(c.ln i).jump=true then p.jumps.getD (min (jumpK c i) (p.jumps.length-1)) 0 else 0

def costN (p:Plan)(l:List Card)(car i:Nat):Int:=
 if(p.it i).kind=2 then timeN p l car i+jumpN p (cd l car) i else lateN p (cd l car) i*p.late+earlyN p (cd l car) i*p.early

def totTo (p:Plan)(l:List Card)(car:Nat):Nat→Int
 | 0=>0
 | i+1=>totTo p l car i+if runsB p (cd l car) i=true then costN p l car i else 0

def totN (p:Plan)(l:List Card)(car:Nat):Int:=totTo p l car p.n

def cardsOk (p:Plan)(l:List Card):Bool:=decide (l.length≤200)&&l.all (cardOk p)

variable {p:Plan} {l:List Card}

theorem cards_ok (h:cardsOk p l=true):l.length≤200∧∀k,k<l.length→CdOk p (cd l k):=by
 simp only[cardsOk,Bool.and_eq_true,decide_eq_true_eq] at h
 refine⟨h.1,fun k hk=>?_⟩
 have:=List.all_eq_true.1 h.2 l[k] (List.getElem_mem hk)
 have e:cd l k=l[k]:=by simp[cd,List.getD,hk]
 rw[e]
 exact cdOk this

theorem cd_get {k:Nat}(h:k<l.length):l[k]? = some (cd l k):=by simp[cd,List.getD,h]

theorem srt_getD {b:List Int}{k:Nat}{lo hi:Int}(hk:k<b.length)(h:∀x,x∈b→lo≤x∧x≤hi):lo≤(srt b).getD k 0∧(srt b).getD k 0≤hi:=by
 have hk2:k<(srt b).length:=by rw[srt_len];exact hk
 have e:(srt b).getD k 0=(srt b)[k]:=by simp[List.getD,hk2]
 rw[e]
 exact h _ (srt_mem.1 (List.getElem_mem hk2))

theorem basis_tm (hc:cardsOk p l=true){i car:Nat}(hi:i<p.n){x:Int}(hx:x∈tms l i (basis p l i car)):0≤x∧x≤36000000:=by
 obtain⟨k,hk,rfl⟩:=List.mem_map.1 hx
 exact((cards_ok hc).2 k (mem_basis hk).1).time hi

theorem tms_len {i:Nat}{b:List Nat}:(tms l i b).length=b.length:=by simp[tms]

theorem least_bd (hc:cardsOk p l=true){i car:Nat}(hi:i<p.n):0≤least l i (basis p l i car)∧least l i (basis p l i car)≤36000000:=by
 unfold least
 rcases Nat.eq_zero_or_pos (tms l i (basis p l i car)).length with h | h
 ·have:srt (tms l i (basis p l i car))=[]:=by
   rw[←List.length_eq_zero_iff,srt_len]
   exact h
  rw[this]
  simp
 ·exact srt_getD h fun x hx=>basis_tm hc hi hx

theorem bef_bd (hc:cardsOk p l=true){i:Nat}(hi:i<p.n){m:Int}:∀{b:List Nat} {s:Int×Int},(∀k,k∈b→k<l.length)→-1≤s.1∧s.1≤100000∧0≤s.2∧s.2≤36000000→-1≤(b.foldl (befF l i m) s).1∧(b.foldl (befF l i m) s).1≤100000∧0≤(b.foldl (befF l i m) s).2∧(b.foldl (befF l i m) s).2≤36000000
 | [],s,_,h=>h
 | k :: b,s,hb,h=>by
  rw[List.foldl_cons]
  refine bef_bd hc hi (fun k hk=>hb k (List.mem_cons_of_mem _ hk)) ?_
  have hk:=(cards_ok hc).2 k (hb k (List.mem_cons_self ..))
  have h1:=hk.time hi
  have h2:=hk.minute hi
  unfold befF
  split
  ·simp only[mnK,tmK]
   omega
  ·exact h

theorem Plan.ok_rules (hp:p.ok=true):(0≤p.late∧p.late≤36000000)∧(0≤p.early∧p.early≤36000000)∧(0≤p.missed∧p.missed≤36000000)∧(0≤p.maxLate∧p.maxLate≤1440)∧(0≤p.legLate∧p.legLate≤1440)∧(1≤p.jumps.length∧p.jumps.length≤10)∧∀k,0≤p.jumps.getD k 0∧p.jumps.getD k 0≤36000000:=by
 have h:=(Plan.ok_parts hp).2.2.1
 simp only[Plan.rulesOk,Bool.and_eq_true,allR] at h
 obtain⟨h1,h2,h3,h4,h5,h6,h7⟩:=h
 have h7:=inR_t h7
 refine⟨inR_t h1,inR_t h2,inR_t h3,inR_t h4,inR_t h5,by omega,fun k=>?_⟩
 rcases Nat.lt_or_ge k p.jumps.length with h | h
 ·have:=inR_t (List.all_eq_true.1 h6 p.jumps[k] (List.getElem_mem h))
  simpa[List.getD,h] using this
 ·simp[List.getD,h]

theorem Plan.ok_more (hp:p.ok=true):(1≤p.notional∧p.notional≤4)∧(100≤p.percent∧p.percent≤1000)∧(-1≤p.power∧p.power<p.n)∧(0≤p.power→(p.it p.power.toNat).kind=2):=by
 have h:=(Plan.ok_parts hp).2.2.2.1
 simp only[Plan.moreOk,Bool.and_eq_true,Bool.or_eq_true,decide_eq_true_eq,beq_iff_eq] at h
 obtain⟨⟨h1,h2⟩,h3,h4,h5⟩:=h
 have h4:=inR_t h4
 exact⟨⟨h1,h2⟩,inR_t h3,by omega,fun h=>by omega⟩

theorem mul_bd {a b x y:Int}(ha:0≤a∧a≤x)(hb:0≤b∧b≤y):0≤a*b∧a*b≤x*y:=
 ⟨Int.mul_nonneg ha.1 hb.1,Int.mul_le_mul ha.2 hb.2 hb.1 (by omega)⟩

theorem notN_bd (hp:p.ok=true)(hc:cardsOk p l=true){i car:Nat}(hi:i<p.n):0≤notN p l car i∧notN p l car i≤400000000:=by
 have hm:=Plan.ok_more hp
 have hb:=least_bd hc (car:=car) hi
 unfold notN
 split
 ·omega
 ·rename_i h0
  have hl:0<(tms l i (basis p l i car)).length:=by rw[tms_len];omega
  split
  ·have:=srt_getD (k:=((basis p l i car).length-1) / 2) (b:=tms l i (basis p l i car)) (by rw[tms_len];omega) fun x hx=>basis_tm hc hi hx
   omega
  ·split
   ·have:=srt_getD (k:=(basis p l i car).length-1) (b:=tms l i (basis p l i car)) (by rw[tms_len];omega) fun x hx=>basis_tm hc hi hx
    omega
   ·split
    ·have:=mul_bd hb ⟨(by omega:0≤p.percent),hm.2.1.2⟩
     omega
    ·have:=bef_bd hc hi (m:=mnK l i car) (b:=basis p l i car) (s:=(-1,least l i (basis p l i car))) (fun k hk=>(mem_basis hk).1) ⟨by simp,by simp,hb.1,hb.2⟩
     omega

theorem timeN_bd (hp:p.ok=true)(hc:cardsOk p l=true){i car:Nat}(hi:i<p.n)(hcar:car<l.length):0≤timeN p l car i∧timeN p l car i≤400000000:=by
 have hb:=least_bd hc (car:=car) hi
 have hr:=Plan.ok_rules hp
 unfold timeN
 split
 ·have:=((cards_ok hc).2 car hcar).time hi
  unfold tmK
  omega
 ·split
  ·exact notN_bd hp hc hi
  ·split <;> omega

theorem jumpN_bd (hp:p.ok=true)(c:Card)(i:Nat):0≤jumpN p c i∧jumpN p c i≤36000000:=by
 unfold jumpN
 split
 ·exact(Plan.ok_rules hp).2.2.2.2.2.2 _
 ·omega

theorem costN_bd (hp:p.ok=true)(hc:cardsOk p l=true){i car:Nat}(hi:i<p.n)(hcar:car<l.length):0≤costN p l car i∧costN p l car i≤8000000000000:=by
 have h:=(cards_ok hc).2 car hcar
 have hr:=Plan.ok_rules hp
 unfold costN
 split
 ·have h1:=timeN_bd hp hc hi hcar
  have h2:=jumpN_bd hp (cd l car) i
  omega
 ·have h1:=mul_bd (h.late hp hi) hr.1
  have h2:=mul_bd (h.early hp hi) hr.2.1
  omega

theorem totTo_bd (hp:p.ok=true)(hc:cardsOk p l=true){car:Nat}(hcar:car<l.length):∀{i:Nat},i≤p.n→0≤totTo p l car i∧totTo p l car i≤8000000000000*i
 | 0,_=>by simp[totTo]
 | i+1,hi=>by
  have ih:=totTo_bd hp hc hcar (i:=i) (by omega)
  have:=costN_bd hp hc (i:=i) (by omega) hcar
  rw[totTo]
  split <;> omega

theorem runs_down {c:Card}{i k:Int}(hik:i≤k)(h:runsB p c k=true):runsB p c i=true:=by
 simp only[runsB,Bool.or_eq_true,decide_eq_true_eq] at h ⊢
 omega

theorem totTo_stop {car:Nat}:∀{i n:Nat},i≤n→runsB p (cd l car) i=false→totTo p l car n=totTo p l car i
 | i,0,h,_=>by rw[show i=0 by omega]
 | i,n+1,h,hr=>by
  rcases Nat.lt_or_ge n i with h1 | h1
  ·rw[show i=n+1 by omega]
  ·have:runsB p (cd l car) n=false:=by
    rw[Bool.eq_false_iff]
    intro hn
    rw[runs_down (by omega) hn] at hr
    cases hr
   rw[totTo,totTo_stop h1 hr,this]
   simp

def jmpTo (p:Plan)(c:Card)(n:Nat):List Nat:=(List.range n).filter fun k=>(c.ln k).jump&&runsB p c k

theorem jmpTo_succ {c:Card}{n:Nat}:jmpTo p c (n+1)=if((c.ln n).jump&&runsB p c n)=true then jmpTo p c n++[n] else jmpTo p c n:=by
 unfold jmpTo
 rw[List.range_succ,List.filter_append]
 cases h:((c.ln n).jump&&runsB p c n) <;> simp[h]

theorem jmpTo_len {c:Card}:∀{n:Nat},(n=0∨runsB p c ((n:Int)-1)=true)→(jmpTo p c n).length=jumpK c n
 | 0,_=>rfl
 | n+1,h=>by
  have hr:runsB p c n=true:=by
   rcases h with h | h
   ·cases h
   ·rwa [show((n+1:Nat):Int)-1=n by omega] at h
  have ih:=jmpTo_len (n:=n) (.inr (runs_down (by omega) hr))
  rw[jmpTo_succ,hr,Bool.and_true,jumpK]
  split <;> simp[ih]

theorem jmpTo_le {c:Card}{n:Nat}:(jmpTo p c n).length≤n:=by simpa[jmpTo] using List.length_filter_le (fun k=>(c.ln k).jump&&runsB p c k) (List.range n)

theorem CdOk.nojump {c:Card}(h:CdOk p c){i:Nat}(hi:i<p.n)(hk:(p.it i).kind=1):(c.ln i).jump=false:=by
 have h1:=h.ln i hi
 simp only[lineOk,Bool.and_eq_true,Bool.or_eq_true,beq_iff_eq,bne_iff_ne,decide_eq_true_eq,Bool.not_eq_true'] at h1
 rcases h1.2.2 with h2 | h2 | h2
 ·rcases h2.2 with h3 | h3
  ·exact h3.2.2
  ·exact absurd hk h3.1
 ·exact absurd hk h2.2.1
 ·exact h2.2.2.2

end Go.Am.Sc

/-
 Real times,notional times and totals,in the specification.
-/
namespace Go.Am.Sc
open Go.Proofs
set_option maxRecDepth 100000
set_option maxHeartbeats 4000000

attribute [local irreducible] inR allR lineOk

variable {bs:List D} {p:Plan} {c:Card} {l:List Card}

theorem ea_cd {k:Nat}(h:k<l.length):D.eaddr 3 (Cards l) (In k)=some (.ptr (cd l k).d.cells):=eaddr_lst (cd_get h) rfl

theorem c24 (hp:p.Ok)(hok:p.ok=true)(hl:CardsOk l):FSpecR Tryz.prog 24 (.st bs) [p.d,Cards l] (B (cardsOk p l)):=by
 refine ku24.R rfl rfl ?_
 unfold u24
 simp only[ups_cons,ups_nil,List.cons_append,List.nil_append]
 repeat' (first|(apply u_chk;rfl)|(apply u_lenL;rfl;exact lenL_map;simp only[sbe];rfl)|(apply u_ev;rfl;simp only[sbe];rfl)|refine u_join ?_|(apply u_ite;rfl;all_goals (intro hz;(try simp only[sbs] at hz);first|(exact absurd hz (by decide))|(exfalso;omega)|skip))|(apply u_ret;rfl;first|exact rfl|(refine retB ?_)|(refine retI ?_)|(refine retD ?_)))
 ·symm
  rw[Bool.eq_false_iff]
  intro h
  simp only[cardsOk,Bool.and_eq_true,decide_eq_true_eq] at h
  omega
 ·refine u_range (fun i=>[I i]) (fun i=>∀k (h:k<i) (h2:k<l.length),cardOk p l[k]=true) l.length rfl (fun _=>rfl) (fun k h=>absurd h (Nat.not_lt_zero _)) (fun i hj hJ R hR=>?_) (fun hJ R=>?_)
  ·have hli:decide ((i:Int)<(l.length:Int))=true:=by simp;omega
   have h21:=c21 (bs:=bs) hp (hl.1 l[i] (List.getElem_mem hj)) hok
   cases hcd:cardOk p l[i]
   ·rw[hcd] at h21
    repeat' (first|(apply nrm;simp only[sbe];rfl)|(apply u_iteT;rfl;(·first|exact hli|exact rfl))|(apply u_eaddr;rfl;rfl;exact ea_card hj;simp only[sbe];rfl)|(apply u_lenL;rfl;exact lenL_map;simp only[sbe];rfl)|(apply u_ev;rfl;simp only[sbe];rfl)|(apply u_call;rfl;rfl;exact h21;rfl;simp only[sbe];rfl)|refine u_join ?_|(apply u_ret;rfl;first|exact rfl|(refine retB ?_)|(refine retI ?_)|(refine retD ?_)))
    have:l.all (cardOk p)=false:=List.all_eq_false.2 ⟨_,List.getElem_mem hj,by simp[hcd]⟩
    simp[cardsOk,this]
   ·rw[hcd] at h21
    repeat' (first|(apply nrm;simp only[sbe];rfl)|(apply u_iteT;rfl;exact hli)|(apply u_iteF;rfl;exact rfl)|(apply u_eaddr;rfl;rfl;exact ea_card hj;simp only[sbe];rfl)|(apply u_lenL;rfl;exact lenL_map;simp only[sbe];rfl)|(apply u_inc;rfl;omega;simp only[sbe];rfl)|(apply u_ev;rfl;simp only[sbe];rfl)|(apply u_call;rfl;rfl;exact h21;rfl;simp only[sbe];rfl)|refine u_join ?_|(apply u_jump;rfl;rfl)|refine at_jump ?_|refine kj rfl ?_)
    refine hR fun k hk h2=>?_
    rcases Nat.lt_or_ge k i with h3 | h3
    ·exact hJ k h3 h2
    ·have e:k=i:=by omega
     subst e
     exact hcd
  ·have hlf:decide ((l.length:Int)<(l.length:Int))=false:=by simp
   repeat' (first|(apply nrm;simp only[sbe];rfl)|(apply u_iteF;rfl;exact hlf)|(apply u_lenL;rfl;exact lenL_map;simp only[sbe];rfl)|(apply u_ev;rfl;simp only[sbe];rfl)|(apply u_jump;rfl;rfl)|refine at_jump ?_|(refine over_jump (by decide) ?_)|refine kj rfl ?_|(apply u_ret;rfl;first|exact rfl|(refine retB ?_)|(refine retI ?_)|(refine retD ?_)))
   have:l.all (cardOk p)=true:=List.all_eq_true.2 fun a ha=>by
    obtain⟨k,hk,rfl⟩:=List.mem_iff_getElem.1 ha
    exact hJ k hk hk
   have h200:l.length≤200:=by omega
   simp[cardsOk,this,h200]

theorem app_ix {xs:List Nat}{x:Nat}(h:xs.length≤100000):D.app 1 8 (Ix xs) (.lst [In x])=some (Ix (xs++[x])):=app1_lst (enc:=In) (by omega) (Nat.le_trans (Nat.succ_le_succ h) (by decide)) (fun _=>rfl)
theorem app_is {xs:List Int}{x:Int}(h:xs.length≤100000):D.app 1 8 (Is xs) (.lst [I x])=some (Is (xs++[x])):=app1_lst (enc:=I) (by omega) (Nat.le_trans (Nat.succ_le_succ h) (by decide)) (fun _=>rfl)

theorem ix_get {L:List Nat}{i:Nat}(h:i<L.length):D.eaddr 1 (Ix L) (In i)=some (.ptr [In L[i]]):=eaddr_get h rfl
theorem is_get {L:List Int}{i:Nat}(h:i<L.length):D.eaddr 1 (Is L) (In i)=some (.ptr [I (L.getD i 0)]):=by
 have e:L.getD i 0=L[i]:=by simp[List.getD,h]
 rw[e]
 exact eaddr_get (enc:=I) h rfl

theorem e_sub {env:List D}{n:Nat}{x y z:E}{dx dy dz d:D}(hx:x.eval env=some dx)(hy:y.eval env=some dy)(hz:z.eval env=some dz)(h:D.sub n dx dy dz=some d):(E.sub n x y z).eval env=some d:=by simp only[E.eval,hx,hy,hz,Option.bind_some,h]
theorem e_lenL {env:List D}{x:E}{dx d:D}(hx:x.eval env=some dx)(h:D.lenL dx=some d):(E.lenL x).eval env=some d:=by simp only[E.eval,hx,Option.bind_some,h]

theorem tms_take {i k:Nat}{b:List Nat}(hk:k<b.length):tms l i (b.take (k+1))=tms l i (b.take k)++[tmK l i b[k]]:=by
 rw[List.take_add_one,List.getElem?_eq_getElem hk]
 exact List.map_append



end Go.Am.Sc

/-
 Notional times,false starts and totals,in the specification.
-/
namespace Go.Am.Sc
open Go.Proofs
set_option maxRecDepth 100000
set_option maxHeartbeats 4000000

attribute [local irreducible] inR allR lineOk

variable {bs:List D} {p:Plan} {c:Card} {l:List Card}

theorem bin_mul {a b:Int}(h:-9223372036854775808≤a*b∧a*b<9223372036854775808):D.bin .mul .int (I a) (I b)=some (I (a*b)):=by
 show some (I (IntKind.i64.wrap (a*b)))=_
 rw[wrap64 h]
theorem bin_quo {a b:Int}(hb:0<b)(h:0≤a∧a<9223372036854775808):D.bin .quo .int (I a) (I b)=some (I (a / b)):=by
 have e:a.tdiv b=a / b:=Int.tdiv_eq_ediv_of_nonneg h.1
 have h1:0≤a / b:=Int.ediv_nonneg h.1 (by omega)
 have h2:a / b≤a:=Int.ediv_le_self _ h.1
 have hb0:¬b=0:=by omega
 simp only[D.bin,cmpI,arI,if_true,if_neg hb0,Option.map_some,e]
 rw[wrap64 (by omega)]
theorem mm_max {a b:Int}:D.mm true (I a) (I b)=some (I (max a b)):=by
 simp only[D.mm,if_true]
 congr 3
 split <;> omega
theorem mm_min {a b:Int}:D.mm false (I a) (I b)=some (I (min a b)):=by
 simp only[D.mm,if_true]
 congr 3
 split
 ·contradiction
 ·split <;> omega

theorem befF_no {i k:Nat}{m:Int}{s:Int×Int}(h:¬(mnK l i k≤m∧(mnK l i k > s.1∨mnK l i k=s.1∧tmK l i k > s.2))):befF l i m s k=s:=if_neg h
theorem befF_yes {i k:Nat}{m:Int}{s:Int×Int}(h:mnK l i k≤m∧(mnK l i k > s.1∨mnK l i k=s.1∧tmK l i k > s.2)):befF l i m s k=(mnK l i k,tmK l i k):=if_pos h

theorem jumpK_le:∀i:Nat,jumpK c i≤i
 | 0=>Nat.le_refl _
 | i+1=>by
  have:=jumpK_le i
  rw[jumpK]
  split <;> omega

end Go.Am.Sc

/-
 A list of numbers that grows at the end of a function's own store;what data without a store melt to.
-/
namespace Go.Am.Sc

def gS (m:Nat):List Int→D
 | []=>.snil
 | _ :: r=>.sl (m+r.length) 0 (r.length+1)

def gB (b0:List D):List Int→List D
 | []=>b0
 | x :: r=>b0++(List.replicate r.length (.tup [])++[.blk 3 1 ((x :: r).map I)])

variable {b0:List D} {xs:List Int} {x:Int}

theorem gB_get:∀{xs:List Int},xs≠[]→(gB b0 xs)[b0.length+(xs.length-1)]? = some (.blk 3 1 (xs.map I))
 | [],h=>absurd rfl h
 | x :: r,_=>by
  rw[gB,List.getElem?_append_right (by simp)]
  simp

theorem gB_low:∀{xs:List Int} {i:Nat},i<b0.length→(gB b0 xs)[i]? = b0[i]?
 | [],_,_=>rfl
 | x :: r,i,h=>by rw[gB,List.getElem?_append_left h]

theorem gB_len:∀{xs:List Int},(gB b0 xs).length=b0.length+xs.length
 | []=>rfl
 | x :: r=>by simp[gB]

theorem gS_cons {xs:List Int}{m:Nat}(h:xs≠[]):gS m xs=.sl (m+(xs.length-1)) 0 xs.length:=by
 cases xs with
 | nil=>exact absurd rfl h
 | cons x r=>simp[gS]

theorem gB_snoc:∀{xs:List Int},xs≠[]→gB b0 (xs++[x])=(gB b0 xs).set (b0.length+(xs.length-1)) (.tup [])++[.blk 3 1 (xs.map I++[I x])]
 | [],h=>absurd rfl h
 | y :: r,_=>by
  simp only[gB,List.cons_append,List.length_append,List.length_cons,List.length_nil,Nat.zero_add,Nat.add_sub_cancel,List.map_append,List.map_cons,List.map_nil]
  rw[List.set_append_right _ _ (by omega),List.set_append_right _ _ (by simp)]
  simp[List.replicate_succ']

theorem g_apph (h:xs.length+1≤1000000000):D.apph 3 1 8 (.st (gB b0 xs)) (gS b0.length xs) (.lst [I x])=some (.st (gB b0 (xs++[x]))):=by
 have hone:(cellsL [I x]).all (·.one)=true:=rfl
 have hac:allCells 1 [I x]=true:=rfl
 by_cases hx:xs=[]
 ·subst hx
  simp only[gS,gB,D.apph,D.asL,hac,hone,List.cons_ne_nil,if_false,List.length_cons,List.length_nil]
  rw[if_pos (by refine⟨by omega,by decide,?_⟩;simp)]
  rfl
 ·rw[gS_cons hx,gB_snoc hx]
  simp only[D.apph,D.asL,D.cellsAt,gB_get hx,Option.bind_some,hac,hone,List.cons_ne_nil,if_false,List.length_cons,List.length_nil]
  have hm:xs.length+1≤maxLen:=Nat.le_trans h (by decide)
  rw[if_pos (by refine⟨?_,?_,?_,?_,?_,?_,?_⟩ <;> simp <;> omega)]
  rfl

theorem g_apps:D.apps (.st (gB b0 xs)) (gS b0.length xs) (.lst [I x])=some (gS b0.length (xs++[x])):=by
 by_cases hx:xs=[]
 ·subst hx
  rfl
 ·rw[gS_cons hx,gS_cons (by simp)]
  simp only[D.apps,D.cnt,List.length_cons,List.length_nil,List.length_append]
  rw[if_neg (by omega),gB_len]
  rw[show b0.length+(xs.length+(0+1)-1)=b0.length+xs.length by omega]

theorem ev_apps {env:List D}{x y z:E}{dx dy dz d:D}(hx:x.eval env=some dx)(hy:y.eval env=some dy)(hz:z.eval env=some dz)(h:D.apps dx dy dz=some d):(E.apps x y z).eval env=some d:=by simp[E.eval,hx,hy,hz,h]
theorem evC {env:List D}{x:E}{r:List E}{d:D}{ds:List D}(hx:x.eval env=some d)(hr:evalAll env r=some ds):evalAll env (x :: r)=some (d :: ds):=by simp[evalAll,hx,hr]
theorem evN {env:List D}:evalAll env []=some []:=rfl

/-! ## data that melt to themselves -/

theorem meltL_map {α:Type}{enc:α→D}{f:D→Option D}:∀{l:List α},(∀a,a∈l→f (enc a)=some (enc a))→meltL f (l.map enc)=some (l.map enc)
 | [],_=>rfl
 | a :: l,h=>by
  simp only[List.map_cons,meltL]
  rw[h a (List.mem_cons_self ..),meltL_map fun b hb=>h b (List.mem_cons_of_mem _ hb)]
  rfl

theorem melt_is {bs:List D}{l:List Int}{n:Nat}:melt bs (n+2) (Is l)=some (Is l):=by
 rw[melt,meltL_map (enc:=I) fun a _=>by rw[melt]]
 rfl

theorem melt_g {n:Nat}:melt (gB b0 xs) (n+2) (gS b0.length xs)=some (Is xs):=by
 by_cases hx:xs=[]
 ·subst hx
  rfl
 ·rw[gS_cons hx,melt]
  simp only[gB_get hx]
  rw[if_pos (by simp)]
  simp only[Nat.mul_one,Nat.zero_add,List.drop_zero]
  rw[show(List.map I xs).take xs.length=List.map I xs from List.take_of_length_le (by simp),meltL_map (enc:=I) fun a _=>by rw[melt]]
  simp

theorem meltV {P:Program}{f:FuncId}{ds st:List D}{v:Value}(h:FSpecW P f (.st []) ds (.v v) (.st st))(hd:noids ds=true)(bs:List D):FSpecR P f (.st bs) ds (.v v):=FSpecWO.melt (n:=1) h hd rfl bs

end Go.Am.Sc

/-
 DERIVED: THE SHELF's CONTRACTS AT THIS DUMP,IN PLAIN WORDS (tools/lay-plain.mjs out of 'ScShelf.lean',which tools/lay-shelf.mjs wrote): THE SAME DECLARATIONS UNDER THE SAME NAMES: 'import','namespace','open','def','theorem' AND NOTHING ELSE: no command of the shelf's: FOR A HAND-IN. Each laying: the table of numbers ('.._ren') and one theorem,a field a fact of the dump's own or the kernel's comparison;each contract: ONE APPLICATION.
-/
namespace Go.Proofs
open Go.Shelf
def Tryz.lays189_ren:Go.Shelf.Ren:=⟨fun | 189=>96 | 125=>113 | 257=>125 | 128=>136 | 129=>137 | 294=>140 | 295=>141 | 296=>142 | 297=>143 | 298=>144 | 299=>145 | 216=>146 | 300=>147 | 301=>148 | 328=>155 | 329=>150 | 330=>151 | 331=>156 | 332=>157 | 215=>115 | 343=>160 | n=>n,fun | 28=>23 | 3=>3 | 46=>134 | 0=>0 | 51=>157 | 53=>159 | 4=>4 | 183=>151 | 182=>150 | 131=>116 | 5=>5 | 9=>9 | 218=>165 | 222=>169 | 228=>173 | 229=>130 | n=>n,fun | n=>n⟩
theorem Tryz.lays189:Go.Proofs.Lays.n189 Tryz.prog Tryz.lays189_ren:={
 mixed:=by kernel_rfl
 f125:=Tryz.func113.trans (congrArg some (by kernel_rfl))
 f128:=Tryz.func136.trans (congrArg some (by kernel_rfl))
 f129:=Tryz.func137.trans (congrArg some (by kernel_rfl))
 f189:=Tryz.func96.trans (congrArg some (by kernel_rfl))
 f215:=Tryz.func115.trans (congrArg some (by kernel_rfl))
 f216:=Tryz.func146.trans (congrArg some (by kernel_rfl))
 f257:=Tryz.func125.trans (congrArg some (by kernel_rfl))
 f294:=Tryz.func140.trans (congrArg some (by kernel_rfl))
 f295:=Tryz.func141.trans (congrArg some (by kernel_rfl))
 f296:=Tryz.func142.trans (congrArg some (by kernel_rfl))
 f297:=Tryz.func143.trans (congrArg some (by kernel_rfl))
 f298:=Tryz.func144.trans (congrArg some (by kernel_rfl))
 f299:=Tryz.func145.trans (congrArg some (by kernel_rfl))
 f300:=Tryz.func147.trans (congrArg some (by kernel_rfl))
 f301:=Tryz.func148.trans (congrArg some (by kernel_rfl))
 f328:=Tryz.func155.trans (congrArg some (by kernel_rfl))
 f329:=Tryz.func150.trans (congrArg some (by kernel_rfl))
 f330:=Tryz.func151.trans (congrArg some (by kernel_rfl))
 f331:=Tryz.func156.trans (congrArg some (by kernel_rfl))
 f332:=Tryz.func157.trans (congrArg some (by kernel_rfl))
 f343:=Tryz.func160.trans (congrArg some (by kernel_rfl))
 t0:=Tryz.underlying0
 a0:=Tryz.isAgg0
 z0:=Tryz.sizeOf0
 v0:=Tryz.zeroValue0
 t3:=Tryz.underlying3
 a3:=Tryz.isAgg3
 z3:=Tryz.sizeOf3
 v3:=Tryz.zeroValue3
 t4:=Tryz.underlying4
 a4:=Tryz.isAgg4
 z4:=Tryz.sizeOf4
 v4:=Tryz.zeroValue4
 t5:=Tryz.underlying5
 a5:=Tryz.isAgg5
 z5:=Tryz.sizeOf5
 v5:=Tryz.zeroValue5
 t9:=Tryz.underlying9
 a9:=Tryz.isAgg9
 z9:=Tryz.sizeOf9
 v9:=Tryz.zeroValue9
 t28:=Tryz.underlying23
 a28:=Tryz.isAgg23
 z28:=Tryz.sizeOf23
 v28:=Tryz.zeroValue23
 t46:=Tryz.underlying134
 a46:=Tryz.isAgg134
 z46:=Tryz.sizeOf134
 v46:=Tryz.zeroValue134
 t51:=Tryz.underlying157
 a51:=Tryz.isAgg157
 z51:=Tryz.sizeOf157
 v51:=Tryz.zeroValue157
 t53:=Tryz.underlying159
 a53:=Tryz.isAgg159
 z53:=Tryz.sizeOf159
 v53:=Tryz.zeroValue159
 t131:=Tryz.underlying116
 a131:=Tryz.isAgg116
 z131:=Tryz.sizeOf116
 v131:=Tryz.zeroValue116
 t182:=Tryz.underlying150
 a182:=Tryz.isAgg150
 z182:=Tryz.sizeOf150
 v182:=Tryz.zeroValue150
 t183:=Tryz.underlying151
 a183:=Tryz.isAgg151
 z183:=Tryz.sizeOf151
 v183:=Tryz.zeroValue151
 t218:=Tryz.underlying165
 a218:=Tryz.isAgg165
 z218:=Tryz.sizeOf165
 v218:=Tryz.zeroValue165
 t222:=Tryz.underlying169
 a222:=Tryz.isAgg169
 z222:=Tryz.sizeOf169
 v222:=Tryz.zeroValue169
 t228:=Tryz.underlying173
 a228:=Tryz.isAgg173
 z228:=Tryz.sizeOf173
 v228:=Tryz.zeroValue173
 t229:=Tryz.underlying130
 a229:=Tryz.isAgg130
 z229:=Tryz.sizeOf130
 v229:=Tryz.zeroValue130 }
open Go.Sort Go.RowKit in
theorem Tryz.slices_Sort_int (blk off cap:Nat)(zs:List Int)(w:World)(hH:Holds (Value.int .i64) w blk off zs.toArray)(hblk:blk<w.heap.size)(hsz:zs.length<4611686018427387904) :
  Calls Tryz.prog 96 #[.slice (some ⟨blk,off,none⟩) zs.length cap] w fun e w'=>
   e=.returned (.tuple #[])∧∃n os,w'=grow (putRow (Value.int .i64) (Sort.ahead w n) blk off (zs.mergeSort fun x y=>decide (x≤y)).toArray) os:=Any.slices_Sort_int Tryz.lays189 blk off cap zs w hH hblk hsz
def Tryz.laysNm215_ren:Go.Shelf.Ren:=⟨fun | 15=>82 | n=>n,fun | 22=>23 | 3=>3 | 4=>4 | n=>n,fun | n=>n⟩
theorem Tryz.laysNm215:Go.Proofs.Lays2.n15 Tryz.prog Tryz.laysNm215_ren:={
 mixed:=by kernel_rfl
 f15:=Tryz.func82.trans (congrArg some (by kernel_rfl))
 t3:=Tryz.underlying3
 a3:=Tryz.isAgg3
 z3:=Tryz.sizeOf3
 v3:=Tryz.zeroValue3
 t4:=Tryz.underlying4
 a4:=Tryz.isAgg4
 z4:=Tryz.sizeOf4
 v4:=Tryz.zeroValue4
 t22:=Tryz.underlying23
 a22:=Tryz.isAgg23
 z22:=Tryz.sizeOf23
 v22:=Tryz.zeroValue23
 i3:=by kernel_rfl }
open Go.RowKit Go.Lib in
theorem Tryz.slices_Clone_int (b off n c:Nat)(zs:List Int)(w:World)(hz:n≤zs.length)(hbig:n*8≤140737488355328)(hc:∀j,j<zs.length→w.cell? ⟨b,off+j,none⟩=some (.int .i64 (zs.getD j 0))) :
  Calls Tryz.prog 82 #[.slice (some ⟨b,off,none⟩) n c] w fun e w'=>∃v',e=.returned v'∧w'.ownsRow w.heap.size 3 1 v' n ((zs.take n).map (Value.int .i64))∧v'≠.slice none 0 0∧Below w.heap.size w w':=Any.slices_Clone_int Tryz.laysNm215 b off n c zs w hz hbig hc
open Go.RowKit Go.Lib in
theorem Tryz.slices_Clone_int_nil (n c:Nat)(w:World) :
  Calls Tryz.prog 82 #[.slice none n c] w fun e w'=>e=.returned (.slice none 0 0)∧w'=w:=Any.slices_Clone_int_nil Tryz.laysNm215 n c w
open Go.RowKit Go.Lib in
theorem Tryz.slices_Clone_int_zero (a:Addr)(c:Nat)(w:World) :
  Calls Tryz.prog 82 #[.slice (some a) 0 c] w fun e w'=>∃v',e=.returned v'∧w'.ownsRow w.heap.size 3 1 v' 0 []∧v'≠.slice none 0 0∧Below w.heap.size w w':=Any.slices_Clone_int_zero Tryz.laysNm215 a c w
open Go.RowKit Go.Sort in
theorem Tryz.slices_Sort_int_none (p:Option Addr)(cap:Nat)(w:World) :
  Calls Tryz.prog 96 #[.slice p 0 cap] w fun e w'=>e=.returned (.tuple #[])∧w'=w:=Any.slices_Sort_int_none Tryz.lays189 p cap w
end Go.Proofs
