/-
  Several texts, one behind the other.
-/
import Derived.Test.YthkepocejfghcaaGreatScLentoScAct
import Derived.Test.YthkepocejfghcaaGreatAmFntoAmSt2
import Derived.Test.YthkepocejfghcaaGreatAmKilltoAmOut
set_option linter.unusedSimpArgs false
set_option linter.unusedVariables false
/-
 What the small functions of the score and of its specification answer: ranges,lines.
-/
namespace Go.Am.Sc
open Go.Proofs
set_option maxRecDepth 100000
set_option maxHeartbeats 4000000

variable {bs:List D}

theorem c46 (x lo hi:Int):FSpecR Tryz.prog 46 (.st bs) [I x,I lo,I hi] (B (inR x lo hi)):=by
 refine ku46.R rfl rfl ?_
 unfold u46
 simp only[ups_cons,ups_nil,List.cons_append,List.nil_append]
 repeat' (first|(apply nrm;simp only[sbe];rfl)|(apply u_ev;rfl;simp only[sbe];rfl)|(apply u_and;rfl)|exact u_ret rfl rfl|(intro hz;(try simp only[sbs] at hz)))

theorem c49 (x lo hi:Int):FSpecR Tryz.prog 49 (.st bs) [I x,I lo,I hi] (B (inR x lo hi)):=by
 refine ku49.R rfl rfl ?_
 unfold u49
 simp only[ups_cons,ups_nil,List.cons_append,List.nil_append]
 repeat' (first|(apply nrm;simp only[sbe];rfl)|(apply u_ev;rfl;simp only[sbe];rfl)|(apply u_and;rfl)|exact u_ret rfl rfl|(intro hz;(try simp only[sbs] at hz)))

attribute [local irreducible] inR

def fi {α:Type}(P:α→Bool)(l:List α):Int:=match l.findIdx? P with
 | some i=>i
 | none=>-1

theorem fi_at {α:Type}{P:α→Bool}{l:List α}{i:Nat}(hi:i<l.length)(hP:P l[i]=true)(hn:∀k (h:k<i),P (l[k]'(by omega))=false):fi P l=i:=by
 have:l.findIdx? P=some i:=by
  rw[List.findIdx?_eq_some_iff_getElem]
  exact⟨hi,hP,fun j hj=>by simp[hn j hj]⟩
 simp[fi,this]

theorem fi_no {α:Type}{P:α→Bool}{l:List α}(hn:∀a,a∈l→P a=false):fi P l=-1:=by
 have:l.findIdx? P=none:=by
  rw[List.findIdx?_eq_none_iff]
  exact hn
 simp[fi,this]

theorem fi_any {α:Type}(P:α→Bool)(l:List α):decide (fi P l≥0)=l.any P:=by
 cases h:l.findIdx? P with
 | none=>
  have h2:=List.findIdx?_eq_none_iff.1 h
  have:l.any P=false:=by
   rw[List.any_eq_false]
   intro x hx
   simp[h2 x hx]
  rw[this]
  simp[fi,h]
 | some i=>
  obtain⟨h1,h2,_⟩:=List.findIdx?_eq_some_iff_getElem.1 h
  have:l.any P=true:=List.any_eq_true.2 ⟨_,List.getElem_mem h1,h2⟩
  rw[this]
  simp[fi,h]


theorem c126 {P:Int→Bool}{f:Nat}{us cs:List D}{l:List Int}(hL:l.length≤maxLen)(hc:callable Tryz.prog f=true)(hf:∀x,x∈l→FSpecR Tryz.prog f (.st bs) (us++[I x]++cs) (B (P x))):FSpecR Tryz.prog 126 (.st bs) [.lst (l.map I),.fn f us cs] (I (fi P l)):=by
 have hL':l.length≤9223372036854775807:=hL
 refine ku126.R rfl rfl ?_
 unfold u126
 simp only[ups_cons,ups_nil,List.cons_append,List.nil_append]
 repeat' (first|(apply u_lenL;rfl;exact lenL_map;simp only[sbe];rfl)|refine u_join ?_)
 refine u_range (fun i=>[I i]) (fun i=>∀k (h:k<i) (h2:k<l.length),P l[k]=false) l.length rfl (fun _=>rfl) (fun k h=>absurd h (Nat.not_lt_zero _)) (fun i hi hJ R hR=>?_) (fun hJ R=>?_)
 ·have hcal:=hf l[i] (List.getElem_mem hi)
  have hli:decide ((i:Int)<(l.length:Int))=true:=by simp;omega
  cases hP:P l[i]
  ·rw[hP] at hcal
   repeat' (first|(apply nrm;simp only[sbe];rfl)|(apply u_iteT;rfl;exact hli)|(apply u_iteF;rfl;exact rfl)|(apply u_eaddr;rfl;rfl;exact eaddr_get hi rfl;simp only[sbe];rfl)|(apply u_add;rfl;rfl;omega;simp only[sbe];rfl)|(apply u_ev;rfl;simp only[sbe];rfl)|(apply u_callv;rfl;exact hc;rfl;rfl;exact hcal;rfl;simp only[sbe];rfl)|refine u_join ?_|(apply u_jump;rfl;rfl)|refine at_jump ?_|refine kj rfl ?_)
   refine hR fun k hk h2=>?_
   rcases Nat.lt_or_ge k i with h3 | h3
   ·exact hJ k h3 h2
   ·have e:k=i:=by omega
    subst e
    exact hP
  ·rw[hP] at hcal
   repeat' (first|(apply nrm;simp only[sbe];rfl)|(apply u_iteT;rfl;(·first|exact hli|exact rfl))|(apply u_eaddr;rfl;rfl;exact eaddr_get hi rfl;simp only[sbe];rfl)|(apply u_ev;rfl;simp only[sbe];rfl)|(apply u_callv;rfl;exact hc;rfl;rfl;exact hcal;rfl;simp only[sbe];rfl)|refine u_join ?_|(apply u_ret;rfl;first|exact rfl|(refine retB ?_)|(refine retI ?_)|(refine retD ?_)))
   exact(fi_at hi hP fun k hk=>hJ k hk (by omega)).symm
 ·repeat' (first|(apply nrm;simp only[sbe];rfl)|(apply u_ev;rfl;simp only[sbe];rfl)|(apply u_jump;rfl;rfl)|refine at_jump ?_|(refine over_jump (by decide) ?_)|refine kj rfl ?_|(apply u_ite;rfl;all_goals (intro hz;(try simp only[sbs] at hz);first|(exact absurd hz (by decide))|(exfalso;omega)|skip))|(apply u_ret;rfl;first|exact rfl|(refine retB ?_)|(refine retI ?_)|(refine retD ?_)))
  refine(fi_no fun a ha=>?_).symm
  obtain⟨k,hk,rfl⟩:=List.mem_iff_getElem.1 ha
  exact hJ k hk hk


theorem c99 {P:Int→Bool}{f:Nat}{us cs:List D}{l:List Int}(hL:l.length≤maxLen)(hc:callable Tryz.prog f=true)(hf:∀x,x∈l→FSpecR Tryz.prog f (.st bs) (us++[I x]++cs) (B (P x))):FSpecR Tryz.prog 99 (.st bs) [.lst (l.map I),.fn f us cs] (B (l.any P)):=by
 refine ku99.R rfl rfl ?_
 unfold u99
 simp only[ups_cons,ups_nil,List.cons_append,List.nil_append]
 repeat' (first|(apply u_ev;rfl;simp only[sbe];rfl)|(apply u_call;rfl;rfl;exact c126 hL hc hf;rfl;simp only[sbe];rfl)|(apply u_ret;rfl;first|exact rfl|(refine retB ?_)|(refine retI ?_)|(refine retD ?_)))
 exact fi_any P l

theorem c100 (x most:Int):FSpecR Tryz.prog 100 (.st bs) [I x,.ptr [I most]] (B (!inR x 0 most)):=by
 refine ku100.R rfl rfl ?_
 unfold u100
 simp only[ups_cons,ups_nil,List.cons_append,List.nil_append]
 repeat' (first|(apply u_ev;rfl;simp only[sbe];rfl)|(apply u_call;rfl;rfl;exact c46 _ _ _;rfl;simp only[sbe];rfl)|exact u_ret rfl rfl)

theorem not_any {α:Type}(P:α→Bool):∀l:List α,(!(l.any fun x=>!P x))=l.all P
 | []=>rfl
 | x :: l=>by simp[not_any P l]

theorem c47 {l:List Int}{least many most:Int}(hL:l.length≤maxLen):FSpecR Tryz.prog 47 (.st bs) [Is l,I least,I many,I most] (B (allR l least many 0 most)):=by
 have hf:FSpecR Tryz.prog 99 (.st bs) [.lst (l.map I),.fn 100 [] [.ptr [I most]]] (B (l.any fun x=>!inR x 0 most)):=c99 (us:=[]) (cs:=[.ptr [I most]]) hL (by kernel_rfl) fun x _=>c100 x most
 refine ku47.R rfl rfl ?_
 unfold u47
 simp only[ups_cons,ups_nil,List.cons_append,List.nil_append]
 repeat' (first|(apply nrm;simp only[sbe];rfl)|(apply u_lenL;rfl;exact lenL_map;simp only[sbe];rfl)|(apply u_ev;rfl;simp only[sbe];rfl)|(apply u_call;rfl;rfl;(·first|exact c46 _ _ _|exact hf);rfl;simp only[sbe];rfl)|(apply u_and;rfl)|exact u_ret rfl rfl|(apply u_ret;rfl;first|exact rfl|(refine retB ?_)|(refine retI ?_)|(refine retD ?_))|(intro hz;(try simp only[sbs] at hz)))
 rw[not_any,allR,Bool.and_comm]

theorem c50 {l:List Int}{least most lo hi:Int}(hL:l.length≤maxLen):FSpecR Tryz.prog 50 (.st bs) [Is l,I least,I most,I lo,I hi] (B (allR l least most lo hi)):=by
 have hL':l.length≤9223372036854775807:=hL
 refine ku50.R rfl rfl ?_
 unfold u50
 simp only[ups_cons,ups_nil,List.cons_append,List.nil_append]
 repeat' ((with_reducible refine u_join ?_))
 refine u_range (fun i=>[I i]) (fun i=>∀k (h:k<i) (h2:k<l.length),inR l[k] lo hi=true) l.length rfl (fun _=>rfl) (fun k h=>absurd h (Nat.not_lt_zero _)) (fun i hj hJ R hR=>?_) (fun hJ R=>?_)
 ·have hli:decide ((i:Int)<(l.length:Int))=true:=by simp;omega
  cases hP:inR l[i] lo hi
  ·have hcal:=c49 (bs:=bs) l[i] lo hi
   rw[hP] at hcal
   repeat' (first|(apply nrm;simp only[sbe];rfl)|(apply u_iteT;rfl;(·first|exact hli|exact rfl))|(apply u_eaddr;rfl;rfl;exact eaddr_get hj rfl;simp only[sbe];rfl)|(apply u_lenL;rfl;exact lenL_map;simp only[sbe];rfl)|(apply u_ev;rfl;simp only[sbe];rfl)|(apply u_call;rfl;rfl;exact hcal;rfl;simp only[sbe];rfl)|refine u_join ?_|(apply u_ret;rfl;first|exact rfl|(refine retB ?_)|(refine retI ?_)|(refine retD ?_)))
   rw[allR,Bool.and_eq_false_iff.2 (.inl (List.all_eq_false.2 ⟨_,List.getElem_mem hj,by simp[hP]⟩))]
  ·have hcal:=c49 (bs:=bs) l[i] lo hi
   rw[hP] at hcal
   repeat' (first|(apply nrm;simp only[sbe];rfl)|(apply u_iteT;rfl;exact hli)|(apply u_iteF;rfl;exact rfl)|(apply u_eaddr;rfl;rfl;exact eaddr_get hj rfl;simp only[sbe];rfl)|(apply u_lenL;rfl;exact lenL_map;simp only[sbe];rfl)|(apply u_add;rfl;rfl;omega;simp only[sbe];rfl)|(apply u_ev;rfl;simp only[sbe];rfl)|(apply u_call;rfl;rfl;exact hcal;rfl;simp only[sbe];rfl)|refine u_join ?_|(apply u_jump;rfl;rfl)|refine at_jump ?_|refine kj rfl ?_)
   refine hR fun k hk h2=>?_
   rcases Nat.lt_or_ge k i with h3 | h3
   ·exact hJ k h3 h2
   ·have e:k=i:=by omega
    subst e
    exact hP
 ·repeat' (first|(apply nrm;simp only[sbe];rfl)|(apply u_lenL;rfl;exact lenL_map;simp only[sbe];rfl)|(apply u_ev;rfl;simp only[sbe];rfl)|(apply u_call;rfl;rfl;exact c49 _ _ _;rfl;simp only[sbe];rfl)|(apply u_jump;rfl;rfl)|refine at_jump ?_|(refine over_jump (by decide) ?_)|refine kj rfl ?_|(apply u_ite;rfl;all_goals (intro hz;(try simp only[sbs] at hz);first|(exact absurd hz (by decide))|(exfalso;omega)|skip))|(apply u_ret;rfl;first|exact rfl|(refine retB ?_)|(refine retI ?_)|(refine retD ?_)))
  rw[allR,List.all_eq_true.2 fun a ha=>?_,Bool.true_and]
  obtain⟨k,hk,rfl⟩:=List.mem_iff_getElem.1 ha
  exact hJ k hk hk

theorem c48 (x:Item)(l:Line):FSpecR Tryz.prog 48 (.st bs) [x.d,l.d] (B (lineOk x l)):=by
 refine ku48.R rfl rfl ?_
 unfold u48
 simp only[ups_cons,ups_nil,List.cons_append,List.nil_append]
 repeat' (first|(apply nrm;simp only[sbe];rfl)|(apply u_chk;rfl)|(apply u_ev;rfl;simp only[sbe];rfl)|(apply u_call;rfl;rfl;exact c46 _ _ _;rfl;simp only[sbe];rfl)|(apply u_or;rfl)|(apply u_and;rfl)|refine u_join ?_|(apply u_jump;rfl;rfl)|refine at_jump ?_|refine kj rfl ?_|(apply u_ite;rfl;all_goals (intro hz;(try simp only[sbs] at hz);first|(exact absurd hz (by decide))|(exfalso;omega)|skip))|exact u_ret rfl rfl|(apply u_ret;rfl;first|exact rfl|(refine retB ?_)|(refine retI ?_)|(refine retD ?_))|(intro hz;(try simp only[sbs] at hz)))
 all_goals (unfold lineOk;rw[Bool.eq_iff_iff];cases hj:l.jump <;> cases h1:inR l.minute 0 100000 <;> cases h2:inR l.time 0 36000000 <;> simp_all <;> omega)

theorem c52 (x:Item)(l:Line):FSpecR Tryz.prog 52 (.st bs) [x.d,l.d] (B (lineOk x l)):=by
 refine ku52.R rfl rfl ?_
 unfold u52
 simp only[ups_cons,ups_nil,List.cons_append,List.nil_append]
 repeat' (first|(apply nrm;simp only[sbe];rfl)|(apply u_chk;rfl)|(apply u_ev;rfl;simp only[sbe];rfl)|(apply u_call;rfl;rfl;exact c49 _ _ _;rfl;simp only[sbe];rfl)|(apply u_or;rfl)|(apply u_and;rfl)|(apply u_ite;rfl;all_goals (intro hz;(try simp only[sbs] at hz);first|(exact absurd hz (by decide))|(exfalso;omega)|skip))|exact u_ret rfl rfl|(apply u_ret;rfl;first|exact rfl|(refine retB ?_)|(refine retI ?_)|(refine retD ?_))|(intro hz;(try simp only[sbs] at hz)))
 all_goals (unfold lineOk;rw[Bool.eq_iff_iff];cases hj:l.jump <;> cases h1:inR l.minute 0 100000 <;> cases h2:inR l.time 0 36000000 <;> simp_all <;> omega)

theorem c51 {p:Plan}(hn:0<p.n)(hN:p.n≤4000000000000000000)(hl:-9000000000000000000≤(p.it (p.n-1)).leg∧(p.it (p.n-1)).leg≤9000000000000000000):FSpecR Tryz.prog 51 (.st bs) [p.d] (I p.legs):=by
 have hea:D.eaddr 4 (.lst (p.items.map Item.d)) (I ((p.n:Int)-1))=some (.ptr (p.it (p.n-1)).d.cells):=by
  rw[show(p.n:Int)-1=((p.n-1:Nat):Int) by omega]
  exact eaddr_lst (Plan.it_getElem (by omega)) rfl
 have hln:D.lenL (.lst (p.items.map Item.d))=some (I p.n):=lenL_map
 refine ku51.R rfl rfl ?_
 unfold u51
 simp only[ups_cons,ups_nil,List.cons_append,List.nil_append]
 repeat' (first|(apply u_chk;rfl)|(apply u_eaddr;rfl;rfl;exact hea;simp only[sbe];rfl)|(apply u_lenL;rfl;exact hln;simp only[sbe];rfl)|(apply u_add;rfl;rfl;omega;simp only[sbe];rfl)|(apply u_sub;rfl;rfl;omega;simp only[sbe];rfl)|(apply u_ev;rfl;simp only[sbe];rfl)|exact u_ret rfl rfl)

end Go.Am.Sc

/-
 What Check answers,and what the specification says of a plan.
-/
namespace Go.Am.Sc
open Go.Proofs
set_option maxRecDepth 100000
set_option maxHeartbeats 4000000

attribute [local irreducible] inR allR

variable {bs:List D} {p:Plan}

theorem ea_it {i:Nat}(h:i<p.n):D.eaddr 4 (.lst (p.items.map Item.d)) (In i)=some (.ptr (p.it i).d.cells):=eaddr_lst (Plan.it_getElem h) rfl
theorem ln_it:D.lenL (.lst (p.items.map Item.d))=some (I p.n):=lenL_map

theorem sub_leg {a b:Int}(ha:i64 a)(hb:0≤b∧b≤5):∃w,D.bin .sub .int (I a) (I b)=some (I w)∧inR w 0 1=inR (a-b) 0 1:=by
 refine⟨IntKind.i64.wrap (a-b),rfl,?_⟩
 obtain⟨h1,h2⟩:=ha
 by_cases h:-9223372036854775808≤a-b
 ·rw[wrap64 ⟨h,by omega⟩]
 ·have e:IntKind.i64.wrap (a-b)=a-b+18446744073709551616:=by
   have e:(a-b) % 2 ^ 64=a-b+18446744073709551616:=by omega
   simp only[IntKind.wrap,IntKind.bits,IntKind.signed,Bool.true_and,decide_eq_true_eq,e]
   rw[if_neg (by omega)]
  rw[e,inR_n (by omega),inR_n (by omega)]


theorem c18 (hp:p.Ok):FSpecR Tryz.prog 18 (.st bs) [p.d] (I (if p.ok=true then 0 else 2)):=by
 have hL:=hp.itemsL
 have h47a:FSpecR Tryz.prog 47 (.st bs) [.lst [I p.late,I p.early,I p.missed],I 3,I 3,I 36000000] (B (inR p.late 0 36000000&&(inR p.early 0 36000000&&inR p.missed 0 36000000))):=by
  rw[←allR3]
  exact c47 (l:=[_,_,_]) (show 3≤maxLen by decide)
 have h47b:FSpecR Tryz.prog 47 (.st bs) [.lst [I p.maxLate,I p.legLate],I 2,I 2,I 1440] (B (inR p.maxLate 0 1440&&inR p.legLate 0 1440)):=by
  rw[←allR2]
  exact c47 (l:=[_,_]) (show 2≤maxLen by decide)
 have hmi:p.items.length=p.n:=rfl
 refine ku18.R rfl rfl ?_
 unfold u18
 simp only[ups_cons,ups_nil,List.cons_append,List.nil_append]
 cases hn:inR p.n 1 100
 ·have hc:=c46 (bs:=bs) p.n 1 100
  rw[hn] at hc
  repeat' (first|(apply nrm;simp only[sbe];rfl)|(apply u_orT;rfl;exact rfl)|(apply u_iteT;rfl;exact rfl)|(apply u_chk;rfl)|(apply u_lenL;rfl;exact ln_it;simp only[sbe];rfl)|(apply u_ev;rfl;simp only[sbe];rfl)|(apply u_call;rfl;rfl;exact hc;rfl;simp only[sbe];rfl)|(apply u_ret;rfl;first|exact rfl|(refine retB ?_)|(refine retI ?_)|(refine retD ?_)))
  rw[if_neg (by simp[Plan.ok,Plan.headOk,hn])]
 have hn2:=inR_t hn
 have hc:=c46 (bs:=bs) p.n 1 100
 rw[hn] at hc
 have hea0:D.eaddr 4 (.lst (p.items.map Item.d)) (I 0)=some (.ptr (p.it 0).d.cells):=ea_it (i:=0) (by omega)
 repeat' (first|(apply nrm;simp only[sbe];rfl)|(apply u_chk;rfl)|(apply u_eaddr;rfl;rfl;exact hea0;simp only[sbe];rfl)|(apply u_lenL;rfl;exact ln_it;simp only[sbe];rfl)|(apply u_ev;rfl;simp only[sbe];rfl)|(apply u_call;rfl;rfl;(·first|exact hc|exact c46 _ _ _);rfl;simp only[sbe];rfl)|(apply u_or;rfl)|refine u_join ?_|(apply u_ite;rfl;all_goals (intro hz;(try simp only[sbs] at hz);first|(exact absurd hz (by decide))|(exfalso;omega)|skip))|exact u_ret rfl rfl|(apply u_ret;rfl;first|exact rfl|(refine retB ?_)|(refine retI ?_)|(refine retD ?_))|(intro hz;(try simp only[sbs] at hz)))
 ·rw[if_neg]
  rcases hz with hz | hz <;> simp[Plan.ok,Plan.headOk,hz]
 have hJ0:(p.it 0).leg=0:=by simp_all
 have hcl:inR p.classes 1 20=true:=by simp_all
 have hhead:p.headOk=true:=by simp[Plan.headOk,hn,hcl,hJ0]
 refine u_range (fun i=>[In i]) (fun i=>∀k,k<i→p.itOk k=true) p.n rfl (fun _=>rfl) (fun k h=>absurd h (Nat.not_lt_zero _)) (fun i hi hJ R hR=>?_) (fun hJ R=>?_)
 ·have hli:decide ((i:Int)<(p.n:Int))=true:=by simp;omega
  have hi64:(p.it i).Ok:=hp.items _ (List.mem_of_getElem? (Plan.it_getElem hi))
  by_cases h0:i=0
  ·have hz0:decide ((i:Int) > 0)=false:=by simp[h0]
   repeat' (first|(apply nrm;simp only[sbe];rfl)|(apply u_andF;rfl;exact hz0)|(apply u_iteT;rfl;exact hli)|(apply u_chk;rfl)|(apply u_eaddr;rfl;rfl;exact ea_it hi;simp only[sbe];rfl)|(apply u_inc;rfl;omega;simp only[sbe];rfl)|(apply u_ev;rfl;simp only[sbe];rfl)|(apply u_call;rfl;rfl;exact c46 _ _ _;rfl;simp only[sbe];rfl)|(apply u_or;rfl)|refine u_join ?_|(apply u_jump;rfl;rfl)|refine at_jump ?_|refine kj rfl ?_|(apply u_ite;rfl;all_goals (intro hz;(try simp only[sbs] at hz);first|(exact absurd hz (by decide))|(exfalso;omega)|skip))|exact u_ret rfl rfl|(apply u_ret;rfl;first|exact rfl|(refine retB ?_)|(refine retI ?_)|(refine retD ?_))|(intro hz;(try simp only[sbs] at hz)))
   all_goals first | (refine hR fun k hk=>?_;rcases Nat.lt_or_ge k i with h3 | h3;exact hJ k h3;rw[show k=i by omega]) | (rw[if_neg];rw[Bool.not_eq_true];apply Plan.ok_f2;refine Plan.not_items hi ?_)
   all_goals (cases h2:inR (p.it i).target 0 1440 <;> cases h3:(p.it i).free <;> simp_all [Plan.itOk] <;> omega)
  ·have hz0:1≤i:=by omega
   have hlg:=Plan.leg_of hJ0 (i:=i-1) fun k hk=>hJ k (by omega)
   obtain⟨w,hw,he⟩:=sub_leg hi64.leg hlg
   have hcw:=c46 (bs:=bs) w 0 1
   rw[he] at hcw
   repeat' (first|(apply nrm;simp only[sbe];rfl)|(apply u_iteT;rfl;exact hli)|(apply u_chk;rfl)|(apply u_eaddr;rfl;rfl;(·first|exact ea_it hi|exact ea_it (by omega));simp only[sbe];rfl)|(apply u_bin;rfl;rfl;exact hw;simp only[sbe];rfl)|(apply u_inc;rfl;omega;simp only[sbe];rfl)|(apply u_pred;rfl;omega;simp only[sbe];rfl)|(apply u_ev;rfl;simp only[sbe];rfl)|(apply u_call;rfl;rfl;(·first|exact hcw|exact c46 _ _ _);rfl;simp only[sbe];rfl)|(apply u_or;rfl)|(apply u_and;rfl)|refine u_join ?_|(apply u_jump;rfl;rfl)|refine at_jump ?_|refine kj rfl ?_|(apply u_ite;rfl;all_goals (intro hz;(try simp only[sbs] at hz);first|(exact absurd hz (by decide))|(exfalso;omega)|skip))|exact u_ret rfl rfl|(apply u_ret;rfl;first|exact rfl|(refine retB ?_)|(refine retI ?_)|(refine retD ?_))|(intro hz;(try simp only[sbs] at hz)))
   all_goals first | (refine hR fun k hk=>?_;rcases Nat.lt_or_ge k i with h3 | h3;exact hJ k h3;rw[show k=i by omega]) | (rw[if_neg];rw[Bool.not_eq_true];apply Plan.ok_f2;refine Plan.not_items hi ?_)
   all_goals (cases h1:inR ((p.it i).leg-(p.it (i-1)).leg) 0 1 <;> cases h2:inR (p.it i).target 0 1440 <;> cases h3:(p.it i).free <;> simp_all [Plan.itOk] <;> omega)
 ·have hI:p.itemsOk=true:=Plan.items_of fun i hi=>hJ i hi
  have hlf:decide ((p.n:Int)<(p.n:Int))=false:=by simp
  have hj:=c47 (bs:=bs) (l:=p.jumps) (least:=1) (many:=10) (most:=36000000) hp.jumps.2
  have hpt:=c47 (bs:=bs) (l:=p.points) (least:=0) (many:=60) (most:=1000) hp.points.2
  have hex:=c47 (bs:=bs) (l:=p.extra) (least:=0) (many:=60) (most:=1000) hp.extra.2
  cases hpw:inR p.power (-1) (p.n-1)
  ·have hcp:=c46 (bs:=bs) p.power (-1) (p.n-1)
   rw[hpw] at hcp
   repeat' (first|(apply nrm;simp only[sbe];rfl)|(apply u_orT;rfl;exact rfl)|(apply u_iteT;rfl;exact rfl)|(apply u_iteF;rfl;exact hlf)|(apply u_chk;rfl)|(apply u_lenL;rfl;exact ln_it;simp only[sbe];rfl)|(apply u_sub;rfl;rfl;omega;simp only[sbe];rfl)|(apply u_ev;rfl;simp only[sbe];rfl)|(apply u_call;rfl;rfl;(·first|exact hcp|exact c46 _ _ _|exact h47a|exact h47b|exact hj|exact hpt|exact hex);rfl;simp only[sbe];rfl)|(apply u_or;rfl)|(apply u_jump;rfl;rfl)|refine at_jump ?_|(refine over_jump (by decide) ?_)|refine kj rfl ?_|(apply u_ite;rfl;all_goals (intro hz;(try simp only[sbs] at hz);first|(exact absurd hz (by decide))|(exfalso;omega)|skip))|exact u_ret rfl rfl|(apply u_ret;rfl;first|exact rfl|(refine retB ?_)|(refine retI ?_)|(refine retD ?_))|(intro hz;(try simp only[sbs] at hz)))
   all_goals simp[Plan.ok,Plan.moreOk,hpw]
  have hpw2:=inR_t hpw
  have hcp:=c46 (bs:=bs) p.power (-1) (p.n-1)
  rw[hpw] at hcp
  by_cases hneg:p.power<0
  ·have hpf:decide (p.power≥0)=false:=by simp;omega
   repeat' (first|(apply nrm;simp only[sbe];rfl)|(apply u_andF;rfl;exact hpf)|(apply u_iteF;rfl;exact hlf)|(apply u_chk;rfl)|(apply u_lenL;rfl;exact ln_it;simp only[sbe];rfl)|(apply u_sub;rfl;rfl;omega;simp only[sbe];rfl)|(apply u_ev;rfl;simp only[sbe];rfl)|(apply u_call;rfl;rfl;(·first|exact hcp|exact c46 _ _ _|exact h47a|exact h47b|exact hj|exact hpt|exact hex);rfl;simp only[sbe];rfl)|(apply u_or;rfl)|(apply u_jump;rfl;rfl)|refine at_jump ?_|(refine over_jump (by decide) ?_)|refine kj rfl ?_|(apply u_ite;rfl;all_goals (intro hz;(try simp only[sbs] at hz);first|(exact absurd hz (by decide))|(exfalso;omega)|skip))|exact u_ret rfl rfl|(apply u_ret;rfl;first|exact rfl|(refine retB ?_)|(refine retI ?_)|(refine retD ?_))|(intro hz;(try simp only[sbs] at hz)))
   all_goals first
   |(rw[if_neg];intro h;simp only[Plan.ok,Plan.rulesOk,Plan.moreOk,Plan.ptsOk,Bool.and_eq_true,Bool.or_eq_true,decide_eq_true_eq,beq_iff_eq] at h;simp_all <;> omega)
   |(rw[if_pos];simp_all [Plan.ok,Plan.rulesOk,Plan.moreOk,Plan.ptsOk];done)
  ·have hpe:D.eaddr 4 (.lst (p.items.map Item.d)) (I p.power)=some (.ptr (p.it p.power.toNat).d.cells):=by
    have:=ea_it (p:=p) (i:=p.power.toNat) (by omega)
    rwa [In,show(p.power.toNat:Int)=p.power by omega] at this
   repeat' (first|(apply nrm;simp only[sbe];rfl)|(apply u_iteF;rfl;exact hlf)|(apply u_chk;rfl)|(apply u_eaddr;rfl;rfl;exact hpe;simp only[sbe];rfl)|(apply u_lenL;rfl;exact ln_it;simp only[sbe];rfl)|(apply u_sub;rfl;rfl;omega;simp only[sbe];rfl)|(apply u_ev;rfl;simp only[sbe];rfl)|(apply u_call;rfl;rfl;(·first|exact hcp|exact c46 _ _ _|exact h47a|exact h47b|exact hj|exact hpt|exact hex);rfl;simp only[sbe];rfl)|(apply u_or;rfl)|(apply u_and;rfl)|(apply u_jump;rfl;rfl)|refine at_jump ?_|(refine over_jump (by decide) ?_)|refine kj rfl ?_|(apply u_ite;rfl;all_goals (intro hz;(try simp only[sbs] at hz);first|(exact absurd hz (by decide))|(exfalso;omega)|skip))|exact u_ret rfl rfl|(apply u_ret;rfl;first|exact rfl|(refine retB ?_)|(refine retI ?_)|(refine retD ?_))|(intro hz;(try simp only[sbs] at hz)))
   all_goals first
   |(rw[if_neg];intro h;simp only[Plan.ok,Plan.rulesOk,Plan.moreOk,Plan.ptsOk,Bool.and_eq_true,Bool.or_eq_true,decide_eq_true_eq,beq_iff_eq] at h;simp_all <;> omega)
   |(rw[if_pos];simp_all [Plan.ok,Plan.rulesOk,Plan.moreOk,Plan.ptsOk];done)

end Go.Am.Sc

/-
 What the specification says of a plan.
-/
namespace Go.Am.Sc
open Go.Proofs
set_option maxRecDepth 100000
set_option maxHeartbeats 4000000

attribute [local irreducible] inR allR

variable {bs:List D} {p:Plan}



theorem c20 (hp : p.Ok) : FSpecR Tryz.prog 20 (.st bs) [p.d] (B p.ok) := by
  have hL := hp.itemsL
  have hmi : p.items.length = p.n := rfl
  refine ku20.R rfl rfl ?_
  unfold u20
  simp only [ups_cons, ups_nil, List.cons_append, List.nil_append]
  cases hn : inR p.n 1 100
  · have hc := c49 (bs := bs) p.n 1 100
    rw [hn] at hc
    repeat' (first | ((with_reducible apply nrm); (· simp only [sbe]; rfl)) | ((with_reducible apply u_orT); (· rfl); (· exact rfl)) | ((with_reducible apply u_iteT); (· rfl); (· exact rfl)) | ((with_reducible apply u_chk); (· rfl)) | ((with_reducible apply u_lenL); (· rfl); (· exact ln_it); (· simp only [sbe]; rfl)) | ((with_reducible apply u_ev); (· rfl); (· simp only [sbe]; rfl)) | ((with_reducible apply u_call); (· rfl); (· rfl); (· exact hc); (· rfl); (· simp only [sbe]; rfl)) | ((with_reducible apply u_ret); (· rfl); first | exact rfl | (refine retB ?_) | (refine retI ?_) | (refine retD ?_)))
    simp [Plan.ok, Plan.headOk, hn]
  have hn2 := inR_t hn
  have hc := c49 (bs := bs) p.n 1 100
  rw [hn] at hc
  have hea0 : D.eaddr 4 (.lst (p.items.map Item.d)) (I 0) = some (.ptr (p.it 0).d.cells) := ea_it (i := 0) (by omega)
  repeat' (first | ((with_reducible apply nrm); (· simp only [sbe]; rfl)) | ((with_reducible apply u_chk); (· rfl)) | ((with_reducible apply u_eaddr); (· rfl); (· rfl); (· exact hea0); (· simp only [sbe]; rfl)) | ((with_reducible apply u_lenL); (· rfl); (· exact ln_it); (· simp only [sbe]; rfl)) | ((with_reducible apply u_ev); (· rfl); (· simp only [sbe]; rfl)) | ((with_reducible apply u_call); (· rfl); (· rfl); (· first | exact hc | exact c49 _ _ _); (· rfl); (· simp only [sbe]; rfl)) | ((with_reducible apply u_or); (· rfl)) | (with_reducible refine u_join ?_) | ((with_reducible apply u_ite); (· rfl); all_goals (intro hz; (try simp only [sbs] at hz); first | (exact absurd hz (by decide)) | (exfalso; omega) | skip)) | (with_reducible exact u_ret rfl rfl) | ((with_reducible apply u_ret); (· rfl); first | exact rfl | (refine retB ?_) | (refine retI ?_) | (refine retD ?_)) | ((with_reducible intro hz); (try simp only [sbs] at hz)))
  · rcases hz with hz | hz <;> simp [Plan.ok, Plan.headOk, hz]
  have hJ0 : (p.it 0).leg = 0 := by simp_all
  have hcl : inR p.classes 1 20 = true := by simp_all
  have hhead : p.headOk = true := by simp [Plan.headOk, hn, hcl, hJ0]
  refine u_range (fun i => [In i]) (fun i => ∀ k, k < i → p.itOk k = true) p.n rfl (fun _ => rfl) (fun k h => absurd h (Nat.not_lt_zero _)) (fun i hi hJ R hR => ?_) (fun hJ R => ?_)
  · have hli : decide ((i : Int) < (p.n : Int)) = true := by simp; omega
    have hi64 : (p.it i).Ok := hp.items _ (List.mem_of_getElem? (Plan.it_getElem hi))
    by_cases h0 : i = 0
    · have hz0 : decide ((i : Int) > 0) = false := by simp [h0]
      repeat' (first | ((with_reducible apply nrm); (· simp only [sbe]; rfl)) | ((with_reducible apply u_andF); (· rfl); (· exact hz0)) | ((with_reducible apply u_iteT); (· rfl); (· exact hli)) | ((with_reducible apply u_chk); (· rfl)) | ((with_reducible apply u_eaddr); (· rfl); (· rfl); (· exact ea_it hi); (· simp only [sbe]; rfl)) | ((with_reducible apply u_lenL); (· rfl); (· exact ln_it); (· simp only [sbe]; rfl)) | ((with_reducible apply u_inc); (· rfl); (· omega); (· simp only [sbe]; rfl)) | ((with_reducible apply u_ev); (· rfl); (· simp only [sbe]; rfl)) | ((with_reducible apply u_call); (· rfl); (· rfl); (· exact c49 _ _ _); (· rfl); (· simp only [sbe]; rfl)) | ((with_reducible apply u_or); (· rfl)) | ((with_reducible apply u_and); (· rfl)) | (with_reducible refine u_join ?_) | ((with_reducible apply u_jump); (· rfl); (· rfl)) | (with_reducible refine at_jump ?_) | (with_reducible refine kj rfl ?_) | ((with_reducible apply u_ite); (· rfl); all_goals (intro hz; (try simp only [sbs] at hz); first | (exact absurd hz (by decide)) | (exfalso; omega) | skip)) | (with_reducible exact u_ret rfl rfl) | ((with_reducible apply u_ret); (· rfl); first | exact rfl | (refine retB ?_) | (refine retI ?_) | (refine retD ?_)) | ((with_reducible intro hz); (try simp only [sbs] at hz)))
      all_goals first | (refine hR fun k hk => ?_; rcases Nat.lt_or_ge k i with h3 | h3; exact hJ k h3; rw [show k = i by omega]) | (apply Eq.symm; apply Plan.ok_f2; refine Plan.not_items hi ?_)
      all_goals (by_cases k1 : (p.it i).kind = 1 <;> by_cases k2 : (p.it i).kind = 2 <;> by_cases k3 : (p.it i).target = 0 <;> cases h2 : inR (p.it i).target 0 1440 <;> cases h3 : (p.it i).free <;> simp_all [Plan.itOk] <;> omega)
    · have hz0 : 1 ≤ i := by omega
      have hlg := Plan.leg_of hJ0 (i := i - 1) fun k hk => hJ k (by omega)
      obtain ⟨w, hw, he⟩ := sub_leg hi64.leg hlg
      have hcw := c49 (bs := bs) w 0 1
      rw [he] at hcw
      repeat' (first | ((with_reducible apply nrm); (· simp only [sbe]; rfl)) | ((with_reducible apply u_iteT); (· rfl); (· exact hli)) | ((with_reducible apply u_chk); (· rfl)) | ((with_reducible apply u_eaddr); (· rfl); (· rfl); (· first | exact ea_it hi | exact ea_it (by omega)); (· simp only [sbe]; rfl)) | ((with_reducible apply u_lenL); (· rfl); (· exact ln_it); (· simp only [sbe]; rfl)) | ((with_reducible apply u_bin); (· rfl); (· rfl); (· exact hw); (· simp only [sbe]; rfl)) | ((with_reducible apply u_inc); (· rfl); (· omega); (· simp only [sbe]; rfl)) | ((with_reducible apply u_pred); (· rfl); (· omega); (· simp only [sbe]; rfl)) | ((with_reducible apply u_ev); (· rfl); (· simp only [sbe]; rfl)) | ((with_reducible apply u_call); (· rfl); (· rfl); (· first | exact hcw | exact c49 _ _ _); (· rfl); (· simp only [sbe]; rfl)) | ((with_reducible apply u_or); (· rfl)) | ((with_reducible apply u_and); (· rfl)) | (with_reducible refine u_join ?_) | ((with_reducible apply u_jump); (· rfl); (· rfl)) | (with_reducible refine at_jump ?_) | (with_reducible refine kj rfl ?_) | ((with_reducible apply u_ite); (· rfl); all_goals (intro hz; (try simp only [sbs] at hz); first | (exact absurd hz (by decide)) | (exfalso; omega) | skip)) | (with_reducible exact u_ret rfl rfl) | ((with_reducible apply u_ret); (· rfl); first | exact rfl | (refine retB ?_) | (refine retI ?_) | (refine retD ?_)) | ((with_reducible intro hz); (try simp only [sbs] at hz)))
      all_goals first | (refine hR fun k hk => ?_; rcases Nat.lt_or_ge k i with h3 | h3; exact hJ k h3; rw [show k = i by omega]) | (apply Eq.symm; apply Plan.ok_f2; refine Plan.not_items hi ?_)
      all_goals (by_cases k1 : (p.it i).kind = 1 <;> by_cases k2 : (p.it i).kind = 2 <;> by_cases k3 : (p.it i).target = 0 <;> cases h1 : inR ((p.it i).leg - (p.it (i - 1)).leg) 0 1 <;> cases h2 : inR (p.it i).target 0 1440 <;> cases h3 : (p.it i).free <;> simp_all [Plan.itOk] <;> omega)
  · have hI : p.itemsOk = true := Plan.items_of fun i hi => hJ i hi
    have hlf : decide ((p.n : Int) < (p.n : Int)) = false := by simp
    have hj := c50 (bs := bs) (l := p.jumps) (least := 1) (most := 10) (lo := 0) (hi := 36000000) hp.jumps.2
    have hpt := c50 (bs := bs) (l := p.points) (least := 0) (most := 60) (lo := 0) (hi := 1000) hp.points.2
    have hex := c50 (bs := bs) (l := p.extra) (least := 0) (most := 60) (lo := 0) (hi := 1000) hp.extra.2
    cases hpw : inR p.power (-1) (p.n - 1)
    · have hcp := c49 (bs := bs) p.power (-1) (p.n - 1)
      rw [hpw] at hcp
      repeat' (first | ((with_reducible apply nrm); (· simp only [sbe]; rfl)) | ((with_reducible apply u_orT); (· rfl); (· exact Bool.or_true _)) | ((with_reducible apply u_iteT); (· rfl); (· exact rfl)) | ((with_reducible apply u_iteF); (· rfl); (· exact hlf)) | ((with_reducible apply u_chk); (· rfl)) | ((with_reducible apply u_lenL); (· rfl); (· exact ln_it); (· simp only [sbe]; rfl)) | ((with_reducible apply u_sub); (· rfl); (· rfl); (· omega); (· simp only [sbe]; rfl)) | ((with_reducible apply u_ev); (· rfl); (· simp only [sbe]; rfl)) | ((with_reducible apply u_call); (· rfl); (· rfl); (· first | exact hcp | exact c49 _ _ _ | exact hj); (· rfl); (· simp only [sbe]; rfl)) | ((with_reducible apply u_or); (· rfl)) | ((with_reducible apply u_jump); (· rfl); (· rfl)) | (with_reducible refine at_jump ?_) | (with_reducible refine over_jump (by decide) ?_) | (with_reducible refine kj rfl ?_) | ((with_reducible apply u_ite); (· rfl); all_goals (intro hz; (try simp only [sbs] at hz); first | (exact absurd hz (by decide)) | (exfalso; omega) | skip)) | (with_reducible exact u_ret rfl rfl) | ((with_reducible apply u_ret); (· rfl); first | exact rfl | (refine retB ?_) | (refine retI ?_) | (refine retD ?_)) | ((with_reducible intro hz); (try simp only [sbs] at hz)))
      all_goals simp [Plan.ok, Plan.moreOk, hpw]
    have hpw2 := inR_t hpw
    have hcp := c49 (bs := bs) p.power (-1) (p.n - 1)
    rw [hpw] at hcp
    by_cases hneg : p.power < 0
    · have hpf : decide (p.power ≥ 0) = false := by simp; omega
      repeat' (first | ((with_reducible apply nrm); (· simp only [sbe]; rfl)) | ((with_reducible apply u_andF); (· rfl); (· exact hpf)) | ((with_reducible apply u_iteF); (· rfl); (· exact hlf)) | ((with_reducible apply u_chk); (· rfl)) | ((with_reducible apply u_lenL); (· rfl); (· exact ln_it); (· simp only [sbe]; rfl)) | ((with_reducible apply u_sub); (· rfl); (· rfl); (· omega); (· simp only [sbe]; rfl)) | ((with_reducible apply u_ev); (· rfl); (· simp only [sbe]; rfl)) | ((with_reducible apply u_call); (· rfl); (· rfl); (· first | exact hcp | exact c49 _ _ _ | exact hj | exact hpt | exact hex); (· rfl); (· simp only [sbe]; rfl)) | ((with_reducible apply u_or); (· rfl)) | ((with_reducible apply u_and); (· rfl)) | ((with_reducible apply u_jump); (· rfl); (· rfl)) | (with_reducible refine at_jump ?_) | (with_reducible refine over_jump (by decide) ?_) | (with_reducible refine kj rfl ?_) | ((with_reducible apply u_ite); (· rfl); all_goals (intro hz; (try simp only [sbs] at hz); first | (exact absurd hz (by decide)) | (exfalso; omega) | skip)) | (with_reducible exact u_ret rfl rfl) | ((with_reducible apply u_ret); (· rfl); first | exact rfl | (refine retB ?_) | (refine retI ?_) | (refine retD ?_)) | ((with_reducible intro hz); (try simp only [sbs] at hz)))
      all_goals rw [show p.ok = (p.rulesOk && (p.moreOk && p.ptsOk)) by simp [Plan.ok, hhead, hI]]
      all_goals first
        | (symm; rw [Bool.eq_false_iff]; intro h; simp only [Plan.rulesOk, Plan.moreOk, Plan.ptsOk, Bool.and_eq_true, Bool.or_eq_true, decide_eq_true_eq, beq_iff_eq] at h; simp_all <;> omega)
        | (have hr : p.rulesOk = true := by simp_all [Plan.rulesOk]
           have hm : p.moreOk = true := by simp_all [Plan.moreOk]
           rw [hr, hm]; rfl)
    · have hpe : D.eaddr 4 (.lst (p.items.map Item.d)) (I p.power) = some (.ptr (p.it p.power.toNat).d.cells) := by
        have := ea_it (p := p) (i := p.power.toNat) (by omega)
        rwa [In, show (p.power.toNat : Int) = p.power by omega] at this
      repeat' (first | ((with_reducible apply nrm); (· simp only [sbe]; rfl)) | ((with_reducible apply u_iteF); (· rfl); (· exact hlf)) | ((with_reducible apply u_chk); (· rfl)) | ((with_reducible apply u_eaddr); (· rfl); (· rfl); (· exact hpe); (· simp only [sbe]; rfl)) | ((with_reducible apply u_lenL); (· rfl); (· exact ln_it); (· simp only [sbe]; rfl)) | ((with_reducible apply u_sub); (· rfl); (· rfl); (· omega); (· simp only [sbe]; rfl)) | ((with_reducible apply u_ev); (· rfl); (· simp only [sbe]; rfl)) | ((with_reducible apply u_call); (· rfl); (· rfl); (· first | exact hcp | exact c49 _ _ _ | exact hj | exact hpt | exact hex); (· rfl); (· simp only [sbe]; rfl)) | ((with_reducible apply u_or); (· rfl)) | ((with_reducible apply u_and); (· rfl)) | ((with_reducible apply u_jump); (· rfl); (· rfl)) | (with_reducible refine at_jump ?_) | (with_reducible refine over_jump (by decide) ?_) | (with_reducible refine kj rfl ?_) | ((with_reducible apply u_ite); (· rfl); all_goals (intro hz; (try simp only [sbs] at hz); first | (exact absurd hz (by decide)) | (exfalso; omega) | skip)) | (with_reducible exact u_ret rfl rfl) | ((with_reducible apply u_ret); (· rfl); first | exact rfl | (refine retB ?_) | (refine retI ?_) | (refine retD ?_)) | ((with_reducible intro hz); (try simp only [sbs] at hz)))
      all_goals rw [show p.ok = (p.rulesOk && (p.moreOk && p.ptsOk)) by simp [Plan.ok, hhead, hI]]
      all_goals first
        | (symm; rw [Bool.eq_false_iff]; intro h; simp only [Plan.rulesOk, Plan.moreOk, Plan.ptsOk, Bool.and_eq_true, Bool.or_eq_true, decide_eq_true_eq, beq_iff_eq] at h; simp_all <;> omega)
        | (have hr : p.rulesOk = true := by simp_all [Plan.rulesOk]
           have hm : p.moreOk = true := by simp_all [Plan.moreOk]
           rw [hr, hm]; rfl)

end Go.Am.Sc

/-
 What CheckCard answers,and what the specification says of a card.
-/
namespace Go.Am.Sc
open Go.Proofs
set_option maxRecDepth 100000
set_option maxHeartbeats 4000000

attribute [local irreducible] inR allR lineOk

variable {bs:List D} {p:Plan} {c:Card}

theorem ea_ln {i:Nat}(h:i<c.lines.length):D.eaddr 4 (.lst (c.lines.map Line.d)) (In i)=some (.ptr (c.ln i).d.cells):=eaddr_lst (Card.ln_getElem h) rfl
theorem ea_last (h:1≤p.n):D.eaddr 4 (.lst (p.items.map Item.d)) (I ((p.n:Int)-1))=some (.ptr (p.it (p.n-1)).d.cells):=by
 rw[show(p.n:Int)-1=((p.n-1:Nat):Int) by omega]
 exact ea_it (by omega)


theorem c19 (hp:p.Ok)(hc:c.Ok):FSpecR Tryz.prog 19 (.st bs) [p.d,c.d] (I (if(p.ok&&cardOk p c)=true then 0 else 2)):=by
 have hmi:p.items.length=p.n:=rfl
 have h18:=c18 (bs:=bs) hp
 refine ku19.R rfl rfl ?_
 unfold u19
 simp only[ups_cons,ups_nil,List.cons_append,List.nil_append]
 cases hok:p.ok
 ·rw[hok] at h18
  replace h18:FSpecR Tryz.prog 18 (.st bs) [p.d] (I 2):=h18
  repeat' (first|(apply nrm;simp only[sbe];rfl)|(apply u_orT;rfl;exact rfl)|(apply u_iteT;rfl;exact rfl)|(apply u_chk;rfl)|(apply u_ev;rfl;simp only[sbe];rfl)|(apply u_call;rfl;rfl;exact h18;rfl;simp only[sbe];rfl)|exact u_ret rfl rfl)
  all_goals (try exact rfl)
 rw[hok] at h18
 replace h18:FSpecR Tryz.prog 18 (.st bs) [p.d] (I 0):=h18
 have hh:=Plan.ok_head hok
 have hl:=Plan.ok_leg hok (i:=p.n-1) (by omega)
 have hst:=c47 (bs:=bs) (l:=c.starts) (least:=1) (many:=6) (most:=100000) hc.starts.2
 repeat' (first|(apply nrm;simp only[sbe];rfl)|(apply u_chk;rfl)|(apply u_eaddr;rfl;rfl;exact ea_last hh.1.1;simp only[sbe];rfl)|(apply u_lenL;rfl;exact ln_it;simp only[sbe];rfl)|(apply u_lenL;rfl;exact lenL_map;simp only[sbe];rfl)|(apply u_add;rfl;rfl;omega;simp only[sbe];rfl)|(apply u_sub;rfl;rfl;omega;simp only[sbe];rfl)|(apply u_ev;rfl;simp only[sbe];rfl)|(apply u_call;rfl;rfl;(·first|exact h18|exact c46 _ _ _|exact hst);rfl;simp only[sbe];rfl)|(apply u_or;rfl)|refine u_join ?_|(apply u_ite;rfl;all_goals (intro hz;(try simp only[sbs] at hz);first|(exact absurd hz (by decide))|(exfalso;omega)|skip))|exact u_ret rfl rfl|(apply u_ret;rfl;first|exact rfl|(refine retB ?_)|(refine retI ?_)|(refine retD ?_))|(intro hz;(try simp only[sbs] at hz)))
 ·rw[if_neg]
  intro h
  simp only[Bool.true_and,cardOk,Bool.and_eq_true,beq_iff_eq] at h
  obtain⟨h1,h2,h3,h4⟩:=h
  by_cases hs:(c.starts.length:Int)=p.legs
  ·rw[allR_eq hs (Plan.ok_legs hok)] at h2
   unfold Plan.legs at hs
   simp_all
  ·rw[allR_ne hs] at h2
   cases h2
 ·have hlen:c.lines.length=p.n:=by
   have:(c.lines.length:Int)=p.n:=by simp_all
   omega
  have hcls:inR c.cls 0 (p.classes-1)=true:=by simp_all
  have hsl:(c.starts.length:Int)=p.legs:=by unfold Plan.legs;simp_all
  have hst2:allR c.starts p.legs p.legs 0 100000=true:=by
   rw[allR_eq hsl (Plan.ok_legs hok)]
   simp_all
  clear hz
  refine u_range (fun i=>[In i]) (fun i=>∀k,k<i→lnOk p c k=true) c.lines.length rfl (fun _=>rfl) (fun k h=>absurd h (Nat.not_lt_zero _)) (fun i hi hJ R hR=>?_) (fun hJ R=>?_)
  ·have hli:decide ((i:Int)<(c.lines.length:Int))=true:=by simp;omega
   have hip:i<p.n:=by omega
   have hic:i<c.lines.length:=by omega
   by_cases h0:i=0
   ·have hz0:decide ((i:Int) > 0)=false:=by simp[h0]
    repeat' (first|(apply nrm;simp only[sbe];rfl)|(apply u_andF;rfl;exact hz0)|(apply u_iteT;rfl;exact hli)|(apply u_chk;rfl)|(apply u_eaddr;rfl;rfl;(·first|exact ea_it hip|exact ea_ln hic);simp only[sbe];rfl)|(apply u_inc;rfl;omega;simp only[sbe];rfl)|(apply u_ev;rfl;simp only[sbe];rfl)|(apply u_call;rfl;rfl;exact c48 _ _;rfl;simp only[sbe];rfl)|(apply u_or;rfl)|(apply u_and;rfl)|refine u_join ?_|(apply u_jump;rfl;rfl)|refine at_jump ?_|refine kj rfl ?_|(apply u_ite;rfl;all_goals (intro hz;(try simp only[sbs] at hz);first|(exact absurd hz (by decide))|(exfalso;omega)|skip))|exact u_ret rfl rfl|(apply u_ret;rfl;first|exact rfl|(refine retB ?_)|(refine retI ?_)|(refine retD ?_))|(intro hz;(try simp only[sbs] at hz)))
    all_goals (try exact(false:Bool))
    all_goals first | (refine hR fun k hk=>?_;rcases Nat.lt_or_ge k i with h3 | h3;exact hJ k h3;rw[show k=i by omega]) | (rw[if_neg];rw[Bool.true_and,Bool.not_eq_true];refine not_lines hip ?_)
    all_goals (cases h1:lineOk (p.it i) (c.ln i) <;> simp_all [lnOk] <;> omega)
   ·have hz0:1≤i:=by omega
    have hzt:decide ((i:Int) > 0)=true:=by simp;omega
    repeat' (first|(apply nrm;simp only[sbe];rfl)|(apply u_iteT;rfl;exact hli)|(apply u_chk;rfl)|(apply u_eaddr;rfl;rfl;(·first|exact ea_it hip|exact ea_ln hic|exact ea_it (Nat.lt_of_le_of_lt (Nat.sub_le i 1) hip)|exact ea_ln (Nat.lt_of_le_of_lt (Nat.sub_le i 1) hic));simp only[sbe];rfl)|(apply u_inc;rfl;omega;simp only[sbe];rfl)|(apply u_pred;rfl;omega;simp only[sbe];rfl)|(apply u_ev;rfl;simp only[sbe];rfl)|(apply u_call;rfl;rfl;exact c48 _ _;rfl;simp only[sbe];rfl)|(apply u_or;rfl)|(apply u_and;rfl)|refine u_join ?_|(apply u_jump;rfl;rfl)|refine at_jump ?_|refine kj rfl ?_|(apply u_ite;rfl;all_goals (intro hz;(try simp only[sbs] at hz);first|(exact absurd hz (by decide))|(exfalso;omega)|skip))|exact u_ret rfl rfl|(apply u_ret;rfl;first|exact rfl|(refine retB ?_)|(refine retI ?_)|(refine retD ?_))|(intro hz;(try simp only[sbs] at hz)))
    all_goals (try exact(false:Bool))
    all_goals first | (refine hR fun k hk=>?_;rcases Nat.lt_or_ge k i with h3 | h3;exact hJ k h3;rw[show k=i by omega]) | (rw[if_neg];rw[Bool.true_and,Bool.not_eq_true];refine not_lines hip ?_)
    all_goals (by_cases k1:(c.ln (i-1)).mark=2 <;> by_cases k2:(p.it (i-1)).leg=(p.it i).leg <;> by_cases k3:(c.ln i).mark=2 <;> cases h1:lineOk (p.it i) (c.ln i) <;> simp_all [lnOk] <;> omega)
  ·have hlf:decide ((c.lines.length:Int)<(c.lines.length:Int))=false:=by simp
   repeat' (first|(apply nrm;simp only[sbe];rfl)|(apply u_iteF;rfl;exact hlf)|(apply u_ev;rfl;simp only[sbe];rfl)|(apply u_jump;rfl;rfl)|refine at_jump ?_|(refine over_jump (by decide) ?_)|refine kj rfl ?_|(apply u_ret;rfl;first|exact rfl|(refine retB ?_)|(refine retI ?_)|(refine retD ?_)))
   rw[if_pos]
   simp[cardOk,hcls,hst2,hlen,lines_of fun i hi=>hJ i (by omega)]

theorem c21 (hp:p.Ok)(hc:c.Ok)(hok:p.ok=true):FSpecR Tryz.prog 21 (.st bs) [p.d,c.d] (B (cardOk p c)):=by
 have hmi:p.items.length=p.n:=rfl
 have hh:=Plan.ok_head hok
 have hl:=Plan.ok_leg hok (i:=p.n-1) (by omega)
 have hst:=c50 (bs:=bs) (l:=c.starts) (least:=p.legs) (most:=p.legs) (lo:=0) (hi:=100000) hc.starts.2
 have h51:=c51 (bs:=bs) (p:=p) (by omega) (by omega) (by omega)
 refine ku21.R rfl rfl ?_
 unfold u21
 simp only[ups_cons,ups_nil,List.cons_append,List.nil_append]
 repeat' (first|(apply nrm;simp only[sbe];rfl)|(apply u_chk;rfl)|(apply u_lenL;rfl;exact ln_it;simp only[sbe];rfl)|(apply u_lenL;rfl;exact lenL_map;simp only[sbe];rfl)|(apply u_sub;rfl;rfl;omega;simp only[sbe];rfl)|(apply u_ev;rfl;simp only[sbe];rfl)|(apply u_call;rfl;rfl;(·first|exact c49 _ _ _|exact hst|exact h51);rfl;simp only[sbe];rfl)|(apply u_or;rfl)|refine u_join ?_|(apply u_ite;rfl;all_goals (intro hz;(try simp only[sbs] at hz);first|(exact absurd hz (by decide))|(exfalso;omega)|skip))|exact u_ret rfl rfl|(apply u_ret;rfl;first|exact rfl|(refine retB ?_)|(refine retI ?_)|(refine retD ?_))|(intro hz;(try simp only[sbs] at hz)))
 ·symm
  rw[Bool.eq_false_iff]
  intro h
  simp only[cardOk,Bool.and_eq_true,beq_iff_eq] at h
  simp_all
 ·have hlen:c.lines.length=p.n:=by
   have:(c.lines.length:Int)=p.n:=by simp_all
   omega
  have hcls:inR c.cls 0 (p.classes-1)=true:=by simp_all
  have hst2:allR c.starts p.legs p.legs 0 100000=true:=by simp_all
  clear hz
  refine u_range (fun i=>[In i]) (fun i=>∀k,k<i→lnOk p c k=true) p.n rfl (fun _=>rfl) (fun k h=>absurd h (Nat.not_lt_zero _)) (fun i hi hJ R hR=>?_) (fun hJ R=>?_)
  ·have hli:decide ((i:Int)<(p.n:Int))=true:=by simp;omega
   have hip:i<p.n:=by omega
   have hic:i<c.lines.length:=by omega
   by_cases h0:i=0
   ·have hz0:decide ((i:Int) > 0)=false:=by simp[h0]
    repeat' (first|(apply nrm;simp only[sbe];rfl)|(apply u_andF;rfl;exact hz0)|(apply u_iteT;rfl;exact hli)|(apply u_chk;rfl)|(apply u_eaddr;rfl;rfl;(·first|exact ea_it hip|exact ea_ln hic);simp only[sbe];rfl)|(apply u_lenL;rfl;exact ln_it;simp only[sbe];rfl)|(apply u_inc;rfl;omega;simp only[sbe];rfl)|(apply u_ev;rfl;simp only[sbe];rfl)|(apply u_call;rfl;rfl;exact c52 _ _;rfl;simp only[sbe];rfl)|(apply u_and;rfl)|refine u_join ?_|(apply u_jump;rfl;rfl)|refine at_jump ?_|refine kj rfl ?_|(apply u_ite;rfl;all_goals (intro hz;(try simp only[sbs] at hz);first|(exact absurd hz (by decide))|(exfalso;omega)|skip))|exact u_ret rfl rfl|(apply u_ret;rfl;first|exact rfl|(refine retB ?_)|(refine retI ?_)|(refine retD ?_))|(intro hz;(try simp only[sbs] at hz)))
    all_goals (try exact(false:Bool))
    all_goals first | (refine hR fun k hk=>?_;rcases Nat.lt_or_ge k i with h3 | h3;exact hJ k h3;rw[show k=i by omega]) | (symm;refine not_lines hip ?_)
    all_goals (cases h1:lineOk (p.it i) (c.ln i) <;> simp_all [lnOk] <;> omega)
   ·have hz0:1≤i:=by omega
    have hzt:decide ((i:Int) > 0)=true:=by simp;omega
    repeat' (first|(apply nrm;simp only[sbe];rfl)|(apply u_iteT;rfl;exact hli)|(apply u_chk;rfl)|(apply u_eaddr;rfl;rfl;(·first|exact ea_it hip|exact ea_ln hic|exact ea_it (Nat.lt_of_le_of_lt (Nat.sub_le i 1) hip)|exact ea_ln (Nat.lt_of_le_of_lt (Nat.sub_le i 1) hic));simp only[sbe];rfl)|(apply u_lenL;rfl;exact ln_it;simp only[sbe];rfl)|(apply u_inc;rfl;omega;simp only[sbe];rfl)|(apply u_pred;rfl;omega;simp only[sbe];rfl)|(apply u_ev;rfl;simp only[sbe];rfl)|(apply u_call;rfl;rfl;exact c52 _ _;rfl;simp only[sbe];rfl)|(apply u_and;rfl)|refine u_join ?_|(apply u_jump;rfl;rfl)|refine at_jump ?_|refine kj rfl ?_|(apply u_ite;rfl;all_goals (intro hz;(try simp only[sbs] at hz);first|(exact absurd hz (by decide))|(exfalso;omega)|skip))|exact u_ret rfl rfl|(apply u_ret;rfl;first|exact rfl|(refine retB ?_)|(refine retI ?_)|(refine retD ?_))|(intro hz;(try simp only[sbs] at hz)))
    all_goals (try exact(false:Bool))
    all_goals first | (refine hR fun k hk=>?_;rcases Nat.lt_or_ge k i with h3 | h3;exact hJ k h3;rw[show k=i by omega]) | (symm;refine not_lines hip ?_)
    all_goals (by_cases k1:(c.ln (i-1)).mark=2 <;> by_cases k2:(p.it (i-1)).leg=(p.it i).leg <;> by_cases k3:(c.ln i).mark=2 <;> cases h1:lineOk (p.it i) (c.ln i) <;> simp_all [lnOk] <;> omega)
  ·have hlf:decide ((p.n:Int)<(p.n:Int))=false:=by simp
   repeat' (first|(apply nrm;simp only[sbe];rfl)|(apply u_iteF;rfl;exact hlf)|(apply u_lenL;rfl;exact ln_it;simp only[sbe];rfl)|(apply u_ev;rfl;simp only[sbe];rfl)|(apply u_jump;rfl;rfl)|refine at_jump ?_|(refine over_jump (by decide) ?_)|refine kj rfl ?_|(apply u_ret;rfl;first|exact rfl|(refine retB ?_)|(refine retI ?_)|(refine retD ?_)))
   symm
   simp[cardOk,hcls,hst2,hlen,lines_of fun i hi=>hJ i (by omega)]

end Go.Am.Sc

/-
  The law of checks, as a text.
-/
namespace Go.Am.Sc
open Go.Proofs

noncomputable def u3 : U := (ups [.chk (.aggN 14 y0),
  .chk (.aggN 3 y1),
  .call 15 y2 [(agc 14 y0)] [true],
  .ev (.un .not y3),
  .chain false y4 (ups [.chk (.cell 0 y0),
  .ev (.lenL (.cell 0 y0)),
  .ev (.bin .leq .int y5 (ki 100))]
  (.ret y6)),
  .chain true y5 (ups [.chk (.cell 0 y0),
  .ev (.lenL (.cell 0 y0)),
  .ev (.bin .gtr .int y6 (ki 300))]
  (.ret y7)),
  .chain true y6 (ups [.chk (.cell 6 y0),
  .ev (.lenL (.cell 6 y0)),
  .chk (.cell 12 y0),
  .ev (.lenL (.cell 12 y0)),
  .ev (.bin .add .int y7 y8),
  .chk (.cell 13 y0),
  .ev (.lenL (.cell 13 y0)),
  .ev (.bin .add .int y9 y10),
  .ev (.bin .gtr .int y11 (ki 200))]
  (.ret y12)),
  .chain true y7 (ups [.ev (.lcons (.aggN 3 (agc 3 y1)) (.const (.lst []))),
  .call 16 y2 [y8, (ki 1)] [true],
  .ev (.un .not y9)]
  (.ret y10))]
  (.ite y8 (ups [.call 17 y2 [] [true]]
  (.ret (.tcons y9 (.tcons y2 .tnil)))) (ups [.call 18 y2 [(agc 14 y0)] [true],
  .call 19 y2 [(agc 14 y0), (agc 3 y1)] [true],
  .call 20 y2 [(agc 14 y0)] [true],
  .ev (.un .not y11)]
  (.ite y12 (ups [.ev (.bin .eql .int y9 (ki 2)),
  .chain false y13 (ups [.ev (.bin .eql .int y10 (ki 2))]
  (.ret y14)),
  .chain false y14 (ups [.call 17 y2 [] [true]]
  (.ret y15))]
  (.ret (.tcons y15 (.tcons y2 .tnil)))) (ups [.call 21 y2 [(agc 14 y0), (agc 3 y1)] [true],
  .ev (.un .not y13)]
  (.ite y14 (ups [.ev (.bin .eql .int y9 (ki 0)),
  .chain false y15 (ups [.ev (.bin .eql .int y10 (ki 2))]
  (.ret y16)),
  .chain false y16 (ups [.call 17 y2 [] [true]]
  (.ret y17))]
  (.ret (.tcons y17 (.tcons y2 .tnil)))) (ups [.ev (.bin .eql .int y9 (ki 0)),
  .chain false y15 (ups [.ev (.bin .eql .int y10 (ki 0))]
  (.ret y16)),
  .chain false y16 (ups [.call 17 y2 [] [true]]
  (.ret y17))]
  (.ret (.tcons y17 (.tcons y2 .tnil))))))))))
theorem ku3 : UOk Tryz.prog 3 .plain (scf true [] [] Tryz.f3) [false, false] u3 := UOk.plain Tryz.func3 (by kernel_rfl) (by kernel_rfl)

end Go.Am.Sc

/-
 Which arguments are small;the law of checks.
-/
namespace Go.Am.Sc
open Go.Proofs
set_option maxRecDepth 100000
set_option maxHeartbeats 4000000

attribute [local irreducible] inR allR lineOk

variable {bs:List D} {p:Plan} {c:Card}

def Plan.small (p:Plan):Bool:=decide ((p.n:Int)≤12)&&(decide ((p.jumps.length:Int)≤20)&&(decide ((p.points.length:Int)≤80)&&decide ((p.extra.length:Int)≤80)))

theorem c15:FSpecR Tryz.prog 15 (.st bs) [p.d] (B p.small):=by
 refine ku15.R rfl rfl ?_
 unfold u15
 simp only[ups_cons,ups_nil,List.cons_append,List.nil_append]
 repeat' (first|(apply nrm;simp only[sbe];rfl)|(apply u_chk;rfl)|(apply u_lenL;rfl;exact ln_it;simp only[sbe];rfl)|(apply u_lenL;rfl;exact lenL_map;simp only[sbe];rfl)|(apply u_ev;rfl;simp only[sbe];rfl)|(apply u_and;rfl)|exact u_ret rfl rfl|(apply u_ret;rfl;first|exact rfl|(refine retB ?_)|(refine retI ?_)|(refine retD ?_))|(intro hz;(try simp only[sbs] at hz)))
 simp[Plan.small,Bool.and_assoc]

def Card.small (c:Card):Bool:=decide ((c.starts.length:Int)≤12)&&decide ((c.lines.length:Int)≤30)
def shortL (l:List Card)(most:Int):Bool:=l.all Card.small&&(decide ((l.length:Int)≤most)||(decide ((l.length:Int) > 200)&&decide ((l.length:Int)<300)))

theorem ea_card {l:List Card}{i:Nat}(h:i<l.length):D.eaddr 3 (.lst (l.map Card.d)) (In i)=some (.ptr (l[i]).d.cells):=eaddr_get h rfl

theorem c16 {l:List Card}{most:Int}(hL:l.length≤maxLen):FSpecR Tryz.prog 16 (.st bs) [Cards l,I most] (B (shortL l most)):=by
 have hL':l.length≤9223372036854775807:=hL
 refine ku16.R rfl rfl ?_
 unfold u16
 simp only[ups_cons,ups_nil,List.cons_append,List.nil_append]
 repeat' ((with_reducible refine u_join ?_))
 refine u_range (fun i=>[I i]) (fun i=>∀k (h:k<i) (h2:k<l.length),(l[k]).small=true) l.length rfl (fun _=>rfl) (fun k h=>absurd h (Nat.not_lt_zero _)) (fun i hj hJ R hR=>?_) (fun hJ R=>?_)
 ·have hli:decide ((i:Int)<(l.length:Int))=true:=by simp;omega
  repeat' (first|(apply nrm;simp only[sbe];rfl)|(apply u_iteT;rfl;exact hli)|(apply u_chk;rfl)|(apply u_eaddr;rfl;rfl;exact ea_card hj;simp only[sbe];rfl)|(apply u_lenL;rfl;exact lenL_map;simp only[sbe];rfl)|(apply u_add;rfl;rfl;omega;simp only[sbe];rfl)|(apply u_ev;rfl;simp only[sbe];rfl)|(apply u_or;rfl)|refine u_join ?_|(apply u_jump;rfl;rfl)|refine at_jump ?_|refine kj rfl ?_|(apply u_ite;rfl;all_goals (intro hz;(try simp only[sbs] at hz);first|(exact absurd hz (by decide))|(exfalso;omega)|skip))|exact u_ret rfl rfl|(apply u_ret;rfl;first|exact rfl|(refine retB ?_)|(refine retI ?_)|(refine retD ?_))|(intro hz;(try simp only[sbs] at hz)))
  ·have:l.all Card.small=false:=List.all_eq_false.2 ⟨_,List.getElem_mem hj,by simp only[Card.small,Bool.and_eq_true,decide_eq_true_eq];omega⟩
   simp[shortL,this]
  ·refine hR fun k hk h2=>?_
   rcases Nat.lt_or_ge k i with h3 | h3
   ·exact hJ k h3 h2
   ·have e:k=i:=by omega
    subst e
    simp only[Card.small,Bool.and_eq_true,decide_eq_true_eq]
    omega
 ·have hlf:decide ((l.length:Int)<(l.length:Int))=false:=by simp
  repeat' (first|(apply nrm;simp only[sbe];rfl)|(apply u_iteF;rfl;exact hlf)|(apply u_lenL;rfl;exact lenL_map;simp only[sbe];rfl)|(apply u_ev;rfl;simp only[sbe];rfl)|(apply u_or;rfl)|(apply u_and;rfl)|(apply u_jump;rfl;rfl)|refine at_jump ?_|(refine over_jump (by decide) ?_)|refine kj rfl ?_|exact u_ret rfl rfl|(apply u_ret;rfl;first|exact rfl|(refine retB ?_)|(refine retI ?_)|(refine retD ?_))|(intro hz;(try simp only[sbs] at hz)))
  have:l.all Card.small=true:=List.all_eq_true.2 fun a ha=>by
   obtain⟨k,hk,rfl⟩:=List.mem_iff_getElem.1 ha
   exact hJ k hk hk
  simp[shortL,this]

theorem c3 (hk:FSpecR Tryz.prog 17 (.st bs) [] (B true))(hp:p.Ok)(hc:c.Ok):FSpecW Tryz.prog 3 (.st bs) [p.d,c.d] (B true) (.st bs):=by
 have h16:=c16 (bs:=bs) (l:=[c]) (most:=1) (show 1≤maxLen by decide)
 have h18:=c18 (bs:=bs) hp
 have h20:=c20 (bs:=bs) hp
 have h19:=c19 (bs:=bs) hp hc
 obtain⟨w1,hw1⟩:∃w,D.bin .add .int (I p.jumps.length) (I p.points.length)=some (I w):=⟨_,rfl⟩
 obtain⟨w2,hw2⟩:∃w,D.bin .add .int (I w1) (I p.extra.length)=some (I w):=⟨_,rfl⟩
 refine ku3.W rfl ?_
 unfold u3
 simp only[ups_cons,ups_nil,List.cons_append,List.nil_append]
 cases hok:p.ok
 ·rw[hok] at h18 h20 h19
  replace h18:FSpecR Tryz.prog 18 (.st bs) [p.d] (I 2):=h18
  replace h19:FSpecR Tryz.prog 19 (.st bs) [p.d,c.d] (I 2):=h19
  repeat' (first|(apply nrm;simp only[sbe];rfl)|(apply u_chk;rfl)|(apply u_lenL;rfl;exact ln_it;simp only[sbe];rfl)|(apply u_bin;rfl;rfl;(·first|exact hw1|exact hw2);simp only[sbe];rfl)|(apply u_lenL;rfl;exact lenL_map;simp only[sbe];rfl)|(apply u_ev;rfl;simp only[sbe];rfl)|(apply u_call;rfl;rfl;(·first|exact c15|exact h16|exact h18|exact h19|exact h20|exact hk);rfl;simp only[sbe];rfl)|(apply u_or;rfl)|(apply u_and;rfl)|(apply u_ite;rfl;all_goals (intro hz;(try simp only[sbs] at hz);first|(exact absurd hz (by decide))|(exfalso;omega)|skip))|exact u_ret rfl rfl|(intro hz;(try simp only[sbs] at hz)))
  all_goals simp_all
 ·have h21:=c21 (bs:=bs) hp hc hok
  rw[hok] at h18 h20 h19
  replace h18:FSpecR Tryz.prog 18 (.st bs) [p.d] (I 0):=h18
  cases hcd:cardOk p c
  ·rw[hcd] at h21 h19
   replace h19:FSpecR Tryz.prog 19 (.st bs) [p.d,c.d] (I 2):=h19
   repeat' (first|(apply nrm;simp only[sbe];rfl)|(apply u_chk;rfl)|(apply u_lenL;rfl;exact ln_it;simp only[sbe];rfl)|(apply u_bin;rfl;rfl;(·first|exact hw1|exact hw2);simp only[sbe];rfl)|(apply u_lenL;rfl;exact lenL_map;simp only[sbe];rfl)|(apply u_ev;rfl;simp only[sbe];rfl)|(apply u_call;rfl;rfl;(·first|exact c15|exact h16|exact h18|exact h19|exact h20|exact h21|exact hk);rfl;simp only[sbe];rfl)|(apply u_or;rfl)|(apply u_and;rfl)|(apply u_ite;rfl;all_goals (intro hz;(try simp only[sbs] at hz);first|(exact absurd hz (by decide))|(exfalso;omega)|skip))|exact u_ret rfl rfl|(intro hz;(try simp only[sbs] at hz)))
   all_goals simp_all
  ·rw[hcd] at h21 h19
   replace h19:FSpecR Tryz.prog 19 (.st bs) [p.d,c.d] (I 0):=h19
   repeat' (first|(apply nrm;simp only[sbe];rfl)|(apply u_chk;rfl)|(apply u_lenL;rfl;exact ln_it;simp only[sbe];rfl)|(apply u_bin;rfl;rfl;(·first|exact hw1|exact hw2);simp only[sbe];rfl)|(apply u_lenL;rfl;exact lenL_map;simp only[sbe];rfl)|(apply u_ev;rfl;simp only[sbe];rfl)|(apply u_call;rfl;rfl;(·first|exact c15|exact h16|exact h18|exact h19|exact h20|exact h21|exact hk);rfl;simp only[sbe];rfl)|(apply u_or;rfl)|(apply u_and;rfl)|(apply u_ite;rfl;all_goals (intro hz;(try simp only[sbs] at hz);first|(exact absurd hz (by decide))|(exfalso;omega)|skip))|exact u_ret rfl rfl|(intro hz;(try simp only[sbs] at hz)))
   all_goals simp_all

end Go.Am.Sc

/-
  Due minutes and where a car is out, as texts.
-/
namespace Go.Am.Sc
open Go.Proofs

noncomputable def u35 : U := (ups [.chk (.aggN 14 y0),
  .chk (.aggN 3 y1),
  .call 19 y3 [(agc 14 y0), (agc 3 y1)] [true],
  .ev (.bin .neq .int y4 (ki 0)),
  .chain true y5 (ups [.chk (.cell 0 y0),
  .ev (.lenL (.cell 0 y0)),
  .ev (.bin .sub .int y6 (ki 1)),
  .call 46 y3 [y2, (ki 0), y7] [true],
  .ev (.un .not y8)]
  (.ret y9)),
  .chain true y6 (ups [.chk (.cell 0 y0),
  .ev (.eaddr 4 (.cell 0 y0) y2),
  .chk (.padd 0 y7),
  .ev (.ld false 1 y3 (.padd 0 y7)),
  .ev (.bin .neq .int y8 (ki 1))]
  (.ret y9))]
  (.ite y7 (.ret (.tcons (.tcons (ki 0) (.tcons (ki 2) .tnil)) (.tcons y3 .tnil))) (ups [.ev (.eaddr 4 (.cell 2 y1) y2),
  .chk (.padd 3 y8),
  .ev (.ld false 1 y3 (.padd 3 y8)),
  .ev (.bin .eql .int y9 (ki 2))]
  (.ite y10 (.ret (.tcons (.tcons (ki 0) (.tcons (ki 5) .tnil)) (.tcons y3 .tnil))) (ups [.call 88 y3 [(agc 14 y0), (agc 3 y1), y2] [true]]
  (.ret (.tcons (.tcons y11 (.tcons (ki 0) .tnil)) (.tcons y3 .tnil))))))))
theorem ku35 : UOk Tryz.prog 35 .plain (scf true [] [] Tryz.f35) [false, false, true] u35 := UOk.plain Tryz.func35 (by kernel_rfl) (by kernel_rfl)

noncomputable def u36 : U := (ups [.chk (.aggN 14 y0),
  .chk (.aggN 3 y1),
  .call 19 y2 [(agc 14 y0), (agc 3 y1)] [true],
  .ev (.bin .neq .int y3 (ki 0))]
  (.ite y4 (.ret (.tcons (.tcons (ki 0) (.tcons (ki 2) .tnil)) (.tcons y2 .tnil))) (ups [.call 89 y2 [(agc 14 y0), (agc 3 y1)] [true]]
  (.ret (.tcons (.tcons y5 (.tcons (ki 0) .tnil)) (.tcons y2 .tnil))))))
theorem ku36 : UOk Tryz.prog 36 .plain (scf true [] [] Tryz.f36) [false, false] u36 := UOk.plain Tryz.func36 (by kernel_rfl) (by kernel_rfl)

noncomputable def u37 : U := (ups [.chk (.aggN 14 y0),
  .chk (.aggN 3 y1),
  .join 0 0 (.loop 1 [(ki 0)] (ups [.ev (.lenL (.cell 0 y0)),
  .ev (.bin .lss .int y3 y4)]
  (.ite y5 (ups [.join 2 0 (ups [.join 3 4 (.loop 4 [(ki 0), (ki 0)] (ups [.ev (.bin .leq .int y7 y3)]
  (.ite y8 (ups [.join 5 1 (ups [.ev (.eaddr 4 (.cell 0 y0) y7),
  .chk (.padd 1 y9),
  .ev (.ld false 1 y2 (.padd 1 y9)),
  .ev (.eaddr 4 (.cell 0 y0) y3),
  .chk (.padd 1 y11),
  .ev (.ld false 1 y2 (.padd 1 y11)),
  .ev (.bin .eql .int y10 y12),
  .join 6 1 (.ite y13 (ups [.call 90 y2 [(agc 14 y0), (agc 3 y1), y7] [true],
  .ev (.bin .add .int y6 y14)]
  (.jump 6 [y15] [])) (.jump 6 [y6] []))]
  (.jump 5 [y14] [])),
  .ev (.bin .add .int y7 (ki 1))]
  (.jump 4 [y9, y10] [])) (.jump 3 [y6, y7, y7, y8] [])))),
  .call 90 y2 [(agc 14 y0), (agc 3 y1), y3] [true],
  .ev (.bin .gtr .int y10 (.cell 4 y0)),
  .chain true y11 (ups [.ev (.bin .gtr .int y10 (ki 0)),
  .chain false y12 (ups [.chk (.cell 5 y0),
  .ev (.bin .gtr .int y6 (.cell 5 y0))]
  (.ret y13))]
  (.ret y13))]
  (.ite y12 (.ret (.tcons y3 (.tcons y2 .tnil))) (ups [.ev (.eaddr 4 (.cell 2 y1) y3),
  .chk (.padd 3 y13),
  .ev (.ld false 1 y2 (.padd 3 y13)),
  .ev (.bin .eql .int y14 (ki 2)),
  .chain false y15 (ups [.chk (.cell 7 y0),
  .ev (.un .not (.cell 7 y0)),
  .chain true y16 (ups [.chk (.cell 0 y0),
  .ev (.eaddr 4 (.cell 0 y0) y3),
  .chk (.padd 1 y17),
  .ev (.ld false 1 y2 (.padd 1 y17)),
  .call 51 y2 [(agc 14 y0)] [true],
  .ev (.bin .sub .int y19 (ki 1)),
  .ev (.bin .eql .int y18 y20)]
  (.ret y21))]
  (.ret y17))]
  (.ite y16 (.ret (.tcons y3 (.tcons y2 .tnil))) (.jump 2 [] []))))),
  .ev (.bin .add .int y3 (ki 1))]
  (.jump 1 [y6] [])) (.jump 0 [] []))))]
  (.ret (.tcons (ki (-1)) (.tcons y2 .tnil))))
theorem ku37 : UOk Tryz.prog 37 .plain (scf true [] [] Tryz.f37) [false, false] u37 := UOk.plain Tryz.func37 (by kernel_rfl) (by kernel_rfl)

noncomputable def u38 : U := (ups [.chk (.aggN 14 y0),
  .chk (.aggN 3 y1),
  .ev (.eaddr 4 (.cell 0 y0) y2),
  .ev (.ld true 4 y3 y4),
  .chk (.aggN 4 y5),
  .ev (.bin .gtr .int y2 (ki 0)),
  .chain false y6 (ups [.chk (.cell 0 y0),
  .ev (.bin .sub .int y2 (ki 1)),
  .ev (.eaddr 4 (.cell 0 y0) y7),
  .chk (.padd 1 y8),
  .ev (.ld false 1 y3 (.padd 1 y8)),
  .chk (.cell 1 y5),
  .ev (.bin .eql .int y9 (.cell 1 y5))]
  (.ret y10))]
  (.ite y7 (ups [.ev (.bin .sub .int y2 (ki 1)),
  .ev (.eaddr 4 (.cell 2 y1) y8),
  .chk (.padd 0 y9),
  .ev (.ld false 1 y3 (.padd 0 y9)),
  .ev (.bin .add .int y10 (.cell 2 y5))]
  (.ret (.tcons y11 (.tcons y3 .tnil)))) (ups [.ev (.eaddr 1 (.cell 1 y1) (.cell 1 y5)),
  .ev (.ld false 1 y3 y8),
  .ev (.bin .add .int y9 (.cell 2 y5))]
  (.ret (.tcons y10 (.tcons y3 .tnil))))))
theorem ku38 : UOk Tryz.prog 38 .plain (scf true [] [] Tryz.f38) [false, false, true] u38 := UOk.plain Tryz.func38 (by kernel_rfl) (by kernel_rfl)

noncomputable def u88 : U := (ups [.chk (.aggN 14 y0),
  .chk (.aggN 3 y1),
  .ev (.eaddr 4 (.cell 0 y0) y2),
  .chk (.padd 1 y4),
  .ev (.ld false 1 y3 (.padd 1 y4)),
  .ev (.bin .gtr .int y2 (ki 0)),
  .chain false y6 (ups [.chk (.cell 0 y0),
  .ev (.bin .sub .int y2 (ki 1)),
  .ev (.eaddr 4 (.cell 0 y0) y7),
  .chk (.padd 1 y8),
  .ev (.ld false 1 y3 (.padd 1 y8)),
  .ev (.bin .eql .int y9 y5)]
  (.ret y10))]
  (.ite y7 (ups [.ev (.bin .sub .int y2 (ki 1)),
  .ev (.eaddr 4 (.cell 2 y1) y8),
  .chk (.padd 0 y9),
  .ev (.ld false 1 y3 (.padd 0 y9)),
  .ev (.eaddr 4 (.cell 0 y0) y2),
  .chk (.padd 2 y11),
  .ev (.ld false 1 y3 (.padd 2 y11)),
  .ev (.bin .add .int y10 y12)]
  (.ret (.tcons y13 (.tcons y3 .tnil)))) (ups [.ev (.eaddr 1 (.cell 1 y1) y5),
  .ev (.ld false 1 y3 y8),
  .ev (.eaddr 4 (.cell 0 y0) y2),
  .chk (.padd 2 y10),
  .ev (.ld false 1 y3 (.padd 2 y10)),
  .ev (.bin .add .int y9 y11)]
  (.ret (.tcons y12 (.tcons y3 .tnil))))))
theorem ku88 : UOk Tryz.prog 88 .plain (scf true [] [] Tryz.f88) [false, false, true] u88 := UOk.plain Tryz.func88 (by kernel_rfl) (by kernel_rfl)

noncomputable def u90 : U := (ups [.chk (.aggN 14 y0),
  .chk (.aggN 3 y1),
  .ev (.eaddr 4 (.cell 0 y0) y2),
  .chk (.padd 0 y4),
  .ev (.ld false 1 y3 (.padd 0 y4)),
  .ev (.bin .neq .int y5 (ki 1)),
  .chain true y6 (ups [.chk (.cell 2 y1),
  .ev (.eaddr 4 (.cell 2 y1) y2),
  .chk (.padd 3 y7),
  .ev (.ld false 1 y3 (.padd 3 y7)),
  .ev (.bin .eql .int y8 (ki 2))]
  (.ret y9))]
  (.ite y7 (.ret (.tcons (ki 0) (.tcons y3 .tnil))) (ups [.ev (.eaddr 4 (.cell 2 y1) y2),
  .chk (.padd 0 y8),
  .ev (.ld false 1 y3 (.padd 0 y8)),
  .call 38 y3 [(agc 14 y0), (agc 3 y1), y2] [true],
  .ev (.bin .sub .int y9 y10),
  .ev (.mm true (ki 0) y11)]
  (.ret (.tcons y12 (.tcons y3 .tnil))))))
theorem ku90 : UOk Tryz.prog 90 .plain (scf true [] [] Tryz.f90) [false, false, true] u90 := UOk.plain Tryz.func90 (by kernel_rfl) (by kernel_rfl)

noncomputable def u118 : U := (ups [.ev (.mkptr (.aggN 14 y0)),
  .ev (.mkptr (.cons (.scal y1) .nil)),
  .ev (.mkfn 139 .tnil (.tcons y3 (.tcons y4 .tnil)))]
  (.ret (.tcons y5 (.tcons y2 .tnil))))
theorem ku118 : UOk Tryz.prog 118 .plain (scf true [] [] Tryz.f118) [false, true] u118 := UOk.plain Tryz.func118 (by kernel_rfl) (by kernel_rfl)

noncomputable def u119 : U := (ups [.chk (.aggN 14 y0),
  .chk (.aggN 3 y1),
  .ev (.eaddr 4 (.cell 0 y0) y2),
  .chk (.padd 0 y4),
  .ev (.ld false 1 y3 (.padd 0 y4)),
  .ev (.bin .neq .int y5 (ki 1)),
  .chain true y6 (ups [.chk (.cell 2 y1),
  .ev (.eaddr 4 (.cell 2 y1) y2),
  .chk (.padd 3 y7),
  .ev (.ld false 1 y3 (.padd 3 y7)),
  .ev (.bin .eql .int y8 (ki 2))]
  (.ret y9))]
  (.ite y7 (.ret (.tcons (.tcons (ki 0) (.tcons (ki 0) .tnil)) (.tcons y3 .tnil))) (ups [.ev (.eaddr 4 (.cell 2 y1) y2),
  .chk (.padd 0 y8),
  .ev (.ld false 1 y3 (.padd 0 y8)),
  .call 88 y3 [(agc 14 y0), (agc 3 y1), y2] [true],
  .ev (.bin .sub .int y9 y10),
  .join 0 0 (ups [.ev (.bin .gtr .int y11 (ki 0))]
  (.ite y12 (.ret (.tcons (.tcons (ki 1) (.tcons y11 .tnil)) (.tcons y3 .tnil))) (ups [.ev (.bin .lss .int y11 (ki 0))]
  (.ite y13 (ups [.ev (.un .neg y11)]
  (.ret (.tcons (.tcons (ki 2) (.tcons y14 .tnil)) (.tcons y3 .tnil)))) (.jump 0 [] [])))))]
  (.ret (.tcons (.tcons (ki 0) (.tcons (ki 0) .tnil)) (.tcons y3 .tnil))))))
theorem ku119 : UOk Tryz.prog 119 .plain (scf true [] [] Tryz.f119) [false, false, true] u119 := UOk.plain Tryz.func119 (by kernel_rfl) (by kernel_rfl)

noncomputable def u9 : U := (ups [.chk (.aggN 14 y0),
  .chk (.aggN 3 y1),
  .call 15 y3 [(agc 14 y0)] [true],
  .ev (.un .not y4),
  .chain true y5 (ups [.ev (.lcons (.aggN 3 (agc 3 y1)) (.const (.lst []))),
  .call 16 y3 [y6, (ki 1)] [true],
  .ev (.un .not y7)]
  (.ret y8))]
  (.ite y6 (ups [.call 17 y3 [] [true]]
  (.ret (.tcons y7 (.tcons y3 .tnil)))) (ups [.call 35 y3 [(agc 14 y0), (agc 3 y1), y2] [true, true],
  .call 36 y3 [(agc 14 y0), (agc 3 y1)] [true, true],
  .call 20 y3 [(agc 14 y0)] [true],
  .ev (.un .not y9),
  .chain true y10 (ups [.call 21 y3 [(agc 14 y0), (agc 3 y1)] [true],
  .ev (.un .not y11)]
  (.ret y12))]
  (.ite y11 (ups [.ev (.bin .eql .int (.tget 1 y7) (ki 2)),
  .chain false y12 (ups [.chk (.tget 1 y8),
  .ev (.bin .eql .int (.tget 1 y8) (ki 2))]
  (.ret y13)),
  .chain false y13 (ups [.chk (.tget 0 y7),
  .ev (.bin .eql .int (.tget 0 y7) (ki 0))]
  (.ret y14)),
  .chain false y14 (ups [.chk (.tget 0 y8),
  .ev (.bin .eql .int (.tget 0 y8) (ki 0))]
  (.ret y15)),
  .chain false y15 (ups [.call 17 y3 [] [true]]
  (.ret y16))]
  (.ret (.tcons y16 (.tcons y3 .tnil)))) (ups [.ev (.bin .neq .int (.tget 1 y8) (ki 0)),
  .chain true y12 (ups [.chk (.tget 0 y8),
  .call 37 y3 [(agc 14 y0), (agc 3 y1)] [true],
  .ev (.bin .neq .int (.tget 0 y8) y13)]
  (.ret y14))]
  (.ite y13 (.ret (.tcons (kb false) (.tcons y3 .tnil))) (ups [.ev (.bin .lss .int y2 (ki 0)),
  .chain true y14 (ups [.chk (.cell 0 y0),
  .ev (.lenL (.cell 0 y0)),
  .ev (.bin .geq .int y2 y15)]
  (.ret y16)),
  .chain true y15 (ups [.chk (.cell 0 y0),
  .ev (.eaddr 4 (.cell 0 y0) y2),
  .chk (.padd 0 y16),
  .ev (.ld false 1 y3 (.padd 0 y16)),
  .ev (.bin .neq .int y17 (ki 1))]
  (.ret y18))]
  (.ite y16 (ups [.ev (.bin .eql .int (.tget 1 y7) (ki 2)),
  .chain false y17 (ups [.chk (.tget 0 y7),
  .ev (.bin .eql .int (.tget 0 y7) (ki 0))]
  (.ret y18)),
  .chain false y18 (ups [.call 17 y3 [] [true]]
  (.ret y19))]
  (.ret (.tcons y19 (.tcons y3 .tnil)))) (ups [.ev (.eaddr 4 (.cell 2 y1) y2),
  .chk (.padd 3 y17),
  .ev (.ld false 1 y3 (.padd 3 y17)),
  .ev (.bin .eql .int y18 (ki 2))]
  (.ite y19 (ups [.ev (.bin .eql .int (.tget 1 y7) (ki 5)),
  .chain false y20 (ups [.chk (.tget 0 y7),
  .ev (.bin .eql .int (.tget 0 y7) (ki 0))]
  (.ret y21)),
  .chain false y21 (ups [.call 17 y3 [] [true]]
  (.ret y22))]
  (.ret (.tcons y22 (.tcons y3 .tnil)))) (ups [.ev (.bin .eql .int (.tget 1 y7) (ki 0)),
  .chain false y20 (ups [.chk (.tget 0 y7),
  .call 38 y3 [(agc 14 y0), (agc 3 y1), y2] [true],
  .ev (.bin .eql .int (.tget 0 y7) y21)]
  (.ret y22)),
  .chain false y21 (ups [.call 17 y3 [] [true]]
  (.ret y22))]
  (.ret (.tcons y22 (.tcons y3 .tnil))))))))))))))
theorem ku9 : UOk Tryz.prog 9 .plain (scf true [] [] Tryz.f9) [false, false, true] u9 := UOk.plain Tryz.func9 (by kernel_rfl) (by kernel_rfl)

noncomputable def u89 : U := (ups [.ev (.mkptr (.aggN 14 y0)),
  .ev (.mkptr (.aggN 3 y1)),
  .ev (.newb 3 1 y2 (.const (.agg [(.v (.int .i64 0))]))),
  .chk (.padd 0 y3),
  .ev (.ld false 1 y5 (.padd 0 y3)),
  .chk (.padd 0 y3),
  .ev (.ld false 1 y5 (.padd 0 y3)),
  .ev (.lenL y7),
  .ev (.bin .sub .int y8 (ki 1)),
  .ev (.eaddr 4 y6 y9),
  .chk (.padd 1 y10),
  .ev (.ld false 1 y5 (.padd 1 y10)),
  .ev (.newb 3 1 y5 (.const (.agg [(.v (.int .i64 0))]))),
  .ev (.sto 1 y12 (.fstid y5) y11),
  .ev (.ld false 1 y13 (.fstid y5)),
  .ev (.bin .add .int y14 (ki 1)),
  .join 0 1 (.loop 1 [(ki 0), y13] (ups [.ev (.bin .lss .int y16 y15)]
  (.ite y18 (ups [.join 2 1 (ups [.ev (.newb 3 1 y17 (.const (.agg [(.v (.int .i64 0))]))),
  .ev (.sto 1 y19 (.fstid y17) y16),
  .ev (.newb 3 1 y20 (.const (.agg [(.v (.int .i64 0))]))),
  .ev (.sto 1 y21 (.fstid y20) (ki 0)),
  .ev (.ld true 14 y22 y3),
  .ev (.ld false 1 y22 (.fstid y17)),
  .call 118 y22 [y23, y24] [true],
  .join 3 1 (ups [.rforx y25 y22 [0, 1, 2, 3, 4, 5, 6, 7, 11, 12, 13, 14, 15, 16, 17, 18, 19, 20, 21, 22, 23, 24, 25, 26, 27] [y0, y1, y3, y4, (.fstid y2), (.fstid y5), (.fstid y17), (.fstid y20), (.padd 0 y3), y6, (.padd 0 y3), y7, y8, y9, y10, (.padd 1 y10), y11, y14, y15, y16, y18, y16, y23, y24, y25] 1 4 none (ups [.join 6 1 (ups [.chk (.padd 2 y4),
  .ev (.ld false 1 y26 (.padd 2 y4)),
  .ev (.eaddr 4 y28 y27),
  .chk (.padd 3 y29),
  .ev (.ld false 1 y26 (.padd 3 y29)),
  .ev (.bin .eql .int y30 (ki 2)),
  .chain false y31 (ups [.chk (.padd 2 y3),
  .chk (.padd 5 (.padd 2 y3)),
  .ev (.ld false 1 y26 (.padd 5 (.padd 2 y3))),
  .ev (.un .not y32),
  .chain true y33 (ups [.ev (.ld false 1 y26 (.fstid y17)),
  .ev (.ld false 1 y26 (.fstid y5)),
  .ev (.bin .eql .int y34 y35)]
  (.ret y36))]
  (.ret y34))]
  (.ite y32 (ups [.ev (.sto 1 y26 (.fstid y2) y27)]
  (.ret y33)) (ups [.ev (.ld true 14 y26 y3),
  .ev (.ld true 3 y26 y4),
  .call 119 y26 [y33, y34, y27] [true, true],
  .ev (.bin .eql .int (.tget 0 y35) (ki 1)),
  .join 7 1 (.ite y36 (ups [.ev (.ld false 1 y26 (.fstid y20)),
  .ev (.bin .add .int y37 (.tget 1 y35)),
  .ev (.sto 1 y26 (.fstid y20) y38),
  .chk (.padd 2 y3),
  .chk (.padd 2 (.padd 2 y3)),
  .ev (.ld false 1 y39 (.padd 2 (.padd 2 y3))),
  .ev (.bin .gtr .int (.tget 1 y35) y40),
  .chain true y41 (ups [.ev (.ld false 1 y39 (.fstid y20)),
  .chk (.padd 2 y3),
  .chk (.padd 3 (.padd 2 y3)),
  .ev (.ld false 1 y39 (.padd 3 (.padd 2 y3))),
  .ev (.bin .gtr .int y42 y43)]
  (.ret y44))]
  (.ite y42 (ups [.ev (.sto 1 y39 (.fstid y2) y27)]
  (.ret y43)) (.jump 7 [y39] []))) (.jump 7 [y26] []))]
  (.jump 6 [y37] [(.tget 0 y35), (.tget 1 y35), (.tcons (.tget 0 y35) (.tcons (.tget 1 y35) .tnil)), (.tcons (.tget 0 y35) (.tcons (.tget 1 y35) .tnil)), (.tget 0 y35), (.tget 1 y35), (.tget 0 y35)]))))]
  (.jump 4 [y28] [])) (.jump 3 [y26] [])]
  (.ret (.tcons (.ld false 1 y26 (.fstid y2)) (.tcons y26 .tnil))))]
  (.jump 2 [y26] [(.fstid y20)])),
  .ev (.bin .add .int y16 (ki 1))]
  (.jump 1 [y20, y19] [])) (.jump 0 [y17] [])))),
  .ev (.sto 1 y16 (.fstid y2) (ki (-1)))]
  (.ret (.tcons (.ld false 1 y17 (.fstid y2)) (.tcons y17 .tnil))))
theorem ku89 : UOk Tryz.prog 89 .plain (scf false [] [] Tryz.f89) [false, false] u89 := UOk.plain Tryz.func89 (by kernel_rfl) (by kernel_rfl)

noncomputable def u139 : U := (ups [.chk (.padd 0 y1),
  .ev (.ld false 1 y3 (.padd 0 y1)),
  .ev (.lenL y4),
  .join 0 1 (.loop 1 [(ki 0), y3] (ups [.ev (.bin .lss .int y6 y5)]
  (.ite y8 (ups [.join 2 1 (ups [.ev (.eaddr 4 y4 y6),
  .ev (.ld true 4 y7 y9),
  .chk (.aggN 4 y10),
  .ev (.ld false 1 y7 y2),
  .ev (.bin .eql .int (.cell 1 y10) y11),
  .gen (.wcallv [(y12, true)] y0 y7 [y6] [true]),
  .chain false y12 (ups [.ev (.un .not (.tget 0 y13))]
  (.ret y14))]
  (.ite y14 (.ret (.tcons .tnil (.tcons (.tget 1 y13) .tnil))) (.jump 2 [(.tget 1 y13)] [(.cell 1 y10), (.cell 0 y10), (.cell 1 y10), (.cell 2 y10), (.cell 3 y10)]))),
  .ev (.bin .add .int y6 (ki 1))]
  (.jump 1 [y10, y9] [])) (.jump 0 [y7] []))))]
  (.ret (.tcons .tnil (.tcons y6 .tnil))))
theorem ku139 : UOk Tryz.prog 139 .plain (scf false [1000021] [] Tryz.f139) [true, true, true] u139 := UOk.plain Tryz.func139 (by kernel_rfl) (by kernel_rfl)

end Go.Am.Sc

/-
 Due minutes,lateness,and where a car is out.
-/
namespace Go.Am.Sc

def Card.st (c:Card)(k:Nat):Int:=c.starts.getD k 0

def dueA (p:Plan)(c:Card)(i:Nat):Int:=
 if(i != 0&&(p.it (i-1)).leg==(p.it i).leg)=true then(c.ln (i-1)).minute+(p.it i).target else c.st (p.it i).leg.toNat+(p.it i).target

def ctl (p:Plan)(c:Card)(i:Nat):Bool:=(p.it i).kind==1&&(c.ln i).mark != 2

def lateN (p:Plan)(c:Card)(i:Nat):Int:=if ctl p c i=true then max 0 ((c.ln i).minute-dueA p c i) else 0
def earlyN (p:Plan)(c:Card)(i:Nat):Int:=if(ctl p c i&&!(p.it i).free)=true then max 0 (dueA p c i-(c.ln i).minute) else 0

def sumTo (p:Plan)(c:Card)(l:Int):Nat→Int
 | 0=>0
 | i+1=>sumTo p c l i+if(p.it i).leg=l then lateN p c i else 0

def stops (p:Plan)(c:Card)(i:Nat):Bool:=
 decide (lateN p c i > p.maxLate)||(decide (lateN p c i > 0)&&decide (sumTo p c (p.it i).leg (i+1) > p.legLate))||((c.ln i).mark==2&&(!p.ret||(p.it i).leg==p.legs-1))

def fst (f:Nat→Bool):Nat→Int
 | 0=>-1
 | n+1=>if 0≤fst f n then fst f n else if f n=true then n else -1

theorem fst_no {f:Nat→Bool}:∀{n:Nat},(∀k,k<n→f k=false)→fst f n=-1
 | 0,_=>rfl
 | n+1,h=>by
  rw[fst,fst_no fun k hk=>h k (by omega),if_neg (by omega),h n (by omega)]
  simp

theorem fst_at {f:Nat→Bool}{i:Nat}:∀{n:Nat},i<n→f i=true→(∀k,k<i→f k=false)→fst f n=i
 | 0,h,_,_=>absurd h (Nat.not_lt_zero _)
 | n+1,h,h1,h2=>by
  rcases Nat.lt_or_ge i n with h3 | h3
  ·have e:=fst_at h3 h1 h2
   rw[fst,e,if_pos (by omega)]
  ·obtain rfl:i=n:=by omega
   rw[fst,fst_no h2,if_neg (by omega),if_pos h1]

def outI (p:Plan)(c:Card):Int:=fst (stops p c) p.n

variable {p:Plan} {c:Card}

structure CdOk (p:Plan)(c:Card):Prop where
 cls:0≤c.cls∧c.cls<p.classes
 stl:(c.starts.length:Int)=p.legs
 st:∀k,k<c.starts.length→0≤c.st k∧c.st k≤100000
 len:c.lines.length=p.n
 ln:∀i,i<p.n→lineOk (p.it i) (c.ln i)=true

theorem cdOk (hc:cardOk p c=true):CdOk p c:=by
 simp only[cardOk,Bool.and_eq_true,beq_iff_eq] at hc
 obtain⟨h1,h2,h3,h4⟩:=hc
 have h5:=inR_t h1
 simp only[allR,Bool.and_eq_true] at h2
 have h6:=inR_t h2.2
 refine⟨by omega,by omega,fun k hk=>?_,h3,fun i hi=>?_⟩
 ·have:=List.all_eq_true.1 h2.1 c.starts[k] (List.getElem_mem hk)
  have:=inR_t this
  simpa[Card.st,List.getD,hk] using this
 ·have:=List.all_eq_true.1 h4 i (List.mem_range.2 hi)
  simp only[lnOk,Bool.and_eq_true] at this
  exact this.1

theorem CdOk.minute (h:CdOk p c){i:Nat}(hi:i<p.n):0≤(c.ln i).minute∧(c.ln i).minute≤100000:=by
 have:=h.ln i hi
 simp only[lineOk,Bool.and_eq_true] at this
 exact inR_t this.1

theorem CdOk.time (h:CdOk p c){i:Nat}(hi:i<p.n):0≤(c.ln i).time∧(c.ln i).time≤36000000:=by
 have:=h.ln i hi
 simp only[lineOk,Bool.and_eq_true] at this
 exact inR_t this.2.1

theorem CdOk.mark (h:CdOk p c){i:Nat}(hi:i<p.n):(c.ln i).mark=0∨(c.ln i).mark=1∨(c.ln i).mark=2:=by
 have:=h.ln i hi
 simp only[lineOk,Bool.and_eq_true,Bool.or_eq_true,beq_iff_eq] at this
 omega

theorem Plan.ok_kind (h:p.ok=true){i:Nat}(hi:i<p.n):((p.it i).kind=1∧0≤(p.it i).target∧(p.it i).target≤1440)∨((p.it i).kind=2∧(p.it i).target=0∧(p.it i).free=false):=by
 have:=Plan.ok_itOk (Plan.ok_parts h).2.1 hi
 simp only[Plan.itOk,Bool.and_eq_true,Bool.or_eq_true,beq_iff_eq,Bool.not_eq_true'] at this
 rcases this.2.2 with⟨h1,h2⟩ | ⟨h1,h2,h3⟩
 ·exact .inl ⟨h1,inR_t h2⟩
 ·exact .inr ⟨h1,h2,h3⟩

theorem Plan.ok_mono (h : p.ok = true) : ∀ {i k : Nat}, i ≤ k → k < p.n → (p.it i).leg ≤ (p.it k).leg
  | i, 0, h1, _ => by obtain rfl : i = 0 := by omega
                      omega
  | i, k + 1, h1, h2 => by
    rcases Nat.lt_or_ge k i with h3 | h3
    · obtain rfl : i = k + 1 := by omega
      omega
    · have ih := Plan.ok_mono h h3 (by omega)
      have := Plan.ok_itOk (Plan.ok_parts h).2.1 h2
      simp only [Plan.itOk, Bool.and_eq_true, Bool.or_eq_true, beq_iff_eq, Nat.add_sub_cancel] at this
      rcases this.1 with h4 | h4
      · omega
      · have := inR_t h4
        omega

theorem CdOk.stAt (hp:p.ok=true)(h:CdOk p c){i:Nat}(hi:i<p.n):(p.it i).leg.toNat<c.starts.length∧0≤c.st (p.it i).leg.toNat∧c.st (p.it i).leg.toNat≤100000:=by
 have h1:=Plan.ok_leg hp hi
 have h2:=Plan.ok_mono hp (i:=i) (k:=p.n-1) (by omega) (by omega)
 have h3:=h.stl
 unfold Plan.legs at h3
 have h4:(p.it i).leg.toNat<c.starts.length:=by omega
 exact⟨h4,h.st _ h4⟩

theorem CdOk.due (hp:p.ok=true)(h:CdOk p c){i:Nat}(hi:i<p.n):0≤dueA p c i∧dueA p c i≤101440:=by
 have h1:=Plan.ok_kind hp hi
 have h2:=h.stAt hp hi
 have h3:=h.minute (i:=i-1) (by omega)
 unfold dueA
 split <;> omega

theorem CdOk.late (hp:p.ok=true)(h:CdOk p c){i:Nat}(hi:i<p.n):0≤lateN p c i∧lateN p c i≤100000:=by
 have h1:=h.due hp hi
 have h2:=h.minute hi
 unfold lateN
 split <;> omega

theorem CdOk.early (hp:p.ok=true)(h:CdOk p c){i:Nat}(hi:i<p.n):0≤earlyN p c i∧earlyN p c i≤101440:=by
 have h1:=h.due hp hi
 have h2:=h.minute hi
 unfold earlyN
 split <;> omega

theorem CdOk.sum (hp:p.ok=true)(h:CdOk p c)(l:Int):∀{i:Nat},i≤p.n→0≤sumTo p c l i∧sumTo p c l i≤100000*i
 | 0,_=>by simp[sumTo]
 | i+1,hi=>by
  have ih:=h.sum hp l (i:=i) (by omega)
  have:=h.late hp (i:=i) (by omega)
  rw[sumTo]
  split <;> omega

end Go.Am.Sc

/-
 Due minutes and lateness,in the program and in its specification.
-/
namespace Go.Am.Sc
open Go.Proofs
set_option maxRecDepth 100000
set_option maxHeartbeats 4000000

attribute [local irreducible] inR allR lineOk

variable {bs:List D} {p:Plan} {c:Card}

theorem ea_st {k:Nat}(h:k<c.starts.length):D.eaddr 1 (Is c.starts) (In k)=some (.ptr [I (c.st k)]):=by
 have:=eaddr_get (enc:=I) (sz:=1) (xs:=c.starts) h rfl
 simpa[Card.st,List.getD,h,D.cells] using this


theorem c88 (hok:p.ok=true)(h:CdOk p c){i:Nat}(hi:i<p.n):FSpecR Tryz.prog 88 (.st bs) [p.d,c.d,In i] (I (dueA p c i)):=by
 have hh:=Plan.ok_head hok
 have hkd:=Plan.ok_kind hok hi
 have hst:=h.stAt hok hi
 have hlg:=Plan.ok_leg hok hi
 have hln:=h.len
 have hmn:=h.minute hi
 have heL:D.eaddr 1 (Is c.starts) (I (p.it i).leg)=some (.ptr [I (c.st (p.it i).leg.toNat)]):=by
  have:=ea_st (c:=c) hst.1
  rwa [In,show((p.it i).leg.toNat:Int)=(p.it i).leg by omega] at this
 unfold dueA
 by_cases h0:i=0
 ·have hz0:decide ((i:Int) > 0)=false:=by simp[h0]
  rw[if_neg (by simp[h0])]
  refine ku88.R rfl rfl ?_
  unfold u88
  simp only[ups_cons,ups_nil,List.cons_append,List.nil_append]
  repeat' (first|(apply nrm;simp only[sbe];rfl)|(apply u_andF;rfl;exact hz0)|(apply u_iteF;rfl;exact rfl)|(apply u_chk;rfl)|(apply u_eaddr;rfl;rfl;(·first|exact ea_it hi|exact heL);simp only[sbe];rfl)|(apply u_add;rfl;rfl;omega;simp only[sbe];rfl)|(apply u_ev;rfl;simp only[sbe];rfl)|exact u_ret rfl rfl)
 ·have hz0:1≤i:=by omega
  have hmn1:=h.minute (i:=i-1) (by omega)
  have hzt:decide ((i:Int) > 0)=true:=by simp;omega
  have hzn:(i != 0)=true:=by simp[h0]
  cases hb:(p.it (i-1)).leg==(p.it i).leg
  ·have hf:(decide ((i:Int) > 0)&&(p.it (i-1)).leg==(p.it i).leg)=false:=by rw[hb,Bool.and_false]
   rw[if_neg (by simp)]
   refine ku88.R rfl rfl ?_
   unfold u88
   simp only[ups_cons,ups_nil,List.cons_append,List.nil_append]
   repeat' (first|(apply nrm;simp only[sbe];rfl)|(apply u_iteF;rfl;exact hf)|(apply u_chk;rfl)|(apply u_eaddr;rfl;rfl;(·first|exact ea_it hi|exact ea_it (Nat.lt_of_le_of_lt (Nat.sub_le i 1) hi)|exact heL);simp only[sbe];rfl)|(apply u_pred;rfl;omega;simp only[sbe];rfl)|(apply u_add;rfl;rfl;omega;simp only[sbe];rfl)|(apply u_ev;rfl;simp only[sbe];rfl)|(apply u_and;rfl)|exact u_ret rfl rfl|(intro hz;(try simp only[sbs] at hz)))
  ·have ht:(decide ((i:Int) > 0)&&(p.it (i-1)).leg==(p.it i).leg)=true:=by rw[hb,hzt];rfl
   rw[if_pos (by rw[hzn];rfl)]
   refine ku88.R rfl rfl ?_
   unfold u88
   simp only[ups_cons,ups_nil,List.cons_append,List.nil_append]
   repeat' (first|(apply nrm;simp only[sbe];rfl)|(apply u_iteT;rfl;exact ht)|(apply u_chk;rfl)|(apply u_eaddr;rfl;rfl;(·first|exact ea_it hi|exact ea_it (Nat.lt_of_le_of_lt (Nat.sub_le i 1) hi)|exact ea_ln (by omega));simp only[sbe];rfl)|(apply u_pred;rfl;omega;simp only[sbe];rfl)|(apply u_add;rfl;rfl;omega;simp only[sbe];rfl)|(apply u_ev;rfl;simp only[sbe];rfl)|(apply u_and;rfl)|exact u_ret rfl rfl|(intro hz;(try simp only[sbs] at hz)))

theorem c38 (hok:p.ok=true)(h:CdOk p c){i:Nat}(hi:i<p.n):FSpecR Tryz.prog 38 (.st bs) [p.d,c.d,In i] (I (dueA p c i)):=by
 have hh:=Plan.ok_head hok
 have hkd:=Plan.ok_kind hok hi
 have hst:=h.stAt hok hi
 have hlg:=Plan.ok_leg hok hi
 have hln:=h.len
 have hmn:=h.minute hi
 have heL:D.eaddr 1 (Is c.starts) (I (p.it i).leg)=some (.ptr [I (c.st (p.it i).leg.toNat)]):=by
  have:=ea_st (c:=c) hst.1
  rwa [In,show((p.it i).leg.toNat:Int)=(p.it i).leg by omega] at this
 unfold dueA
 by_cases h0:i=0
 ·have hz0:decide ((i:Int) > 0)=false:=by simp[h0]
  rw[if_neg (by simp[h0])]
  refine ku38.R rfl rfl ?_
  unfold u38
  simp only[ups_cons,ups_nil,List.cons_append,List.nil_append]
  repeat' (first|(apply nrm;simp only[sbe];rfl)|(apply u_andF;rfl;exact hz0)|(apply u_iteF;rfl;exact rfl)|(apply u_chk;rfl)|(apply u_eaddr;rfl;rfl;(·first|exact ea_it hi|exact heL);simp only[sbe];rfl)|(apply u_add;rfl;rfl;omega;simp only[sbe];rfl)|(apply u_ev;rfl;simp only[sbe];rfl)|exact u_ret rfl rfl)
 ·have hz0:1≤i:=by omega
  have hmn1:=h.minute (i:=i-1) (by omega)
  have hzt:decide ((i:Int) > 0)=true:=by simp;omega
  have hzn:(i != 0)=true:=by simp[h0]
  cases hb:(p.it (i-1)).leg==(p.it i).leg
  ·have hf:(decide ((i:Int) > 0)&&(p.it (i-1)).leg==(p.it i).leg)=false:=by rw[hb,Bool.and_false]
   rw[if_neg (by simp)]
   refine ku38.R rfl rfl ?_
   unfold u38
   simp only[ups_cons,ups_nil,List.cons_append,List.nil_append]
   repeat' (first|(apply nrm;simp only[sbe];rfl)|(apply u_iteF;rfl;exact hf)|(apply u_chk;rfl)|(apply u_eaddr;rfl;rfl;(·first|exact ea_it hi|exact ea_it (Nat.lt_of_le_of_lt (Nat.sub_le i 1) hi)|exact heL);simp only[sbe];rfl)|(apply u_pred;rfl;omega;simp only[sbe];rfl)|(apply u_add;rfl;rfl;omega;simp only[sbe];rfl)|(apply u_ev;rfl;simp only[sbe];rfl)|(apply u_and;rfl)|exact u_ret rfl rfl|(intro hz;(try simp only[sbs] at hz)))
  ·have ht:(decide ((i:Int) > 0)&&(p.it (i-1)).leg==(p.it i).leg)=true:=by rw[hb,hzt];rfl
   rw[if_pos (by rw[hzn];rfl)]
   refine ku38.R rfl rfl ?_
   unfold u38
   simp only[ups_cons,ups_nil,List.cons_append,List.nil_append]
   repeat' (first|(apply nrm;simp only[sbe];rfl)|(apply u_iteT;rfl;exact ht)|(apply u_chk;rfl)|(apply u_eaddr;rfl;rfl;(·first|exact ea_it hi|exact ea_it (Nat.lt_of_le_of_lt (Nat.sub_le i 1) hi)|exact ea_ln (by omega));simp only[sbe];rfl)|(apply u_pred;rfl;omega;simp only[sbe];rfl)|(apply u_add;rfl;rfl;omega;simp only[sbe];rfl)|(apply u_ev;rfl;simp only[sbe];rfl)|(apply u_and;rfl)|exact u_ret rfl rfl|(intro hz;(try simp only[sbs] at hz)))

theorem c90 (hok:p.ok=true)(h:CdOk p c){i:Nat}(hi:i<p.n):FSpecR Tryz.prog 90 (.st bs) [p.d,c.d,In i] (I (lateN p c i)):=by
 have hd:=h.due hok hi
 have hm:=h.minute hi
 have hln:=h.len
 have h38:=c38 (bs:=bs) hok h hi
 refine ku90.R rfl rfl ?_
 unfold u90
 simp only[ups_cons,ups_nil,List.cons_append,List.nil_append]
 repeat' (first|(apply nrm;simp only[sbe];rfl)|(apply u_chk;rfl)|(apply u_eaddr;rfl;rfl;(·first|exact ea_it hi|exact ea_ln (by omega));simp only[sbe];rfl)|(apply u_sub;rfl;rfl;omega;simp only[sbe];rfl)|(apply u_ev;rfl;simp only[sbe];rfl)|(apply u_call;rfl;rfl;exact h38;rfl;simp only[sbe];rfl)|(apply u_or;rfl)|(apply u_ite;rfl;all_goals (intro hz;(try simp only[sbs] at hz);first|(exact absurd hz (by decide))|(exfalso;omega)|skip))|exact u_ret rfl rfl|(apply u_ret;rfl;first|exact rfl|(refine retB ?_)|(refine retI ?_)|(refine retD ?_))|(intro hz;(try simp only[sbs] at hz)))
 ·rw[lateN,if_neg]
  simp only[ctl,Bool.and_eq_true,beq_iff_eq,bne_iff_ne]
  omega
 ·have hz:ctl p c i=true:=by
   simp only[ctl,Bool.and_eq_true,beq_iff_eq,bne_iff_ne]
   omega
  rw[lateN,if_pos hz]
  rw[if_pos trivial]
  split <;> omega

def sideK (p:Plan)(c:Card)(i:Nat):Int:=if ctl p c i=true then(if(c.ln i).minute > dueA p c i then 1 else if(c.ln i).minute<dueA p c i then 2 else 0) else 0
def sideN (p:Plan)(c:Card)(i:Nat):Int:=if ctl p c i=true then(if(c.ln i).minute > dueA p c i then(c.ln i).minute-dueA p c i else dueA p c i-(c.ln i).minute) else 0

theorem c119 (hok:p.ok=true)(h:CdOk p c){i:Nat}(hi:i<p.n):FSpecR Tryz.prog 119 (.st bs) [p.d,c.d,In i] (.tup [I (sideK p c i),I (sideN p c i)]):=by
 have hd:=h.due hok hi
 have hm:=h.minute hi
 have hln:=h.len
 have h88:=c88 (bs:=bs) hok h hi
 refine ku119.R rfl rfl ?_
 unfold u119
 simp only[ups_cons,ups_nil,List.cons_append,List.nil_append]
 repeat' (first|(apply nrm;simp only[sbe];rfl)|(apply u_chk;rfl)|(apply u_eaddr;rfl;rfl;(·first|exact ea_it hi|exact ea_ln (by omega));simp only[sbe];rfl)|(apply u_sub;rfl;rfl;omega;simp only[sbe];rfl)|(apply u_ev;rfl;simp only[sbe];rfl)|(apply u_call;rfl;rfl;exact h88;rfl;simp only[sbe];rfl)|(apply u_or;rfl)|refine u_join ?_|(apply u_jump;rfl;rfl)|refine at_jump ?_|refine kj rfl ?_|(apply u_ite;rfl;all_goals (intro hz;(try simp only[sbs] at hz);first|(exact absurd hz (by decide))|(exfalso;omega)|skip))|exact u_ret rfl rfl|(apply u_ret;rfl;first|exact rfl|(refine retB ?_)|(refine retI ?_)|(refine retD ?_))|(intro hz;(try simp only[sbs] at hz)))
 ·have hz0:ctl p c i=false:=by
   rw[Bool.eq_false_iff]
   simp only[ctl,ne_eq,Bool.and_eq_true,beq_iff_eq,bne_iff_ne]
   omega
  simp[sideK,sideN,hz0]
 all_goals
  have hz0:ctl p c i=true:=by
   simp only[ctl,Bool.and_eq_true,beq_iff_eq,bne_iff_ne]
   omega
  simp only[sideK,sideN,if_pos hz0]
 ·rw[if_pos (by omega),if_pos (by omega)]
 ·rw[if_neg (by omega),if_pos (by omega),if_neg (by omega),wrap64 (by omega)]
  rw[show(0:Int)-((c.ln i).minute-dueA p c i)=dueA p c i-(c.ln i).minute by omega]
 ·rw[if_neg (by omega),if_neg (by omega),if_neg (by omega),show dueA p c i-(c.ln i).minute=0 by omega]

theorem side_late {i:Nat}:(sideK p c i==1)=decide (lateN p c i > 0):=by
 unfold sideK lateN
 split
 ·split
  ·rw[show decide (_ > _)=true by simp;omega];rfl
  ·rw[show decide (_ > _)=false by simp;omega]
   split <;> rfl
 ·rfl

theorem side_by {i:Nat}(h:sideK p c i=1):sideN p c i=lateN p c i:=by
 unfold sideK at h
 unfold sideN lateN
 split at h
 ·rename_i hc
  rw[if_pos hc,if_pos hc]
  split at h
  ·rename_i hm
   rw[if_pos hm]
   omega
  ·split at h <;> cases h
 ·cases h

theorem c51' (hok:p.ok=true):FSpecR Tryz.prog 51 (.st bs) [p.d] (I p.legs):=by
 have hh:=Plan.ok_head hok
 have hl:=Plan.ok_leg hok (i:=p.n-1) (by omega)
 exact c51 (by omega) (by omega) (by omega)

theorem c37 (hp:p.Ok)(hok:p.ok=true)(h:CdOk p c):FSpecR Tryz.prog 37 (.st bs) [p.d,c.d] (I (outI p c)):=by
 have hh:=Plan.ok_head hok
 have hln:=h.len
 have hlg:=Plan.ok_legs hok
 refine ku37.R rfl rfl ?_
 unfold u37
 simp only[ups_cons,ups_nil,List.cons_append,List.nil_append]
 repeat' (first|(apply u_chk;rfl)|refine u_join ?_)
 refine u_range (fun i=>[In i]) (fun i=>∀k,k<i→stops p c k=false) p.n rfl (fun _=>rfl) (fun k h=>absurd h (Nat.not_lt_zero _)) (fun i hi hJ R hR=>?_) (fun hJ R=>?_)
 ·have hli:decide ((i:Int)<(p.n:Int))=true:=by simp;omega
  repeat' (first|(apply nrm;simp only[sbe];rfl)|(apply u_iteT;rfl;exact hli)|(apply u_lenL;rfl;exact ln_it;simp only[sbe];rfl)|(apply u_ev;rfl;simp only[sbe];rfl)|refine u_join ?_)
  refine u_range (fun k=>[I (sumTo p c (p.it i).leg k),In k]) (fun _=>True) (i+1) rfl (fun _=>rfl) trivial (fun k hk _ R2 hR2=>?_) (fun _ R2=>?_)
  ·have hlk:decide ((k:Int)≤(i:Int))=true:=by simp;omega
   have hkn:k<p.n:=by omega
   have hs:=h.sum hok (p.it i).leg (i:=k) (by omega)
   have hL:=h.late hok hkn
   have h90:=c90 (bs:=bs) hok h hkn
   have hR3:=hR2 trivial
   rw[sumTo] at hR3
   cases he:(p.it k).leg==(p.it i).leg
   ·rw[if_neg (by simpa using he),Int.add_zero] at hR3
    repeat' (first|(apply nrm;simp only[sbe];rfl)|(apply u_iteT;rfl;exact hlk)|(apply u_iteF;rfl;exact he)|(apply u_chk;rfl)|(apply u_eaddr;rfl;rfl;(·first|exact ea_it hkn|exact ea_it hi);simp only[sbe];rfl)|(apply u_inc;rfl;omega;simp only[sbe];rfl)|(apply u_ev;rfl;simp only[sbe];rfl)|refine u_join ?_|(apply u_jump;rfl;rfl)|refine at_jump ?_|refine kj rfl ?_)
    exact hR3
   ·rw[if_pos (by simpa using he)] at hR3
    repeat' (first|(apply nrm;simp only[sbe];rfl)|(apply u_iteT;rfl;(·first|exact hlk|exact he))|(apply u_chk;rfl)|(apply u_eaddr;rfl;rfl;(·first|exact ea_it hkn|exact ea_it hi);simp only[sbe];rfl)|(apply u_inc;rfl;omega;simp only[sbe];rfl)|(apply u_add;rfl;rfl;omega;simp only[sbe];rfl)|(apply u_ev;rfl;simp only[sbe];rfl)|(apply u_call;rfl;rfl;exact h90;rfl;simp only[sbe];rfl)|refine u_join ?_|(apply u_jump;rfl;rfl)|refine at_jump ?_|refine kj rfl ?_)
    exact hR3
  ·have hlk:decide (((i+1:Nat):Int)≤(i:Int))=false:=by simp;omega
   have h90:=c90 (bs:=bs) hok h hi
   have hL:=h.late hok hi
   repeat' (first|(apply nrm;simp only[sbe];rfl)|(apply u_iteF;rfl;exact hlk)|(apply u_chk;rfl)|(apply u_eaddr;rfl;rfl;(·first|exact ea_it hi|exact ea_ln (by omega));simp only[sbe];rfl)|(apply u_inc;rfl;omega;simp only[sbe];rfl)|(apply u_sub;rfl;rfl;omega;simp only[sbe];rfl)|(apply u_ev;rfl;simp only[sbe];rfl)|(apply u_call;rfl;rfl;(·first|exact h90|exact c51' hok);rfl;simp only[sbe];rfl)|(apply u_or;rfl)|(apply u_and;rfl)|(apply u_jump;rfl;rfl)|refine at_jump ?_|(refine over_jump (by decide) ?_)|refine kj rfl ?_|(apply u_ite;rfl;all_goals (intro hz;(try simp only[sbs] at hz);first|(exact absurd hz (by decide))|(exfalso;omega)|skip))|exact u_ret rfl rfl|(apply u_ret;rfl;first|exact rfl|(refine retB ?_)|(refine retI ?_)|(refine retD ?_))|(intro hz;(try simp only[sbs] at hz)))
   ·rw[outI,fst_at hi (by simp only[stops,Bool.or_eq_true,Bool.and_eq_true,decide_eq_true_eq];exact .inl hz) hJ]
   ·rw[outI,fst_at hi (by simp only[stops,Bool.or_eq_true,Bool.and_eq_true,decide_eq_true_eq,beq_iff_eq,Bool.not_eq_true'];exact .inr hz) hJ]
   ·refine hR fun k hk=>?_
    rcases Nat.lt_or_ge k i with h3 | h3
    ·exact hJ k h3
    ·rw[show k=i by omega,Bool.eq_false_iff]
     simp only[stops,ne_eq,Bool.or_eq_true,Bool.and_eq_true,decide_eq_true_eq,beq_iff_eq,Bool.not_eq_true']
     cases hr:p.ret <;> simp_all <;> omega
 ·have hlf:decide ((p.n:Int)<(p.n:Int))=false:=by simp
  repeat' (first|(apply nrm;simp only[sbe];rfl)|(apply u_iteF;rfl;exact hlf)|(apply u_lenL;rfl;exact ln_it;simp only[sbe];rfl)|(apply u_ev;rfl;simp only[sbe];rfl)|(apply u_jump;rfl;rfl)|refine at_jump ?_|(refine over_jump (by decide) ?_)|refine kj rfl ?_|(apply u_ret;rfl;first|exact rfl|(refine retB ?_)|(refine retI ?_)|(refine retD ?_)))
  rw[outI,fst_no hJ]

theorem c118 (n:Int):FSpecR Tryz.prog 118 (.st bs) [p.d,I n] (.fn 139 [] [.ptr p.cs,.ptr [I n]]):=by
 refine ku118.R rfl rfl ?_
 unfold u118
 simp only[ups_cons,ups_nil,List.cons_append,List.nil_append]
 repeat' (first|(apply u_ev;rfl;simp only[sbe];rfl)|exact u_ret rfl rfl)

end Go.Am.Sc

/-
 Where a car is out: the loop over a leg's items.
-/
namespace Go.Am.Sc
open Go.Proofs
set_option maxRecDepth 100000
set_option maxHeartbeats 4000000

attribute [local irreducible] inR allR lineOk

variable {bs:List D} {p:Plan} {c:Card}

section
variable {k0:Nat} {rec:Loop×Code} {sl:List Nat} {cds:List D} {n:Int}

theorem c139_all (hN:p.n≤100)(F:Nat→List D)(h1:∀i,i<p.n→(p.it i).leg=n→YSpecB Tryz.prog (.ylb k0 rec sl cds) (.st (F i)) [In i] true (.st (F (i+1))))(h2:∀i,i<p.n→(p.it i).leg≠n→F (i+1)=F i) :
  FSpecW Tryz.prog 139 (.st (F 0)) [.ylb k0 rec sl cds,.ptr p.cs,.ptr [I n]] (.tup []) (.st (F p.n)):=by
 refine ku139.W rfl ?_
 unfold u139
 simp only[ups_cons,ups_nil,List.cons_append,List.nil_append]
 repeat' (first|(apply u_chk;rfl)|(apply u_lenL;rfl;exact ln_it;simp only[sbe];rfl)|(apply u_ev;rfl;simp only[sbe];rfl)|refine u_join ?_)
 refine u_range (fun i=>[In i,.st (F i)]) (fun _=>True) p.n rfl (fun _=>rfl) trivial (fun i hi _ R hR=>?_) (fun _ R=>?_)
 ·have hli:decide ((i:Int)<(p.n:Int))=true:=by simp;omega
  have hR:=hR trivial
  cases he:(p.it i).leg==n
  ·have e:=h2 i hi (by simpa using he)
   rw[e] at hR
   repeat' (first|(apply nrm;simp only[sbe];rfl)|((apply u_genTN (.v (.bool false)));rfl;exact he;rfl;simp only[sbe];rfl)|(apply u_andF;rfl;exact he)|(apply u_iteT;rfl;exact hli)|(apply u_iteF;rfl;exact rfl)|(apply u_chk;rfl)|(apply u_eaddr;rfl;rfl;exact ea_it hi;simp only[sbe];rfl)|(apply u_inc;rfl;omega;simp only[sbe];rfl)|(apply u_ev;rfl;simp only[sbe];rfl)|refine u_join ?_|(apply u_jump;rfl;rfl)|refine at_jump ?_|refine kj rfl ?_)
   exact hR
  ·have hc:CallV Tryz.prog (.ylb k0 rec sl cds) (.st (F i)) [In i] (.v (.bool true)) (.st (F (i+1))):=⟨true,rfl,h1 i hi (by simpa using he)⟩
   repeat' (first|(apply nrm;simp only[sbe];rfl)|(apply u_genT;rfl;exact he;rfl;rfl;rfl;exact hc;rfl;simp only[sbe];rfl)|(apply u_iteT;rfl;exact hli)|(apply u_iteF;rfl;exact Bool.and_false _)|(apply u_chk;rfl)|(apply u_eaddr;rfl;rfl;exact ea_it hi;simp only[sbe];rfl)|(apply u_inc;rfl;omega;simp only[sbe];rfl)|(apply u_ev;rfl;simp only[sbe];rfl)|(apply u_and;rfl)|refine u_join ?_|(apply u_jump;rfl;rfl)|refine at_jump ?_|refine kj rfl ?_|exact u_ret rfl rfl|(intro hz;(try simp only[sbs] at hz)))
   all_goals (try exact hR)
 ·have hlf:decide ((p.n:Int)<(p.n:Int))=false:=by simp
  repeat' (first|(apply nrm;simp only[sbe];rfl)|(apply u_iteF;rfl;exact hlf)|(apply u_ev;rfl;simp only[sbe];rfl)|(apply u_jump;rfl;rfl)|refine at_jump ?_|(refine over_jump (by decide) ?_)|refine kj rfl ?_|exact u_ret rfl rfl)

theorem c139_stop (hN:p.n≤100)(F:Nat→List D)(G:List D)(m:Nat)(hm:m<p.n)(hl:(p.it m).leg=n)(h1:∀i,i<m→(p.it i).leg=n→YSpecB Tryz.prog (.ylb k0 rec sl cds) (.st (F i)) [In i] true (.st (F (i+1))))(h2:∀i,i<m→(p.it i).leg≠n→F (i+1)=F i)(h3:YSpecB Tryz.prog (.ylb k0 rec sl cds) (.st (F m)) [In m] false (.st G)) :
  FSpecW Tryz.prog 139 (.st (F 0)) [.ylb k0 rec sl cds,.ptr p.cs,.ptr [I n]] (.tup []) (.st G):=by
 refine ku139.W rfl ?_
 unfold u139
 simp only[ups_cons,ups_nil,List.cons_append,List.nil_append]
 repeat' (first|(apply u_chk;rfl)|(apply u_lenL;rfl;exact ln_it;simp only[sbe];rfl)|(apply u_ev;rfl;simp only[sbe];rfl)|refine u_join ?_)
 refine u_range (fun i=>[In i,.st (F i)]) (fun i=>i≤m) p.n rfl (fun _=>rfl) (Nat.zero_le _) (fun i hi hJ R hR=>?_) (fun hJ R=>?_)
 ·have hli:decide ((i:Int)<(p.n:Int))=true:=by simp;omega
  rcases Nat.lt_or_ge i m with him | him
  ·have hR:=hR (by omega)
   cases he:(p.it i).leg==n
   ·have e:=h2 i him (by simpa using he)
    rw[e] at hR
    repeat' (first|(apply nrm;simp only[sbe];rfl)|((apply u_genTN (.v (.bool false)));rfl;exact he;rfl;simp only[sbe];rfl)|(apply u_andF;rfl;exact he)|(apply u_iteT;rfl;exact hli)|(apply u_iteF;rfl;exact rfl)|(apply u_chk;rfl)|(apply u_eaddr;rfl;rfl;exact ea_it hi;simp only[sbe];rfl)|(apply u_inc;rfl;omega;simp only[sbe];rfl)|(apply u_ev;rfl;simp only[sbe];rfl)|refine u_join ?_|(apply u_jump;rfl;rfl)|refine at_jump ?_|refine kj rfl ?_)
    exact hR
   ·have hc:CallV Tryz.prog (.ylb k0 rec sl cds) (.st (F i)) [In i] (.v (.bool true)) (.st (F (i+1))):=⟨true,rfl,h1 i him (by simpa using he)⟩
    repeat' (first|(apply nrm;simp only[sbe];rfl)|(apply u_genT;rfl;exact he;rfl;rfl;rfl;exact hc;rfl;simp only[sbe];rfl)|(apply u_iteT;rfl;exact hli)|(apply u_iteF;rfl;exact Bool.and_false _)|(apply u_chk;rfl)|(apply u_eaddr;rfl;rfl;exact ea_it hi;simp only[sbe];rfl)|(apply u_inc;rfl;omega;simp only[sbe];rfl)|(apply u_ev;rfl;simp only[sbe];rfl)|(apply u_and;rfl)|refine u_join ?_|(apply u_jump;rfl;rfl)|refine at_jump ?_|refine kj rfl ?_|exact u_ret rfl rfl|(intro hz;(try simp only[sbs] at hz)))
    all_goals (try exact hR)
  ·obtain rfl:i=m:=by omega
   have he:((p.it i).leg==n)=true:=by simpa using hl
   have ht:(((p.it i).leg==n)&&true)=true:=by rw[he];rfl
   have hc:CallV Tryz.prog (.ylb k0 rec sl cds) (.st (F i)) [In i] (.v (.bool false)) (.st G):=⟨false,rfl,h3⟩
   repeat' (first|(apply nrm;simp only[sbe];rfl)|(apply u_genT;rfl;exact he;rfl;rfl;rfl;exact hc;rfl;simp only[sbe];rfl)|(apply u_iteT;rfl;(·first|exact hli|exact ht))|(apply u_chk;rfl)|(apply u_eaddr;rfl;rfl;exact ea_it hi;simp only[sbe];rfl)|(apply u_ev;rfl;simp only[sbe];rfl)|(apply u_and;rfl)|refine u_join ?_|exact u_ret rfl rfl|(apply u_ret;rfl;first|exact rfl|(refine retB ?_)|(refine retI ?_)|(refine retD ?_))|(intro hz;(try simp only[sbs] at hz)))
 ·exact absurd hJ (by omega)

end

end Go.Am.Sc

/-
 Where a car is out,in the program.
-/
namespace Go.Am.Sc
open Go.Proofs
set_option maxRecDepth 100000
set_option maxHeartbeats 4000000

attribute [local irreducible] inR allR lineOk

variable {bs:List D} {p:Plan} {c:Card}

abbrev vb (n:Int):D:=.blk 3 1 [I n]

def legJ (p:Plan)(c:Card):Nat→List D
 | 0=>[]
 | k+1=>legJ p c k++[vb k,vb (sumTo p c k p.n),.tup []]

def legS (p:Plan)(c:Card)(k:Nat):List D:=vb 0 :: vb (p.it (p.n-1)).leg :: legJ p c k

def legF (p:Plan)(c:Card)(k:Nat)(x:D)(i:Nat):List D:=(legS p c k++[vb k])++vb (sumTo p c k i) :: [x]

theorem legF_set {k i:Nat}{x y:D}:(legF p c k x i).set ((legS p c k++[vb k])++[vb 0]).length y=legF p c k y i:=by
 unfold legF
 rw[List.set_append_right _ _ (by simp)]
 simp

theorem legF_get {k i:Nat}{x:D}:(legF p c k x i)[((legS p c k++[vb k])++[vb 0]).length]? = some x:=by
 unfold legF
 rw[List.getElem?_append_right (by simp)]
 simp

theorem legF_n {k i:Nat}{x:D}:D.ld false 1 (.st (legF p c k x i)) (.loc (legS p c k).length 0)=some (I k):=by
 unfold legF
 rw[List.append_assoc]
 exact ld_var

theorem legF_s {k i:Nat}{x:D}:D.ld false 1 (.st (legF p c k x i)) (.loc (legS p c k++[vb k]).length 0)=some (I (sumTo p c k i)):=ld_var

theorem legF_last {k i:Nat}{x:D}:D.ld false 1 (.st (legF p c k x i)) (.loc 1 0)=some (I (p.it (p.n-1)).leg):=ld_blk (e:=3) (sz:=1) (cs:=[I (p.it (p.n-1)).leg]) rfl rfl

theorem legF_sto {k i:Nat}{x:D}:D.sto 1 (.st (legF p c k x i)) (.loc (legS p c k++[vb k]).length 0) (I (sumTo p c k (i+1)))=some (.st (legF p c k x (i+1))):=sto_var rfl

def legG (p:Plan)(c:Card)(k:Nat)(x:D)(i:Nat)(r:Int):List D:=vb r :: (legF p c k x i).tail

theorem legF_res {k i:Nat}{x:D}{r:Int}:D.sto 1 (.st (legF p c k x i)) (.loc 0 0) (I r)=some (.st (legG p c k x i r)):=sto_var (bs:=[]) (r:=(legF p c k x i).tail) (e:=3) (sz:=1) (d0:=I 0) (d:=I r) rfl

theorem legG_set {k i:Nat}{x y:D}{r:Int}:(legG p c k x i r).set ((legS p c k++[vb k])++[vb 0]).length y=legG p c k y i r:=by
 have:=legF_set (p:=p) (c:=c) (k:=k) (i:=i) (x:=x) (y:=y)
 simp only[legG,legF,legS,List.cons_append,List.length_cons,List.set_cons_succ,List.tail_cons,List.cons.injEq,true_and] at this ⊢
 exact this

theorem legG_get {k i:Nat}{x:D}{r:Int}:(legG p c k x i r)[((legS p c k++[vb k])++[vb 0]).length]? = some x:=by
 have:=legF_get (p:=p) (c:=c) (k:=k) (i:=i) (x:=x)
 simp only[legG,legF,legS,List.cons_append,List.length_cons,List.getElem?_cons_succ,List.tail_cons] at this ⊢
 exact this

theorem legF_end {k:Nat}:legF p c k (.tup []) p.n=legS p c (k+1):=by simp[legF,legS,legJ]

theorem legF_zero {k:Nat}{x:D}:((legS p c k++[vb k])++[vb 0])++[x]=legF p c k x 0:=by simp[legF,sumTo]

theorem leg_n {k:Nat}:D.ld false 1 (.st ((legS p c k++[vb k])++[vb 0])) (.loc (legS p c k).length 0)=some (I k):=by
 rw[List.append_assoc]
 exact ld_var

theorem leg_s1 {k:Nat}:D.sto 1 (.st (legS p c k++[vb 0])) (.loc (legS p c k).length 0) (I k)=some (.st (legS p c k++[vb k])):=sto_var rfl
theorem leg_s2 {k:Nat}:D.sto 1 (.st ((legS p c k++[vb k])++[vb 0])) (.loc (legS p c k++[vb k]).length 0) (I 0)=some (.st ((legS p c k++[vb k])++[vb 0])):=sto_var rfl








theorem c89_none (hp:p.Ok)(hok:p.ok=true)(h:CdOk p c)(hno:∀i,i<p.n→stops p c i=false):FSpecW Tryz.prog 89 (.st []) [p.d,c.d] (I (-1)) (.st (vb (-1) :: (legS p c p.legs.toNat).tail)):=by
 have hh:=Plan.ok_head hok
 have hln:=h.len
 have hlg:=Plan.ok_legs hok
 have hl:=Plan.ok_leg hok (i:=p.n-1) (by omega)
 refine ku89.W rfl ?_
 unfold u89
 simp only[ups_cons,ups_nil,List.cons_append,List.nil_append]
 repeat' (first|(apply u_chk;rfl)|(apply u_eaddr;rfl;rfl;exact ea_last hh.1.1;simp only[sbe];rfl)|(apply u_lenL;rfl;exact ln_it;simp only[sbe];rfl)|(apply u_add;rfl;rfl;omega;simp only[sbe];rfl)|(apply u_sub;rfl;rfl;omega;simp only[sbe];rfl)|(apply u_ev;rfl;simp only[sbe];rfl)|refine u_join ?_)
 refine u_range (fun k=>[In k,.st (legS p c k)]) (fun _=>True) p.legs.toNat rfl (fun _=>rfl) trivial (fun k hk _ R hR=>?_) (fun _ R=>?_)
 ·have hR:=hR trivial
  have hkl:decide ((k:Int)<(p.it (p.n-1)).leg+1)=true:=by
   unfold Plan.legs at hk
   simp;omega
  repeat' (first|(apply nrm;simp only[sbe];rfl)|(apply u_iteT;rfl;exact hkl)|(apply u_ld;rfl;rfl;exact leg_n;simp only[sbe];rfl)|(apply u_sto;rfl;rfl;rfl;(·first|exact leg_s1|exact leg_s2);simp only[sbe];rfl)|(apply u_ev;rfl;simp only[sbe];rfl)|(apply u_call;rfl;rfl;exact c118 _;rfl;simp only[sbe];rfl)|refine u_join ?_)
  refine u_rforx (bs':=legF p c k (.tup []) p.n) (.tup []) false rfl (by kernel_rfl) rfl rfl legF_get (fun rec hrec=>?_) (fun _=>?_) (fun e=>by cases e)
  ·rw[legF_zero,legF_set]
   refine c139_all hh.1.2 (legF p c k (.lpb false)) (fun i hi hik=>?_) (fun i hi hik=>by unfold legF;rw[sumTo,if_neg hik,Int.add_zero])
   have hR2:=hrec (legF p c k (.lpb false) i) [In i] true (legF p c k (.tup []) (i+1)) legF_get rfl legF_get
   rw[legF_set,legF_set] at hR2
   refine hR2 ?_
   have hns:stops p c i=false:=hno i hi
   have hlast:p.legs-1=(p.it (p.n-1)).leg:=by unfold Plan.legs;omega
   have hL:=h.late hok hi
   have hs:=h.sum hok (k:Int) (i:=i) (by omega)
   have h119:=c119 (bs:=legF p c k (.tup []) i) hok h hi
   have hsl:=side_late (p:=p) (c:=c) (i:=i)
   have hsum:sumTo p c k (i+1)=sumTo p c k i+lateN p c i:=by rw[sumTo,if_pos hik]
   have hsto:D.sto 1 (.st (legF p c k (.tup []) i)) (.loc (legS p c k++[vb k]).length 0) (I (sumTo p c k i+lateN p c i))=some (.st (legF p c k (.tup []) (i+1))):=by
    rw[←hsum]
    exact legF_sto
   have hld:D.ld false 1 (.st (legF p c k (.tup []) (i+1))) (.loc (legS p c k++[vb k]).length 0)=some (I (sumTo p c k i+lateN p c i)):=by
    rw[←hsum]
    exact legF_s
   rw[stops,hik,hlast,hsum] at hns
   rw[Bool.or_eq_false_iff,Bool.or_eq_false_iff] at hns
   obtain⟨⟨hn1,hn2⟩,hn3⟩:=hns
   clear hR2 hrec
   simp only[List.cons_append,List.nil_append]
   cases hlt:decide (lateN p c i > 0)
   ·have hz:lateN p c i=0:=by simp at hlt;omega
    have e:legF p c k (.tup []) (i+1)=legF p c k (.tup []) i:=by unfold legF;rw[hsum,hz,Int.add_zero]
    rw[hlt] at hsl
    rw[e]
    repeat' (first|(apply nrm;simp only[sbe];rfl)|(apply u_iteF;rfl;(·first|exact hn3|exact hsl))|(apply u_chk;rfl)|(apply u_ld;rfl;rfl;(·first|exact legF_n|exact legF_last);simp only[sbe];rfl)|(apply u_eaddr;rfl;rfl;(·exact ea_ln (by omega));simp only[sbe];rfl)|(apply u_ev;rfl;simp only[sbe];rfl)|(apply u_call;rfl;rfl;exact h119;rfl;simp only[sbe];rfl)|(apply u_or;rfl)|(apply u_and;rfl)|refine u_join ?_|(apply u_jump;rfl;rfl)|refine at_jump ?_|refine kj rfl ?_|exact u_ret rfl rfl|(intro hz;(try simp only[sbs] at hz)))
    all_goals exact rfl
   ·have hk1:sideK p c i=1:=by rw[hlt] at hsl;simpa using hsl
    rw[hk1,side_by hk1] at h119
    rw[hlt,Bool.true_and] at hn2
    have hf2:(decide (lateN p c i > p.maxLate)||decide (sumTo p c k i+lateN p c i > p.legLate))=false:=by rw[hn1,hn2];rfl
    repeat' (first|(apply nrm;simp only[sbe];rfl)|(apply u_iteT;rfl;exact rfl)|(apply u_iteF;rfl;(·first|exact hn3|exact hf2))|(apply u_chk;rfl)|(apply u_ld;rfl;rfl;(·first|exact legF_n|exact hld|exact legF_s|exact legF_last);simp only[sbe];rfl)|(apply u_eaddr;rfl;rfl;(·exact ea_ln (by omega));simp only[sbe];rfl)|(apply u_sto;rfl;rfl;rfl;exact hsto;simp only[sbe];rfl)|(apply u_add;rfl;rfl;omega;simp only[sbe];rfl)|(apply u_ev;rfl;simp only[sbe];rfl)|(apply u_call;rfl;rfl;exact h119;rfl;simp only[sbe];rfl)|(apply u_or;rfl)|(apply u_and;rfl)|refine u_join ?_|(apply u_jump;rfl;rfl)|refine at_jump ?_|refine kj rfl ?_|exact u_ret rfl rfl|(intro hz;(try simp only[sbs] at hz)))
    all_goals exact rfl
  ·rw[legF_end]
   repeat' (first|(apply nrm;simp only[sbe];rfl)|(apply u_inc;rfl;omega;simp only[sbe];rfl)|(apply u_jump;rfl;rfl)|refine at_jump ?_|refine kj rfl ?_)
   exact hR
 ·have hkl:decide ((p.legs.toNat:Int)<(p.it (p.n-1)).leg+1)=false:=by
   unfold Plan.legs
   simp;omega
  have hsto:D.sto 1 (.st (legS p c p.legs.toNat)) (.loc 0 0) (I (-1))=some (.st (vb (-1) :: (legS p c p.legs.toNat).tail)):=sto_var (bs:=[]) (r:=(legS p c p.legs.toNat).tail) (e:=3) (sz:=1) (d0:=I 0) (d:=I (-1)) rfl
  repeat' (first|(apply nrm;simp only[sbe];rfl)|(apply u_iteF;rfl;exact hkl)|(apply u_sto;rfl;rfl;rfl;exact hsto;simp only[sbe];rfl)|(apply u_ev;rfl;simp only[sbe];rfl)|(apply u_jump;rfl;rfl)|refine at_jump ?_|(refine over_jump (by decide) ?_)|refine kj rfl ?_|exact u_ret rfl rfl)

def stopAt (p:Plan)(c:Card)(m:Nat):Nat:=if((c.ln m).mark==2&&(!p.ret||(p.it m).leg==(p.it (p.n-1)).leg))=true then m else m+1

theorem c89_stop (hp:p.Ok)(hok:p.ok=true)(h:CdOk p c){m:Nat}(hm:m<p.n)(hst:stops p c m=true)(hno:∀i,i<m→stops p c i=false):FSpecW Tryz.prog 89 (.st []) [p.d,c.d] (I m) (.st (legG p c (p.it m).leg.toNat (.tup []) (stopAt p c m) m)):=by
 have hlm:=Plan.ok_leg hok hm
 have hmx:=(Plan.ok_parts hok).2.2.1
 simp only[Plan.rulesOk,Bool.and_eq_true] at hmx
 have hmx:=inR_t hmx.2.2.2.1
 have hle:=Plan.ok_mono hok (i:=m) (k:=p.n-1) (by omega) (by omega)
 have hh:=Plan.ok_head hok
 have hln:=h.len
 have hlg:=Plan.ok_legs hok
 have hl:=Plan.ok_leg hok (i:=p.n-1) (by omega)
 refine ku89.W rfl ?_
 unfold u89
 simp only[ups_cons,ups_nil,List.cons_append,List.nil_append]
 repeat' (first|(apply u_chk;rfl)|(apply u_eaddr;rfl;rfl;exact ea_last hh.1.1;simp only[sbe];rfl)|(apply u_lenL;rfl;exact ln_it;simp only[sbe];rfl)|(apply u_add;rfl;rfl;omega;simp only[sbe];rfl)|(apply u_sub;rfl;rfl;omega;simp only[sbe];rfl)|(apply u_ev;rfl;simp only[sbe];rfl)|refine u_join ?_)
 refine u_range (fun k=>[In k,.st (legS p c k)]) (fun k=>(k:Int)≤(p.it m).leg) p.legs.toNat rfl (fun _=>rfl) (by omega) (fun k hk hJ R hR=>?_) (fun hJ R=>?_)
 ·rcases Int.lt_or_le k (p.it m).leg with hkm | hkm
  ·have hR:=hR (by omega)
   have hkl:decide ((k:Int)<(p.it (p.n-1)).leg+1)=true:=by
    unfold Plan.legs at hk
    simp;omega
   repeat' (first|(apply nrm;simp only[sbe];rfl)|(apply u_iteT;rfl;exact hkl)|(apply u_ld;rfl;rfl;exact leg_n;simp only[sbe];rfl)|(apply u_sto;rfl;rfl;rfl;(·first|exact leg_s1|exact leg_s2);simp only[sbe];rfl)|(apply u_ev;rfl;simp only[sbe];rfl)|(apply u_call;rfl;rfl;exact c118 _;rfl;simp only[sbe];rfl)|refine u_join ?_)
   refine u_rforx (bs':=legF p c k (.tup []) p.n) (.tup []) false rfl (by kernel_rfl) rfl rfl legF_get (fun rec hrec=>?_) (fun _=>?_) (fun e=>by cases e)
   ·rw[legF_zero,legF_set]
    refine c139_all hh.1.2 (legF p c k (.lpb false)) (fun i hi hik=>?_) (fun i hi hik=>by unfold legF;rw[sumTo,if_neg hik,Int.add_zero])
    have hR2:=hrec (legF p c k (.lpb false) i) [In i] true (legF p c k (.tup []) (i+1)) legF_get rfl legF_get
    rw[legF_set,legF_set] at hR2
    refine hR2 ?_
    have hns:stops p c i=false:=(hno i (by rcases Nat.lt_or_ge i m with h1 | h1;exact h1;have:=Plan.ok_mono hok h1 hi;omega))
    have hlast:p.legs-1=(p.it (p.n-1)).leg:=by unfold Plan.legs;omega
    have hL:=h.late hok hi
    have hs:=h.sum hok (k:Int) (i:=i) (by omega)
    have h119:=c119 (bs:=legF p c k (.tup []) i) hok h hi
    have hsl:=side_late (p:=p) (c:=c) (i:=i)
    have hsum:sumTo p c k (i+1)=sumTo p c k i+lateN p c i:=by rw[sumTo,if_pos hik]
    have hsto:D.sto 1 (.st (legF p c k (.tup []) i)) (.loc (legS p c k++[vb k]).length 0) (I (sumTo p c k i+lateN p c i))=some (.st (legF p c k (.tup []) (i+1))):=by
     rw[←hsum]
     exact legF_sto
    have hld:D.ld false 1 (.st (legF p c k (.tup []) (i+1))) (.loc (legS p c k++[vb k]).length 0)=some (I (sumTo p c k i+lateN p c i)):=by
     rw[←hsum]
     exact legF_s
    rw[stops,hik,hlast,hsum] at hns
    rw[Bool.or_eq_false_iff,Bool.or_eq_false_iff] at hns
    obtain⟨⟨hn1,hn2⟩,hn3⟩:=hns
    clear hR2 hrec
    simp only[List.cons_append,List.nil_append]
    cases hlt:decide (lateN p c i > 0)
    ·have hz:lateN p c i=0:=by simp at hlt;omega
     have e:legF p c k (.tup []) (i+1)=legF p c k (.tup []) i:=by unfold legF;rw[hsum,hz,Int.add_zero]
     rw[hlt] at hsl
     rw[e]
     repeat' (first|(apply nrm;simp only[sbe];rfl)|(apply u_iteF;rfl;(·first|exact hn3|exact hsl))|(apply u_chk;rfl)|(apply u_ld;rfl;rfl;(·first|exact legF_n|exact legF_last);simp only[sbe];rfl)|(apply u_eaddr;rfl;rfl;(·exact ea_ln (by omega));simp only[sbe];rfl)|(apply u_ev;rfl;simp only[sbe];rfl)|(apply u_call;rfl;rfl;exact h119;rfl;simp only[sbe];rfl)|(apply u_or;rfl)|(apply u_and;rfl)|refine u_join ?_|(apply u_jump;rfl;rfl)|refine at_jump ?_|refine kj rfl ?_|exact u_ret rfl rfl|(intro hz;(try simp only[sbs] at hz)))
     all_goals exact rfl
    ·have hk1:sideK p c i=1:=by rw[hlt] at hsl;simpa using hsl
     rw[hk1,side_by hk1] at h119
     rw[hlt,Bool.true_and] at hn2
     have hf2:(decide (lateN p c i > p.maxLate)||decide (sumTo p c k i+lateN p c i > p.legLate))=false:=by rw[hn1,hn2];rfl
     repeat' (first|(apply nrm;simp only[sbe];rfl)|(apply u_iteT;rfl;exact rfl)|(apply u_iteF;rfl;(·first|exact hn3|exact hf2))|(apply u_chk;rfl)|(apply u_ld;rfl;rfl;(·first|exact legF_n|exact hld|exact legF_s|exact legF_last);simp only[sbe];rfl)|(apply u_eaddr;rfl;rfl;(·exact ea_ln (by omega));simp only[sbe];rfl)|(apply u_sto;rfl;rfl;rfl;exact hsto;simp only[sbe];rfl)|(apply u_add;rfl;rfl;omega;simp only[sbe];rfl)|(apply u_ev;rfl;simp only[sbe];rfl)|(apply u_call;rfl;rfl;exact h119;rfl;simp only[sbe];rfl)|(apply u_or;rfl)|(apply u_and;rfl)|refine u_join ?_|(apply u_jump;rfl;rfl)|refine at_jump ?_|refine kj rfl ?_|exact u_ret rfl rfl|(intro hz;(try simp only[sbs] at hz)))
     all_goals exact rfl
   ·rw[legF_end]
    repeat' (first|(apply nrm;simp only[sbe];rfl)|(apply u_inc;rfl;omega;simp only[sbe];rfl)|(apply u_jump;rfl;rfl)|refine at_jump ?_|refine kj rfl ?_)
    exact hR
  ·have hke:(p.it m).leg=(k:Int):=by omega
   have hkn:(p.it m).leg.toNat=k:=by omega
   have hkl:decide ((k:Int)<(p.it (p.n-1)).leg+1)=true:=by
    unfold Plan.legs at hk
    simp;omega
   repeat' (first|(apply nrm;simp only[sbe];rfl)|(apply u_iteT;rfl;exact hkl)|(apply u_ld;rfl;rfl;exact leg_n;simp only[sbe];rfl)|(apply u_sto;rfl;rfl;rfl;(·first|exact leg_s1|exact leg_s2);simp only[sbe];rfl)|(apply u_ev;rfl;simp only[sbe];rfl)|(apply u_call;rfl;rfl;exact c118 _;rfl;simp only[sbe];rfl)|refine u_join ?_)
   rw[hkn]
   refine u_rforx (bs':=legG p c k (.tup []) (stopAt p c m) m) (.tup []) true rfl (by kernel_rfl) rfl rfl legG_get (fun rec hrec=>?_) (fun e=>by cases e) (fun _=>?_)
   ·rw[legF_zero,legG_set]
    refine c139_stop hh.1.2 (legF p c k (.lpb false)) _ m hm hke (fun i hi hik=>?_) (fun i hi hik=>by unfold legF;rw[sumTo,if_neg hik,Int.add_zero]) ?_
    ·have hi':=hi
     have hi:=Nat.lt_trans hi hm
     have hR2:=hrec (legF p c k (.lpb false) i) [In i] true (legF p c k (.tup []) (i+1)) legF_get rfl legF_get
     rw[legF_set,legF_set] at hR2
     refine hR2 ?_
     have hns:stops p c i=false:=hno i hi'
     have hlast:p.legs-1=(p.it (p.n-1)).leg:=by unfold Plan.legs;omega
     have hL:=h.late hok hi
     have hs:=h.sum hok (k:Int) (i:=i) (by omega)
     have h119:=c119 (bs:=legF p c k (.tup []) i) hok h hi
     have hsl:=side_late (p:=p) (c:=c) (i:=i)
     have hsum:sumTo p c k (i+1)=sumTo p c k i+lateN p c i:=by rw[sumTo,if_pos hik]
     have hsto:D.sto 1 (.st (legF p c k (.tup []) i)) (.loc (legS p c k++[vb k]).length 0) (I (sumTo p c k i+lateN p c i))=some (.st (legF p c k (.tup []) (i+1))):=by
      rw[←hsum]
      exact legF_sto
     have hld:D.ld false 1 (.st (legF p c k (.tup []) (i+1))) (.loc (legS p c k++[vb k]).length 0)=some (I (sumTo p c k i+lateN p c i)):=by
      rw[←hsum]
      exact legF_s
     rw[stops,hik,hlast,hsum] at hns
     rw[Bool.or_eq_false_iff,Bool.or_eq_false_iff] at hns
     obtain⟨⟨hn1,hn2⟩,hn3⟩:=hns
     clear hR2 hrec
     simp only[List.cons_append,List.nil_append]
     cases hlt:decide (lateN p c i > 0)
     ·have hz:lateN p c i=0:=by simp at hlt;omega
      have e:legF p c k (.tup []) (i+1)=legF p c k (.tup []) i:=by unfold legF;rw[hsum,hz,Int.add_zero]
      rw[hlt] at hsl
      rw[e]
      repeat' (first|(apply nrm;simp only[sbe];rfl)|(apply u_iteF;rfl;(·first|exact hn3|exact hsl))|(apply u_chk;rfl)|(apply u_ld;rfl;rfl;(·first|exact legF_n|exact legF_last);simp only[sbe];rfl)|(apply u_eaddr;rfl;rfl;(·exact ea_ln (by omega));simp only[sbe];rfl)|(apply u_ev;rfl;simp only[sbe];rfl)|(apply u_call;rfl;rfl;exact h119;rfl;simp only[sbe];rfl)|(apply u_or;rfl)|(apply u_and;rfl)|refine u_join ?_|(apply u_jump;rfl;rfl)|refine at_jump ?_|refine kj rfl ?_|exact u_ret rfl rfl|(intro hz;(try simp only[sbs] at hz)))
      all_goals exact rfl
     ·have hk1:sideK p c i=1:=by rw[hlt] at hsl;simpa using hsl
      rw[hk1,side_by hk1] at h119
      rw[hlt,Bool.true_and] at hn2
      have hf2:(decide (lateN p c i > p.maxLate)||decide (sumTo p c k i+lateN p c i > p.legLate))=false:=by rw[hn1,hn2];rfl
      repeat' (first|(apply nrm;simp only[sbe];rfl)|(apply u_iteT;rfl;exact rfl)|(apply u_iteF;rfl;(·first|exact hn3|exact hf2))|(apply u_chk;rfl)|(apply u_ld;rfl;rfl;(·first|exact legF_n|exact hld|exact legF_s|exact legF_last);simp only[sbe];rfl)|(apply u_eaddr;rfl;rfl;(·exact ea_ln (by omega));simp only[sbe];rfl)|(apply u_sto;rfl;rfl;rfl;exact hsto;simp only[sbe];rfl)|(apply u_add;rfl;rfl;omega;simp only[sbe];rfl)|(apply u_ev;rfl;simp only[sbe];rfl)|(apply u_call;rfl;rfl;exact h119;rfl;simp only[sbe];rfl)|(apply u_or;rfl)|(apply u_and;rfl)|refine u_join ?_|(apply u_jump;rfl;rfl)|refine at_jump ?_|refine kj rfl ?_|exact u_ret rfl rfl|(intro hz;(try simp only[sbs] at hz)))
      all_goals exact rfl
    ·have hR2:=hrec (legF p c k (.lpb false) m) [In m] false (legG p c k (.tup []) (stopAt p c m) m) legF_get rfl legG_get
     rw[legF_set,legG_set] at hR2
     refine hR2 ?_
     have hns:=hst
     have hlast:p.legs-1=(p.it (p.n-1)).leg:=by unfold Plan.legs;omega
     have hL:=h.late hok hm
     have hs:=h.sum hok (k:Int) (i:=m) (by omega)
     have h119:=c119 (bs:=legF p c k (.tup []) m) hok h hm
     have hsl:=side_late (p:=p) (c:=c) (i:=m)
     have hsum:sumTo p c k (m+1)=sumTo p c k m+lateN p c m:=by rw[sumTo,if_pos hke]
     have hsto:D.sto 1 (.st (legF p c k (.tup []) m)) (.loc (legS p c k++[vb k]).length 0) (I (sumTo p c k m+lateN p c m))=some (.st (legF p c k (.tup []) (m+1))):=by
      rw[←hsum]
      exact legF_sto
     have hld:D.ld false 1 (.st (legF p c k (.tup []) (m+1))) (.loc (legS p c k++[vb k]).length 0)=some (I (sumTo p c k m+lateN p c m)):=by
      rw[←hsum]
      exact legF_s
     rw[stops,hke,hlast,hsum] at hns
     clear hR2 hrec
     simp only[List.cons_append,List.nil_append]
     unfold stopAt
     rw[hke]
     cases hmk:((c.ln m).mark==2&&(!p.ret||(k:Int)==(p.it (p.n-1)).leg))
     ·rw[if_neg (by simp)]
      rw[hmk,Bool.or_false,Bool.or_eq_true,Bool.and_eq_true] at hns
      have hlt:decide (lateN p c m > 0)=true:=by
       rcases hns with h1 | h1
       ·simp at h1 ⊢;omega
       ·exact h1.1
      have hk1:sideK p c m=1:=by rw[hlt] at hsl;simpa using hsl
      rw[hk1,side_by hk1] at h119
      have ht:(decide (lateN p c m > p.maxLate)||decide (sumTo p c k m+lateN p c m > p.legLate))=true:=by
       rw[Bool.or_eq_true]
       rcases hns with h1 | h1
       ·exact .inl h1
       ·exact .inr h1.2
      repeat' (first|(apply nrm;simp only[sbe];rfl)|(apply u_iteT;rfl;(·first|exact rfl|exact ht))|(apply u_iteF;rfl;exact hmk)|(apply u_chk;rfl)|(apply u_ld;rfl;rfl;(·first|exact legF_n|exact hld|exact legF_s|exact legF_last);simp only[sbe];rfl)|(apply u_eaddr;rfl;rfl;(·exact ea_ln (by omega));simp only[sbe];rfl)|(apply u_sto;rfl;rfl;rfl;(·first|exact hsto|exact legF_res);simp only[sbe];rfl)|(apply u_add;rfl;rfl;omega;simp only[sbe];rfl)|(apply u_ev;rfl;simp only[sbe];rfl)|(apply u_call;rfl;rfl;exact h119;rfl;simp only[sbe];rfl)|(apply u_or;rfl)|(apply u_and;rfl)|refine u_join ?_|exact u_ret rfl rfl|(apply u_ret;rfl;first|exact rfl|(refine retB ?_)|(refine retI ?_)|(refine retD ?_))|(intro hz;(try simp only[sbs] at hz)))
      all_goals exact rfl
     ·rw[if_pos rfl]
      repeat' (first|(apply nrm;simp only[sbe];rfl)|(apply u_iteT;rfl;exact hmk)|(apply u_chk;rfl)|(apply u_ld;rfl;rfl;(·first|exact legF_n|exact legF_last);simp only[sbe];rfl)|(apply u_eaddr;rfl;rfl;(·exact ea_ln (by omega));simp only[sbe];rfl)|(apply u_sto;rfl;rfl;rfl;exact legF_res;simp only[sbe];rfl)|(apply u_ev;rfl;simp only[sbe];rfl)|(apply u_or;rfl)|(apply u_and;rfl)|refine u_join ?_|exact u_ret rfl rfl|(apply u_ret;rfl;first|exact rfl|(refine retB ?_)|(refine retI ?_)|(refine retD ?_))|(intro hz;(try simp only[sbs] at hz)))
      all_goals exact rfl
   ·repeat' (((with_reducible apply u_ret);(·rfl);first | exact rfl | (refine retB ?_) | (refine retI ?_) | (refine retD ?_)))
 ·exact absurd hJ (by unfold Plan.legs;omega)

theorem noid_map {α:Type}{enc:α→D}(h:∀x,(enc x).noid=true):∀l:List α,noids (l.map enc)=true
 | []=>rfl
 | x :: l=>by simp[noids,h x,noid_map h l]

theorem plan_noid (p:Plan):p.d.noid=true:=by
 simp only[Plan.d,Plan.cs,D.noid,noids,noid_map (enc:=I) (fun _=>rfl),noid_map (enc:=Item.d) (fun x=>rfl),Bool.and_self]
theorem card_noid (c:Card):c.d.noid=true:=by
 simp only[Card.d,Card.cs,D.noid,noids,noid_map (enc:=I) (fun _=>rfl),noid_map (enc:=Line.d) (fun x=>rfl),Bool.and_self]
theorem cards_noid (l:List Card):(Cards l).noid=true:=by
 simp only[D.noid,noid_map (enc:=Card.d) card_noid]

theorem c89 (hp:p.Ok)(hok:p.ok=true)(h:CdOk p c):FSpecR Tryz.prog 89 (.st bs) [p.d,c.d] (I (outI p c)):=by
 have hm:noids [p.d,c.d]=true:=by simp[noids,plan_noid,card_noid]
 by_cases hx:∃m,m<p.n∧stops p c m=true
 ·obtain⟨m,h1,h2,h3⟩:∃m,m<p.n∧stops p c m=true∧∀i,i<m→stops p c i=false:=by
   obtain⟨m,h1,h2⟩:=hx
   induction m using Nat.strongRecOn with
   | _ m ih=>
    by_cases h4:∃k,k<m∧stops p c k=true
    ·obtain⟨k,h5,h6⟩:=h4
     exact ih k h5 (by omega) h6
    ·exact⟨m,h1,h2,fun i hi=>by
      rw[Bool.eq_false_iff]
      exact fun e=>h4 ⟨i,hi,e⟩⟩
  have:=c89_stop hp hok h h1 h2 h3
  rw[outI,fst_at h1 h2 h3]
  exact this.melt (n:=1) hm rfl bs
 ·have hno:∀i,i<p.n→stops p c i=false:=fun i hi=>by
   rw[Bool.eq_false_iff]
   exact fun e=>hx ⟨i,hi,e⟩
  have:=c89_none hp hok h hno
  rw[outI,fst_no hno]
  exact this.melt (n:=1) hm rfl bs

end Go.Am.Sc

/-
 The law of due minutes.
-/
namespace Go.Am.Sc
open Go.Proofs
set_option maxRecDepth 100000
set_option maxHeartbeats 4000000

attribute [local irreducible] inR allR lineOk

variable {bs:List D} {p:Plan} {c:Card}

def dueR (p:Plan)(c:Card)(i:Int):Int×Int:=
 if(p.ok&&cardOk p c&&inR i 0 (p.n-1)&&(p.it i.toNat).kind==1)=true then(if(c.ln i.toNat).mark=2 then(0,5) else(dueA p c i.toNat,0)) else(0,2)

theorem ea_itZ {i:Int}(h:0≤i∧i<p.n):D.eaddr 4 (.lst (p.items.map Item.d)) (I i)=some (.ptr (p.it i.toNat).d.cells):=by
 have:=ea_it (p:=p) (i:=i.toNat) (by omega)
 rwa [In,show((i.toNat:Nat):Int)=i by omega] at this
theorem ea_lnZ {i:Int}(h:0≤i∧i<c.lines.length):D.eaddr 4 (.lst (c.lines.map Line.d)) (I i)=some (.ptr (c.ln i.toNat).d.cells):=by
 have:=ea_ln (c:=c) (i:=i.toNat) (by omega)
 rwa [In,show((i.toNat:Nat):Int)=i by omega] at this

theorem c35 (hp:p.Ok)(hc:c.Ok)(i:Int):FSpecR Tryz.prog 35 (.st bs) [p.d,c.d,I i] (.tup [I (dueR p c i).1,I (dueR p c i).2]):=by
 have h19:=c19 (bs:=bs) hp hc
 refine ku35.R rfl rfl ?_
 unfold u35
 simp only[ups_cons,ups_nil,List.cons_append,List.nil_append]
 cases hok:p.ok&&cardOk p c
 ·rw[hok] at h19
  replace h19:FSpecR Tryz.prog 19 (.st bs) [p.d,c.d] (I 2):=h19
  rw[show dueR p c i=(0,2) by simp[dueR,hok]]
  repeat' (first|(apply nrm;simp only[sbe];rfl)|(apply u_orT;rfl;exact rfl)|(apply u_iteT;rfl;exact rfl)|(apply u_chk;rfl)|(apply u_ev;rfl;simp only[sbe];rfl)|(apply u_call;rfl;rfl;exact h19;rfl;simp only[sbe];rfl)|exact u_ret rfl rfl)
 have hok1:=(Bool.and_eq_true _ _ ▸ hok:p.ok=true∧cardOk p c=true)
 have h:=cdOk hok1.2
 have hh:=Plan.ok_head hok1.1
 have hln:=h.len
 rw[hok] at h19
 replace h19:FSpecR Tryz.prog 19 (.st bs) [p.d,c.d] (I 0):=h19
 have h46:=c46 (bs:=bs) i 0 (p.n-1)
 cases hi:inR i 0 (p.n-1)
 ·rw[hi] at h46
  rw[show dueR p c i=(0,2) by simp[dueR,hi]]
  repeat' (first|(apply nrm;simp only[sbe];rfl)|(apply u_orT;rfl;exact rfl)|(apply u_iteT;rfl;exact rfl)|(apply u_chk;rfl)|(apply u_lenL;rfl;exact ln_it;simp only[sbe];rfl)|(apply u_sub;rfl;rfl;omega;simp only[sbe];rfl)|(apply u_ev;rfl;simp only[sbe];rfl)|(apply u_call;rfl;rfl;(·first|exact h19|exact h46);rfl;simp only[sbe];rfl)|(apply u_or;rfl)|exact u_ret rfl rfl|(intro hz;(try simp only[sbs] at hz)))
 have hi2:=inR_t hi
 rw[hi] at h46
 have h88:=c88 (bs:=bs) hok1.1 h (i:=i.toNat) (by omega)
 rw[In,show((i.toNat:Nat):Int)=i by omega] at h88
 unfold dueR
 rw[hok,hi]
 repeat' (first|(apply nrm;simp only[sbe];rfl)|(apply u_chk;rfl)|(apply u_eaddr;rfl;rfl;(·first|exact ea_itZ (by omega)|exact ea_lnZ (by omega));simp only[sbe];rfl)|(apply u_lenL;rfl;exact ln_it;simp only[sbe];rfl)|(apply u_sub;rfl;rfl;omega;simp only[sbe];rfl)|(apply u_ev;rfl;simp only[sbe];rfl)|(apply u_call;rfl;rfl;(·first|exact h19|exact h46|exact h88);rfl;simp only[sbe];rfl)|(apply u_or;rfl)|(apply u_ite;rfl;all_goals (intro hz;(try simp only[sbs] at hz);first|(exact absurd hz (by decide))|(exfalso;omega)|skip))|exact u_ret rfl rfl|(apply u_ret;rfl;first|exact rfl|(refine retB ?_)|(refine retI ?_)|(refine retD ?_))|(intro hz;(try simp only[sbs] at hz)))
 all_goals simp_all

theorem c36 (hp:p.Ok)(hc:c.Ok):FSpecR Tryz.prog 36 (.st bs) [p.d,c.d] (.tup [I (if(p.ok&&cardOk p c)=true then outI p c else 0),I (if(p.ok&&cardOk p c)=true then 0 else 2)]):=by
 have h19:=c19 (bs:=bs) hp hc
 refine ku36.R rfl rfl ?_
 unfold u36
 simp only[ups_cons,ups_nil,List.cons_append,List.nil_append]
 cases hok:p.ok&&cardOk p c
 ·rw[hok] at h19
  replace h19:FSpecR Tryz.prog 19 (.st bs) [p.d,c.d] (I 2):=h19
  repeat' (first|(apply u_iteT;rfl;exact rfl)|(apply u_chk;rfl)|(apply u_ev;rfl;simp only[sbe];rfl)|(apply u_call;rfl;rfl;exact h19;rfl;simp only[sbe];rfl)|exact u_ret rfl rfl)
 ·rw[hok] at h19
  replace h19:FSpecR Tryz.prog 19 (.st bs) [p.d,c.d] (I 0):=h19
  have hok1:=(Bool.and_eq_true _ _ ▸ hok:p.ok=true∧cardOk p c=true)
  repeat' (first|(apply u_iteF;rfl;exact rfl)|(apply u_chk;rfl)|(apply u_ev;rfl;simp only[sbe];rfl)|(apply u_call;rfl;rfl;(·first|exact h19|exact c89 hp hok1.1 (cdOk hok1.2));rfl;simp only[sbe];rfl)|exact u_ret rfl rfl)

theorem c9 (hk:FSpecR Tryz.prog 17 (.st bs) [] (B true))(hp:p.Ok)(hc:c.Ok)(i:Int):FSpecW Tryz.prog 9 (.st bs) [p.d,c.d,I i] (B true) (.st bs):=by
 have h16:=c16 (bs:=bs) (l:=[c]) (most:=1) (show 1≤maxLen by decide)
 have h35:=c35 (bs:=bs) hp hc i
 have h36:=c36 (bs:=bs) hp hc
 have h20:=c20 (bs:=bs) hp
 refine ku9.W rfl ?_
 unfold u9
 simp only[ups_cons,ups_nil,List.cons_append,List.nil_append]
 cases hok:p.ok
 ·rw[hok] at h36 h20
  rw[show dueR p c i=(0,2) by simp[dueR,hok]] at h35
  repeat' (first|(apply nrm;simp only[sbe];rfl)|(apply u_orT;rfl;exact rfl)|(apply u_chk;rfl)|(apply u_ev;rfl;simp only[sbe];rfl)|(apply u_call;rfl;rfl;(·first|exact c15|exact h16|exact h35|exact h36|exact h20|exact hk);rfl;simp only[sbe];rfl)|(apply u_or;rfl)|(apply u_and;rfl)|(apply u_ite;rfl;all_goals (intro hz;(try simp only[sbs] at hz);first|(exact absurd hz (by decide))|(exfalso;omega)|skip))|exact u_ret rfl rfl|(intro hz;(try simp only[sbs] at hz)))
  all_goals simp_all
 have h21:=c21 (bs:=bs) hp hc hok
 cases hcd:cardOk p c
 ·rw[hok,hcd] at h36
  rw[hok] at h20
  rw[hcd] at h21
  rw[show dueR p c i=(0,2) by simp[dueR,hcd]] at h35
  repeat' (first|(apply nrm;simp only[sbe];rfl)|(apply u_chk;rfl)|(apply u_ev;rfl;simp only[sbe];rfl)|(apply u_call;rfl;rfl;(·first|exact c15|exact h16|exact h35|exact h36|exact h20|exact h21|exact hk);rfl;simp only[sbe];rfl)|(apply u_or;rfl)|(apply u_and;rfl)|(apply u_ite;rfl;all_goals (intro hz;(try simp only[sbs] at hz);first|(exact absurd hz (by decide))|(exfalso;omega)|skip))|exact u_ret rfl rfl|(intro hz;(try simp only[sbs] at hz)))
  all_goals simp_all
 have h:=cdOk hcd
 have hln:=h.len
 rw[hok,hcd] at h36
 rw[hok] at h20
 rw[hcd] at h21
 have h37:=c37 (bs:=bs) hp hok h
 unfold dueR at h35
 rw[hok,hcd] at h35
 by_cases hi:0≤i∧i<p.n
 ·have h38:=c38 (bs:=bs) hok h (i:=i.toNat) (by omega)
  rw[In,show((i.toNat:Nat):Int)=i by omega] at h38
  rw[inR_i (x:=i) (by omega)] at h35
  cases hkd:(p.it i.toNat).kind==1
  ·rw[hkd] at h35
   repeat' (first|(apply nrm;simp only[sbe];rfl)|(apply u_iteF;rfl;exact rfl)|(apply u_chk;rfl)|(apply u_eaddr;rfl;rfl;(·exact ea_itZ (by omega));simp only[sbe];rfl)|(apply u_lenL;rfl;exact ln_it;simp only[sbe];rfl)|(apply u_ev;rfl;simp only[sbe];rfl)|(apply u_call;rfl;rfl;(·first|exact c15|exact h16|exact h35|exact h36|exact h20|exact h21|exact h37|exact hk);rfl;simp only[sbe];rfl)|(apply u_or;rfl)|(apply u_and;rfl)|(apply u_ite;rfl;all_goals (intro hz;(try simp only[sbs] at hz);first|(exact absurd hz (by decide))|(exfalso;omega)|skip))|exact u_ret rfl rfl|(apply u_ret;rfl;first|exact rfl|(refine retB ?_)|(refine retI ?_)|(refine retD ?_))|(intro hz;(try simp only[sbs] at hz)))
   all_goals simp_all
   all_goals (try omega)
  ·rw[hkd] at h35
   by_cases hm:(c.ln i.toNat).mark=2
   ·simp only[Bool.and_self,↓reduceIte,hm] at h35
    repeat' (first|(apply nrm;simp only[sbe];rfl)|(apply u_iteF;rfl;exact rfl)|(apply u_chk;rfl)|(apply u_eaddr;rfl;rfl;(·first|exact ea_itZ (by omega)|exact ea_lnZ (by omega));simp only[sbe];rfl)|(apply u_lenL;rfl;exact ln_it;simp only[sbe];rfl)|(apply u_ev;rfl;simp only[sbe];rfl)|(apply u_call;rfl;rfl;(·first|exact c15|exact h16|exact h35|exact h36|exact h20|exact h21|exact h37|exact hk);rfl;simp only[sbe];rfl)|(apply u_or;rfl)|(apply u_and;rfl)|(apply u_ite;rfl;all_goals (intro hz;(try simp only[sbs] at hz);first|(exact absurd hz (by decide))|(exfalso;omega)|skip))|exact u_ret rfl rfl|(apply u_ret;rfl;first|exact rfl|(refine retB ?_)|(refine retI ?_)|(refine retD ?_))|(intro hz;(try simp only[sbs] at hz)))
    all_goals simp_all
    all_goals (try omega)
   ·simp only[Bool.and_self,↓reduceIte,hm] at h35
    repeat' (first|(apply nrm;simp only[sbe];rfl)|(apply u_iteF;rfl;exact rfl)|(apply u_chk;rfl)|(apply u_eaddr;rfl;rfl;(·first|exact ea_itZ (by omega)|exact ea_lnZ (by omega));simp only[sbe];rfl)|(apply u_lenL;rfl;exact ln_it;simp only[sbe];rfl)|(apply u_ev;rfl;simp only[sbe];rfl)|(apply u_call;rfl;rfl;(·first|exact c15|exact h16|exact h35|exact h36|exact h20|exact h21|exact h37|exact h38|exact hk);rfl;simp only[sbe];rfl)|(apply u_or;rfl)|(apply u_and;rfl)|(apply u_ite;rfl;all_goals (intro hz;(try simp only[sbs] at hz);first|(exact absurd hz (by decide))|(exfalso;omega)|skip))|exact u_ret rfl rfl|(apply u_ret;rfl;first|exact rfl|(refine retB ?_)|(refine retI ?_)|(refine retD ?_))|(intro hz;(try simp only[sbs] at hz)))
    all_goals simp_all
    all_goals (try omega)
 ·rw[inR_n (x:=i) (by omega)] at h35
  have ho:(decide (i<0)||decide (i≥(p.n:Int)))=true:=by simp;omega
  repeat' (first|(apply nrm;simp only[sbe];rfl)|(apply u_orT;rfl;exact ho)|(apply u_iteF;rfl;exact rfl)|(apply u_chk;rfl)|(apply u_lenL;rfl;exact ln_it;simp only[sbe];rfl)|(apply u_ev;rfl;simp only[sbe];rfl)|(apply u_call;rfl;rfl;(·first|exact c15|exact h16|exact h35|exact h36|exact h20|exact h21|exact h37|exact hk);rfl;simp only[sbe];rfl)|(apply u_or;rfl)|(apply u_and;rfl)|(apply u_ite;rfl;all_goals (intro hz;(try simp only[sbs] at hz);first|(exact absurd hz (by decide))|(exfalso;omega)|skip))|exact u_ret rfl rfl|(apply u_ret;rfl;first|exact rfl|(refine retB ?_)|(refine retI ?_)|(refine retD ?_))|(intro hz;(try simp only[sbs] at hz)))
  all_goals simp_all
  all_goals (try omega)

end Go.Am.Sc
