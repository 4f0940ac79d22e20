/-
  Several texts, one behind the other.
-/
import Derived.Test.YthkepocejfghcaaGreatScCfgtoScAct
import Derived.Test.YthkepocejfghcaaGreatAmFntoAmTabK
import Derived.Test.YthkepocejfghcaaGreatAmKilltoAmOut
import Derived.Shelf.Sort.Plain
import Derived.Ground.Names2Prog
import Derived.Shelf.Slices.Clone
import Derived.Shelf.Slices.In.SortNone
import Derived.Test.YthkepocejfghcaaGreatProg
set_option linter.unusedSimpArgs false
set_option linter.unusedVariables false
namespace Go.Am.Sc
section
open Go.Proofs
set_option maxRecDepth 100000
set_option maxHeartbeats 4000000

variable {bs:List D}

theorem Ft (x lo hi:Int):aP Tryz.prog 46 (.st bs) [I x,I lo,I hi] (B (gR x lo hi)):=by
 refine akA.R rfl rfl ?_
 unfold u46
 simp only[aC,aG,List.cons_append,List.nil_append]
 repeat' (first|(apply bp;simp only[ai];rfl)|(apply aD;rfl;simp only[ai];rfl)|(apply bg;rfl)|exact aq rfl rfl|(intro hz;(try simp only[bA] at hz)))

theorem MG (x lo hi:Int):aP Tryz.prog 49 (.st bs) [I x,I lo,I hi] (B (gR x lo hi)):=by
 refine akx.R rfl rfl ?_
 unfold u49
 simp only[aC,aG,List.cons_append,List.nil_append]
 repeat' (first|(apply bp;simp only[ai];rfl)|(apply aD;rfl;simp only[ai];rfl)|(apply bg;rfl)|exact aq rfl rfl|(intro hz;(try simp only[bA] at hz)))

attribute [local irreducible] gR

def fi {α:Type}(P:α→Bool)(l:List α):Int:=match l.findIdx? P with
 | some i=>i
 | none=>-1

theorem VX {α:Type}{P:α→Bool}{l:List α}{i:Nat}(hi:i<l.length)(hP:P l[i]=true)(hn:∀k (h:k<i),P (l[k]'(by omega))=false):fi P l=i:=by
 have:l.findIdx? P=some i:=by
  rw[List.findIdx?_eq_some_iff_getElem]
  exact⟨hi,hP,fun j hj=>by simp[hn j hj]⟩
 simp[fi,this]

theorem VW {α:Type}{P:α→Bool}{l:List α}(hn:∀a,a∈l→P a=false):fi P l=-1:=by
 have:l.findIdx? P=none:=by
  rw[List.findIdx?_eq_none_iff]
  exact hn
 simp[fi,this]

theorem Ox {α:Type}(P:α→Bool)(l:List α):decide (fi P l≥0)=l.any P:=by
 cases h:l.findIdx? P with
 | none=>
  have h2:=List.findIdx?_eq_none_iff.1 h
  have:l.any P=false:=by
   rw[List.any_eq_false]
   intro x hx
   simp[h2 x hx]
  rw[this]
  simp[fi,h]
 | some i=>
  obtain⟨h1,h2,_⟩:=List.findIdx?_eq_some_iff_getElem.1 h
  have:l.any P=true:=List.any_eq_true.2 ⟨_,List.getElem_mem h1,h2⟩
  rw[this]
  simp[fi,h]


theorem am4 {P:Int→Bool}{f:Nat}{us cs:List D}{l:List Int}(hL:l.length≤maxLen)(hc:bJ Tryz.prog f=true)(hf:∀x,x∈l→aP Tryz.prog f (.st bs) (us++[I x]++cs) (B (P x))):aP Tryz.prog 126 (.st bs) [.bq (l.map I),.fn f us cs] (I (fi P l)):=by
 have hL':l.length≤9223372036854775807:=hL
 refine aeQ.R rfl rfl ?_
 unfold ada
 simp only[aC,aG,List.cons_append,List.nil_append]
 repeat' (first|(apply ar;rfl;exact ak;simp only[ai];rfl)|refine au ?_)
 refine bf (fun i=>[I i]) (fun i=>∀k (h:k<i) (h2:k<l.length),P l[k]=false) l.length rfl (fun _=>rfl) (fun k h=>absurd h (Nat.not_lt_zero _)) (fun i hi hJ R hR=>?_) (fun hJ R=>?_)
 ·have ku:=hf l[i] (List.getElem_mem hi)
  have gH:decide ((i:Int)<(l.length:Int))=true:=by simp;omega
  cases hP:P l[i]
  ·rw[hP] at ku
   repeat' (first|(apply bp;simp only[ai];rfl)|(apply aH;rfl;exact gH)|(apply aK;rfl;exact rfl)|(apply aA;rfl;rfl;exact b_ hi rfl;simp only[ai];rfl)|(apply bM;rfl;rfl;omega;simp only[ai];rfl)|(apply aD;rfl;simp only[ai];rfl)|(apply fJ;rfl;exact hc;rfl;rfl;exact ku;rfl;simp only[ai];rfl)|refine au ?_|(apply av;rfl;rfl)|refine Qav ?_|refine kj rfl ?_)
   refine hR fun k hk h2=>?_
   rcases Nat.lt_or_ge k i with h3 | h3
   ·exact hJ k h3 h2
   ·have e:k=i:=by omega
    subst e
    exact hP
  ·rw[hP] at ku
   repeat' (first|(apply bp;simp only[ai];rfl)|(apply aH;rfl;(·first|exact gH|exact rfl))|(apply aA;rfl;rfl;exact b_ hi rfl;simp only[ai];rfl)|(apply aD;rfl;simp only[ai];rfl)|(apply fJ;rfl;exact hc;rfl;rfl;exact ku;rfl;simp only[ai];rfl)|refine au ?_|(apply aq;rfl;first|exact rfl|(refine bH ?_)|(refine bF ?_)|(refine bG ?_)))
   exact(VX hi hP fun k hk=>hJ k hk (by omega)).symm
 ·repeat' (first|(apply bp;simp only[ai];rfl)|(apply aD;rfl;simp only[ai];rfl)|(apply av;rfl;rfl)|refine Qav ?_|(refine aB (by decide) ?_)|refine kj rfl ?_|(apply aX;rfl;all_goals (intro hz;(try simp only[bA] at hz);first|(exact absurd hz (by decide))|(exfalso;omega)|skip))|(apply aq;rfl;first|exact rfl|(refine bH ?_)|(refine bF ?_)|(refine bG ?_)))
  refine(VW fun a ha=>?_).symm
  obtain⟨k,hk,rfl⟩:=List.mem_iff_getElem.1 ha
  exact hJ k hk hk


theorem c99 {P:Int→Bool}{f:Nat}{us cs:List D}{l:List Int}(hL:l.length≤maxLen)(hc:bJ Tryz.prog f=true)(hf:∀x,x∈l→aP Tryz.prog f (.st bs) (us++[I x]++cs) (B (P x))):aP Tryz.prog 99 (.st bs) [.bq (l.map I),.fn f us cs] (B (l.any P)):=by
 refine aj5.R rfl rfl ?_
 unfold u99
 simp only[aC,aG,List.cons_append,List.nil_append]
 repeat' (first|(apply aD;rfl;simp only[ai];rfl)|(apply aF;rfl;rfl;exact am4 hL hc hf;rfl;simp only[ai];rfl)|(apply aq;rfl;first|exact rfl|(refine bH ?_)|(refine bF ?_)|(refine bG ?_)))
 exact Ox P l

theorem anh (x most:Int):aP Tryz.prog 100 (.st bs) [I x,.ptr [I most]] (B (!gR x 0 most)):=by
 refine ae7.R rfl rfl ?_
 unfold adt
 simp only[aC,aG,List.cons_append,List.nil_append]
 repeat' (first|(apply aD;rfl;simp only[ai];rfl)|(apply aF;rfl;rfl;exact Ft _ _ _;rfl;simp only[ai];rfl)|exact aq rfl rfl)

theorem Cv {α:Type}(P:α→Bool):∀l:List α,(!(l.any fun x=>!P x))=l.all P
 | []=>rfl
 | x :: l=>by simp[Cv P l]

theorem ZR {l:List Int}{least many most:Int}(hL:l.length≤maxLen):aP Tryz.prog 47 (.st bs) [Is l,I least,I many,I most] (B (fV l least many 0 most)):=by
 have hf:aP Tryz.prog 99 (.st bs) [.bq (l.map I),.fn 100 [] [.ptr [I most]]] (B (l.any fun x=>!gR x 0 most)):=c99 (us:=[]) (cs:=[.ptr [I most]]) hL (by kernel_rfl) fun x _=>anh x most
 refine akz.R rfl rfl ?_
 unfold u47
 simp only[aC,aG,List.cons_append,List.nil_append]
 repeat' (first|(apply bp;simp only[ai];rfl)|(apply ar;rfl;exact ak;simp only[ai];rfl)|(apply aD;rfl;simp only[ai];rfl)|(apply aF;rfl;rfl;(·first|exact Ft _ _ _|exact hf);rfl;simp only[ai];rfl)|(apply bg;rfl)|exact aq rfl rfl|(apply aq;rfl;first|exact rfl|(refine bH ?_)|(refine bF ?_)|(refine bG ?_))|(intro hz;(try simp only[bA] at hz)))
 rw[Cv,fV,Bool.and_comm]

theorem c50 {l:List Int}{least most lo hi:Int}(hL:l.length≤maxLen):aP Tryz.prog 50 (.st bs) [Is l,I least,I most,I lo,I hi] (B (fV l least most lo hi)):=by
 have hL':l.length≤9223372036854775807:=hL
 refine akw.R rfl rfl ?_
 unfold u50
 simp only[aC,aG,List.cons_append,List.nil_append]
 repeat' ((with_reducible refine au ?_))
 refine bf (fun i=>[I i]) (fun i=>∀k (h:k<i) (h2:k<l.length),gR l[k] lo hi=true) l.length rfl (fun _=>rfl) (fun k h=>absurd h (Nat.not_lt_zero _)) (fun i hj hJ R hR=>?_) (fun hJ R=>?_)
 ·have gH:decide ((i:Int)<(l.length:Int))=true:=by simp;omega
  cases hP:gR l[i] lo hi
  ·have ku:=MG (bs:=bs) l[i] lo hi
   rw[hP] at ku
   repeat' (first|(apply bp;simp only[ai];rfl)|(apply aH;rfl;(·first|exact gH|exact rfl))|(apply aA;rfl;rfl;exact b_ hj rfl;simp only[ai];rfl)|(apply ar;rfl;exact ak;simp only[ai];rfl)|(apply aD;rfl;simp only[ai];rfl)|(apply aF;rfl;rfl;exact ku;rfl;simp only[ai];rfl)|refine au ?_|(apply aq;rfl;first|exact rfl|(refine bH ?_)|(refine bF ?_)|(refine bG ?_)))
   rw[fV,Bool.and_eq_false_iff.2 (.inl (List.all_eq_false.2 ⟨_,List.getElem_mem hj,by simp[hP]⟩))]
  ·have ku:=MG (bs:=bs) l[i] lo hi
   rw[hP] at ku
   repeat' (first|(apply bp;simp only[ai];rfl)|(apply aH;rfl;exact gH)|(apply aK;rfl;exact rfl)|(apply aA;rfl;rfl;exact b_ hj rfl;simp only[ai];rfl)|(apply ar;rfl;exact ak;simp only[ai];rfl)|(apply bM;rfl;rfl;omega;simp only[ai];rfl)|(apply aD;rfl;simp only[ai];rfl)|(apply aF;rfl;rfl;exact ku;rfl;simp only[ai];rfl)|refine au ?_|(apply av;rfl;rfl)|refine Qav ?_|refine kj rfl ?_)
   refine hR fun k hk h2=>?_
   rcases Nat.lt_or_ge k i with h3 | h3
   ·exact hJ k h3 h2
   ·have e:k=i:=by omega
    subst e
    exact hP
 ·repeat' (first|(apply bp;simp only[ai];rfl)|(apply ar;rfl;exact ak;simp only[ai];rfl)|(apply aD;rfl;simp only[ai];rfl)|(apply aF;rfl;rfl;exact MG _ _ _;rfl;simp only[ai];rfl)|(apply av;rfl;rfl)|refine Qav ?_|(refine aB (by decide) ?_)|refine kj rfl ?_|(apply aX;rfl;all_goals (intro hz;(try simp only[bA] at hz);first|(exact absurd hz (by decide))|(exfalso;omega)|skip))|(apply aq;rfl;first|exact rfl|(refine bH ?_)|(refine bF ?_)|(refine bG ?_)))
  rw[fV,List.all_eq_true.2 fun a ha=>?_,Bool.true_and]
  obtain⟨k,hk,rfl⟩:=List.mem_iff_getElem.1 ha
  exact hJ k hk hk

theorem c48 (x:Item)(l:gL):aP Tryz.prog 48 (.st bs) [x.d,l.d] (B (dQ x l)):=by
 refine aky.R rfl rfl ?_
 unfold u48
 simp only[aC,aG,List.cons_append,List.nil_append]
 repeat' (first|(apply bp;simp only[ai];rfl)|(apply aN;rfl)|(apply aD;rfl;simp only[ai];rfl)|(apply aF;rfl;rfl;exact Ft _ _ _;rfl;simp only[ai];rfl)|(apply bL;rfl)|(apply bg;rfl)|refine au ?_|(apply av;rfl;rfl)|refine Qav ?_|refine kj rfl ?_|(apply aX;rfl;all_goals (intro hz;(try simp only[bA] at hz);first|(exact absurd hz (by decide))|(exfalso;omega)|skip))|exact aq rfl rfl|(apply aq;rfl;first|exact rfl|(refine bH ?_)|(refine bF ?_)|(refine bG ?_))|(intro hz;(try simp only[bA] at hz)))
 all_goals (unfold dQ;rw[Bool.eq_iff_iff];cases hj:l.jump <;> cases h1:gR l.minute 0 100000 <;> cases h2:gR l.time 0 36000000 <;> simp_all <;> omega)

theorem c52 (x:Item)(l:gL):aP Tryz.prog 52 (.st bs) [x.d,l.d] (B (dQ x l)):=by
 refine aku.R rfl rfl ?_
 unfold u52
 simp only[aC,aG,List.cons_append,List.nil_append]
 repeat' (first|(apply bp;simp only[ai];rfl)|(apply aN;rfl)|(apply aD;rfl;simp only[ai];rfl)|(apply aF;rfl;rfl;exact MG _ _ _;rfl;simp only[ai];rfl)|(apply bL;rfl)|(apply bg;rfl)|(apply aX;rfl;all_goals (intro hz;(try simp only[bA] at hz);first|(exact absurd hz (by decide))|(exfalso;omega)|skip))|exact aq rfl rfl|(apply aq;rfl;first|exact rfl|(refine bH ?_)|(refine bF ?_)|(refine bG ?_))|(intro hz;(try simp only[bA] at hz)))
 all_goals (unfold dQ;rw[Bool.eq_iff_iff];cases hj:l.jump <;> cases h1:gR l.minute 0 100000 <;> cases h2:gR l.time 0 36000000 <;> simp_all <;> omega)

theorem c51 {p:aL}(hn:0<p.n)(hN:p.n≤4000000000000000000)(hl:-9000000000000000000≤(p.it (p.n-1)).iy∧(p.it (p.n-1)).iy≤9000000000000000000):aP Tryz.prog 51 (.st bs) [p.d] (I p.js):=by
 have IS:D.aj 4 (.bq (p.items.map Item.d)) (I ((p.n:Int)-1))=some (.ptr (p.it (p.n-1)).d.cells):=by
  rw[show(p.n:Int)-1=((p.n-1:Nat):Int) by omega]
  exact r6 (aL.s6 (by omega)) rfl
 have qz:D.aR (.bq (p.items.map Item.d))=some (I p.n):=ak
 refine akv.R rfl rfl ?_
 unfold u51
 simp only[aC,aG,List.cons_append,List.nil_append]
 repeat' (first|(apply aN;rfl)|(apply aA;rfl;rfl;exact IS;simp only[ai];rfl)|(apply ar;rfl;exact qz;simp only[ai];rfl)|(apply bM;rfl;rfl;omega;simp only[ai];rfl)|(apply cC;rfl;rfl;omega;simp only[ai];rfl)|(apply aD;rfl;simp only[ai];rfl)|exact aq rfl rfl)
end

section
open Go.Proofs
set_option maxRecDepth 100000
set_option maxHeartbeats 4000000

attribute [local irreducible] gR fV

variable {bs:List D} {p:aL}

theorem dR {i:Nat}(h:i<p.n):D.aj 4 (.bq (p.items.map Item.d)) (In i)=some (.ptr (p.it i).d.cells):=r6 (aL.s6 h) rfl
theorem cT:D.aR (.bq (p.items.map Item.d))=some (I p.n):=ak

theorem Pw {a b:Int}(ha:i64 a)(hb:0≤b∧b≤5):∃w,D.bin .sub .int (I a) (I b)=some (I w)∧gR w 0 1=gR (a-b) 0 1:=by
 refine⟨IntKind.i64.wrap (a-b),rfl,?_⟩
 obtain⟨h1,h2⟩:=ha
 by_cases h:-9223372036854775808≤a-b
 ·rw[wrap64 ⟨h,by omega⟩]
 ·have e:IntKind.i64.wrap (a-b)=a-b+18446744073709551616:=by
   have e:(a-b) % 2 ^ 64=a-b+18446744073709551616:=by omega
   simp only[IntKind.wrap,IntKind.bits,IntKind.signed,Bool.true_and,decide_eq_true_eq,e]
   rw[if_neg (by omega)]
  rw[e,Ej (by omega),Ej (by omega)]


theorem c18 (hp:p.Ok):aP Tryz.prog 18 (.st bs) [p.d] (I (if p.ok=true then 0 else 2)):=by
 have hL:=hp.UH
 have abG:aP Tryz.prog 47 (.st bs) [.bq [I p.late,I p.early,I p.mG],I 3,I 3,I 36000000] (B (gR p.late 0 36000000&&(gR p.early 0 36000000&&gR p.mG 0 36000000))):=by
  rw[←ahx]
  exact ZR (l:=[_,_,_]) (show 3≤maxLen by decide)
 have abF:aP Tryz.prog 47 (.st bs) [.bq [I p.jW,I p.jX],I 2,I 2,I 1440] (B (gR p.jW 0 1440&&gR p.jX 0 1440)):=by
  rw[←ahy]
  exact ZR (l:=[_,_]) (show 2≤maxLen by decide)
 have hmi:p.items.length=p.n:=rfl
 refine akQ.R rfl rfl ?_
 unfold u18
 simp only[aC,aG,List.cons_append,List.nil_append]
 cases hn:gR p.n 1 100
 ·have hc:=Ft (bs:=bs) p.n 1 100
  rw[hn] at hc
  repeat' (first|(apply bp;simp only[ai];rfl)|(apply iF;rfl;exact rfl)|(apply aH;rfl;exact rfl)|(apply aN;rfl)|(apply ar;rfl;exact cT;simp only[ai];rfl)|(apply aD;rfl;simp only[ai];rfl)|(apply aF;rfl;rfl;exact hc;rfl;simp only[ai];rfl)|(apply aq;rfl;first|exact rfl|(refine bH ?_)|(refine bF ?_)|(refine bG ?_)))
  rw[if_neg (by simp[aL.ok,aL.og,hn])]
 have hn2:=iG hn
 have hc:=Ft (bs:=bs) p.n 1 100
 rw[hn] at hc
 have Vs:D.aj 4 (.bq (p.items.map Item.d)) (I 0)=some (.ptr (p.it 0).d.cells):=dR (i:=0) (by omega)
 repeat' (first|(apply bp;simp only[ai];rfl)|(apply aN;rfl)|(apply aA;rfl;rfl;exact Vs;simp only[ai];rfl)|(apply ar;rfl;exact cT;simp only[ai];rfl)|(apply aD;rfl;simp only[ai];rfl)|(apply aF;rfl;rfl;(·first|exact hc|exact Ft _ _ _);rfl;simp only[ai];rfl)|(apply bL;rfl)|refine au ?_|(apply aX;rfl;all_goals (intro hz;(try simp only[bA] at hz);first|(exact absurd hz (by decide))|(exfalso;omega)|skip))|exact aq rfl rfl|(apply aq;rfl;first|exact rfl|(refine bH ?_)|(refine bF ?_)|(refine bG ?_))|(intro hz;(try simp only[bA] at hz)))
 ·rw[if_neg]
  rcases hz with hz | hz <;> simp[aL.ok,aL.og,hz]
 have hJ0:(p.it 0).iy=0:=by simp_all
 have dG:gR p.dW 1 20=true:=by simp_all
 have Vl:p.og=true:=by simp[aL.og,hn,dG,hJ0]
 refine bf (fun i=>[In i]) (fun i=>∀k,k<i→p.yY k=true) p.n rfl (fun _=>rfl) (fun k h=>absurd h (Nat.not_lt_zero _)) (fun i hi hJ R hR=>?_) (fun hJ R=>?_)
 ·have gH:decide ((i:Int)<(p.n:Int))=true:=by simp;omega
  have abg:(p.it i).Ok:=hp.items _ (List.mem_of_getElem? (aL.s6 hi))
  by_cases h0:i=0
  ·have xV:decide ((i:Int) > 0)=false:=by simp[h0]
   repeat' (first|(apply bp;simp only[ai];rfl)|(apply ir;rfl;exact xV)|(apply aH;rfl;exact gH)|(apply aN;rfl)|(apply aA;rfl;rfl;exact dR hi;simp only[ai];rfl)|(apply aW;rfl;omega;simp only[ai];rfl)|(apply aD;rfl;simp only[ai];rfl)|(apply aF;rfl;rfl;exact Ft _ _ _;rfl;simp only[ai];rfl)|(apply bL;rfl)|refine au ?_|(apply av;rfl;rfl)|refine Qav ?_|refine kj rfl ?_|(apply aX;rfl;all_goals (intro hz;(try simp only[bA] at hz);first|(exact absurd hz (by decide))|(exfalso;omega)|skip))|exact aq rfl rfl|(apply aq;rfl;first|exact rfl|(refine bH ?_)|(refine bF ?_)|(refine bG ?_))|(intro hz;(try simp only[bA] at hz)))
   all_goals first | (refine hR fun k hk=>?_;rcases Nat.lt_or_ge k i with h3 | h3;exact hJ k h3;rw[show k=i by omega]) | (rw[if_neg];rw[Bool.not_eq_true];apply aL.PX;refine aL.vO hi ?_)
   all_goals (cases h2:gR (p.it i).target 0 1440 <;> cases h3:(p.it i).free <;> simp_all [aL.yY] <;> omega)
  ·have xV:1≤i:=by omega
   have Zx:=aL.Im hJ0 (i:=i-1) fun k hk=>hJ k (by omega)
   obtain⟨w,hw,he⟩:=Pw abg.iy Zx
   have MD:=Ft (bs:=bs) w 0 1
   rw[he] at MD
   repeat' (first|(apply bp;simp only[ai];rfl)|(apply aH;rfl;exact gH)|(apply aN;rfl)|(apply aA;rfl;rfl;(·first|exact dR hi|exact dR (by omega));simp only[ai];rfl)|(apply eX;rfl;rfl;exact hw;simp only[ai];rfl)|(apply aW;rfl;omega;simp only[ai];rfl)|(apply bZ;rfl;omega;simp only[ai];rfl)|(apply aD;rfl;simp only[ai];rfl)|(apply aF;rfl;rfl;(·first|exact MD|exact Ft _ _ _);rfl;simp only[ai];rfl)|(apply bL;rfl)|(apply bg;rfl)|refine au ?_|(apply av;rfl;rfl)|refine Qav ?_|refine kj rfl ?_|(apply aX;rfl;all_goals (intro hz;(try simp only[bA] at hz);first|(exact absurd hz (by decide))|(exfalso;omega)|skip))|exact aq rfl rfl|(apply aq;rfl;first|exact rfl|(refine bH ?_)|(refine bF ?_)|(refine bG ?_))|(intro hz;(try simp only[bA] at hz)))
   all_goals first | (refine hR fun k hk=>?_;rcases Nat.lt_or_ge k i with h3 | h3;exact hJ k h3;rw[show k=i by omega]) | (rw[if_neg];rw[Bool.not_eq_true];apply aL.PX;refine aL.vO hi ?_)
   all_goals (cases h1:gR ((p.it i).iy-(p.it (i-1)).iy) 0 1 <;> cases h2:gR (p.it i).target 0 1440 <;> cases h3:(p.it i).free <;> simp_all [aL.yY] <;> omega)
 ·have hI:p.oN=true:=aL.K9 fun i hi=>hJ i hi
  have hlf:decide ((p.n:Int)<(p.n:Int))=false:=by simp
  have hj:=ZR (bs:=bs) (l:=p.jumps) (least:=1) (many:=10) (most:=36000000) hp.jumps.2
  have hpt:=ZR (bs:=bs) (l:=p.points) (least:=0) (many:=60) (most:=1000) hp.points.2
  have hex:=ZR (bs:=bs) (l:=p.extra) (least:=0) (many:=60) (most:=1000) hp.extra.2
  cases RQ:gR p.power (-1) (p.n-1)
  ·have R1:=Ft (bs:=bs) p.power (-1) (p.n-1)
   rw[RQ] at R1
   repeat' (first|(apply bp;simp only[ai];rfl)|(apply iF;rfl;exact rfl)|(apply aH;rfl;exact rfl)|(apply aK;rfl;exact hlf)|(apply aN;rfl)|(apply ar;rfl;exact cT;simp only[ai];rfl)|(apply cC;rfl;rfl;omega;simp only[ai];rfl)|(apply aD;rfl;simp only[ai];rfl)|(apply aF;rfl;rfl;(·first|exact R1|exact Ft _ _ _|exact abG|exact abF|exact hj|exact hpt|exact hex);rfl;simp only[ai];rfl)|(apply bL;rfl)|(apply av;rfl;rfl)|refine Qav ?_|(refine aB (by decide) ?_)|refine kj rfl ?_|(apply aX;rfl;all_goals (intro hz;(try simp only[bA] at hz);first|(exact absurd hz (by decide))|(exfalso;omega)|skip))|exact aq rfl rfl|(apply aq;rfl;first|exact rfl|(refine bH ?_)|(refine bF ?_)|(refine bG ?_))|(intro hz;(try simp only[bA] at hz)))
   all_goals simp[aL.ok,aL.kg,RQ]
  have aln:=iG RQ
  have R1:=Ft (bs:=bs) p.power (-1) (p.n-1)
  rw[RQ] at R1
  by_cases hneg:p.power<0
  ·have hpf:decide (p.power≥0)=false:=by simp;omega
   repeat' (first|(apply bp;simp only[ai];rfl)|(apply ir;rfl;exact hpf)|(apply aK;rfl;exact hlf)|(apply aN;rfl)|(apply ar;rfl;exact cT;simp only[ai];rfl)|(apply cC;rfl;rfl;omega;simp only[ai];rfl)|(apply aD;rfl;simp only[ai];rfl)|(apply aF;rfl;rfl;(·first|exact R1|exact Ft _ _ _|exact abG|exact abF|exact hj|exact hpt|exact hex);rfl;simp only[ai];rfl)|(apply bL;rfl)|(apply av;rfl;rfl)|refine Qav ?_|(refine aB (by decide) ?_)|refine kj rfl ?_|(apply aX;rfl;all_goals (intro hz;(try simp only[bA] at hz);first|(exact absurd hz (by decide))|(exfalso;omega)|skip))|exact aq rfl rfl|(apply aq;rfl;first|exact rfl|(refine bH ?_)|(refine bF ?_)|(refine bG ?_))|(intro hz;(try simp only[bA] at hz)))
   all_goals first
   |(rw[if_neg];intro h;simp only[aL.ok,aL.iZ,aL.kg,aL.uA,Bool.and_eq_true,Bool.or_eq_true,decide_eq_true_eq,beq_iff_eq] at h;simp_all <;> omega)
   |(rw[if_pos];simp_all [aL.ok,aL.iZ,aL.kg,aL.uA];done)
  ·have hpe:D.aj 4 (.bq (p.items.map Item.d)) (I p.power)=some (.ptr (p.it p.power.toNat).d.cells):=by
    have:=dR (p:=p) (i:=p.power.toNat) (by omega)
    rwa [In,show(p.power.toNat:Int)=p.power by omega] at this
   repeat' (first|(apply bp;simp only[ai];rfl)|(apply aK;rfl;exact hlf)|(apply aN;rfl)|(apply aA;rfl;rfl;exact hpe;simp only[ai];rfl)|(apply ar;rfl;exact cT;simp only[ai];rfl)|(apply cC;rfl;rfl;omega;simp only[ai];rfl)|(apply aD;rfl;simp only[ai];rfl)|(apply aF;rfl;rfl;(·first|exact R1|exact Ft _ _ _|exact abG|exact abF|exact hj|exact hpt|exact hex);rfl;simp only[ai];rfl)|(apply bL;rfl)|(apply bg;rfl)|(apply av;rfl;rfl)|refine Qav ?_|(refine aB (by decide) ?_)|refine kj rfl ?_|(apply aX;rfl;all_goals (intro hz;(try simp only[bA] at hz);first|(exact absurd hz (by decide))|(exfalso;omega)|skip))|exact aq rfl rfl|(apply aq;rfl;first|exact rfl|(refine bH ?_)|(refine bF ?_)|(refine bG ?_))|(intro hz;(try simp only[bA] at hz)))
   all_goals first
   |(rw[if_neg];intro h;simp only[aL.ok,aL.iZ,aL.kg,aL.uA,Bool.and_eq_true,Bool.or_eq_true,decide_eq_true_eq,beq_iff_eq] at h;simp_all <;> omega)
   |(rw[if_pos];simp_all [aL.ok,aL.iZ,aL.kg,aL.uA];done)
end

section
open Go.Proofs
set_option maxRecDepth 100000
set_option maxHeartbeats 4000000

attribute [local irreducible] gR fV

variable {bs:List D} {p:aL}



theorem ZS (hp : p.Ok) : aP Tryz.prog 20 (.st bs) [p.d] (B p.ok) := by
  have hL := hp.UH
  have hmi : p.items.length = p.n := rfl
  refine akO.R rfl rfl ?_
  unfold u20
  simp only [aC, aG, List.cons_append, List.nil_append]
  cases hn : gR p.n 1 100
  · have hc := MG (bs := bs) p.n 1 100
    rw [hn] at hc
    repeat' (first | ((with_reducible apply bp); (· simp only [ai]; rfl)) | ((with_reducible apply iF); (· rfl); (· exact rfl)) | ((with_reducible apply aH); (· rfl); (· exact rfl)) | ((with_reducible apply aN); (· rfl)) | ((with_reducible apply ar); (· rfl); (· exact cT); (· simp only [ai]; rfl)) | ((with_reducible apply aD); (· rfl); (· simp only [ai]; rfl)) | ((with_reducible apply aF); (· rfl); (· rfl); (· exact hc); (· rfl); (· simp only [ai]; rfl)) | ((with_reducible apply aq); (· rfl); first | exact rfl | (refine bH ?_) | (refine bF ?_) | (refine bG ?_)))
    simp [aL.ok, aL.og, hn]
  have hn2 := iG hn
  have hc := MG (bs := bs) p.n 1 100
  rw [hn] at hc
  have Vs : D.aj 4 (.bq (p.items.map Item.d)) (I 0) = some (.ptr (p.it 0).d.cells) := dR (i := 0) (by omega)
  repeat' (first | ((with_reducible apply bp); (· simp only [ai]; rfl)) | ((with_reducible apply aN); (· rfl)) | ((with_reducible apply aA); (· rfl); (· rfl); (· exact Vs); (· simp only [ai]; rfl)) | ((with_reducible apply ar); (· rfl); (· exact cT); (· simp only [ai]; rfl)) | ((with_reducible apply aD); (· rfl); (· simp only [ai]; rfl)) | ((with_reducible apply aF); (· rfl); (· rfl); (· first | exact hc | exact MG _ _ _); (· rfl); (· simp only [ai]; rfl)) | ((with_reducible apply bL); (· rfl)) | (with_reducible refine au ?_) | ((with_reducible apply aX); (· rfl); all_goals (intro hz; (try simp only [bA] at hz); first | (exact absurd hz (by decide)) | (exfalso; omega) | skip)) | (with_reducible exact aq rfl rfl) | ((with_reducible apply aq); (· rfl); first | exact rfl | (refine bH ?_) | (refine bF ?_) | (refine bG ?_)) | ((with_reducible intro hz); (try simp only [bA] at hz)))
  · rcases hz with hz | hz <;> simp [aL.ok, aL.og, hz]
  have hJ0 : (p.it 0).iy = 0 := by simp_all
  have dG : gR p.dW 1 20 = true := by simp_all
  have Vl : p.og = true := by simp [aL.og, hn, dG, hJ0]
  refine bf (fun i => [In i]) (fun i => ∀ k, k < i → p.yY k = true) p.n rfl (fun _ => rfl) (fun k h => absurd h (Nat.not_lt_zero _)) (fun i hi hJ R hR => ?_) (fun hJ R => ?_)
  · have gH : decide ((i : Int) < (p.n : Int)) = true := by simp; omega
    have abg : (p.it i).Ok := hp.items _ (List.mem_of_getElem? (aL.s6 hi))
    by_cases h0 : i = 0
    · have xV : decide ((i : Int) > 0) = false := by simp [h0]
      repeat' (first | ((with_reducible apply bp); (· simp only [ai]; rfl)) | ((with_reducible apply ir); (· rfl); (· exact xV)) | ((with_reducible apply aH); (· rfl); (· exact gH)) | ((with_reducible apply aN); (· rfl)) | ((with_reducible apply aA); (· rfl); (· rfl); (· exact dR hi); (· simp only [ai]; rfl)) | ((with_reducible apply ar); (· rfl); (· exact cT); (· simp only [ai]; rfl)) | ((with_reducible apply aW); (· rfl); (· omega); (· simp only [ai]; rfl)) | ((with_reducible apply aD); (· rfl); (· simp only [ai]; rfl)) | ((with_reducible apply aF); (· rfl); (· rfl); (· exact MG _ _ _); (· rfl); (· simp only [ai]; rfl)) | ((with_reducible apply bL); (· rfl)) | ((with_reducible apply bg); (· rfl)) | (with_reducible refine au ?_) | ((with_reducible apply av); (· rfl); (· rfl)) | (with_reducible refine Qav ?_) | (with_reducible refine kj rfl ?_) | ((with_reducible apply aX); (· rfl); all_goals (intro hz; (try simp only [bA] at hz); first | (exact absurd hz (by decide)) | (exfalso; omega) | skip)) | (with_reducible exact aq rfl rfl) | ((with_reducible apply aq); (· rfl); first | exact rfl | (refine bH ?_) | (refine bF ?_) | (refine bG ?_)) | ((with_reducible intro hz); (try simp only [bA] at hz)))
      all_goals first | (refine hR fun k hk => ?_; rcases Nat.lt_or_ge k i with h3 | h3; exact hJ k h3; rw [show k = i by omega]) | (apply Eq.symm; apply aL.PX; refine aL.vO hi ?_)
      all_goals (by_cases k1 : (p.it i).kind = 1 <;> by_cases k2 : (p.it i).kind = 2 <;> by_cases k3 : (p.it i).target = 0 <;> cases h2 : gR (p.it i).target 0 1440 <;> cases h3 : (p.it i).free <;> simp_all [aL.yY] <;> omega)
    · have xV : 1 ≤ i := by omega
      have Zx := aL.Im hJ0 (i := i - 1) fun k hk => hJ k (by omega)
      obtain ⟨w, hw, he⟩ := Pw abg.iy Zx
      have MD := MG (bs := bs) w 0 1
      rw [he] at MD
      repeat' (first | ((with_reducible apply bp); (· simp only [ai]; rfl)) | ((with_reducible apply aH); (· rfl); (· exact gH)) | ((with_reducible apply aN); (· rfl)) | ((with_reducible apply aA); (· rfl); (· rfl); (· first | exact dR hi | exact dR (by omega)); (· simp only [ai]; rfl)) | ((with_reducible apply ar); (· rfl); (· exact cT); (· simp only [ai]; rfl)) | ((with_reducible apply eX); (· rfl); (· rfl); (· exact hw); (· simp only [ai]; rfl)) | ((with_reducible apply aW); (· rfl); (· omega); (· simp only [ai]; rfl)) | ((with_reducible apply bZ); (· rfl); (· omega); (· simp only [ai]; rfl)) | ((with_reducible apply aD); (· rfl); (· simp only [ai]; rfl)) | ((with_reducible apply aF); (· rfl); (· rfl); (· first | exact MD | exact MG _ _ _); (· rfl); (· simp only [ai]; rfl)) | ((with_reducible apply bL); (· rfl)) | ((with_reducible apply bg); (· rfl)) | (with_reducible refine au ?_) | ((with_reducible apply av); (· rfl); (· rfl)) | (with_reducible refine Qav ?_) | (with_reducible refine kj rfl ?_) | ((with_reducible apply aX); (· rfl); all_goals (intro hz; (try simp only [bA] at hz); first | (exact absurd hz (by decide)) | (exfalso; omega) | skip)) | (with_reducible exact aq rfl rfl) | ((with_reducible apply aq); (· rfl); first | exact rfl | (refine bH ?_) | (refine bF ?_) | (refine bG ?_)) | ((with_reducible intro hz); (try simp only [bA] at hz)))
      all_goals first | (refine hR fun k hk => ?_; rcases Nat.lt_or_ge k i with h3 | h3; exact hJ k h3; rw [show k = i by omega]) | (apply Eq.symm; apply aL.PX; refine aL.vO hi ?_)
      all_goals (by_cases k1 : (p.it i).kind = 1 <;> by_cases k2 : (p.it i).kind = 2 <;> by_cases k3 : (p.it i).target = 0 <;> cases h1 : gR ((p.it i).iy - (p.it (i - 1)).iy) 0 1 <;> cases h2 : gR (p.it i).target 0 1440 <;> cases h3 : (p.it i).free <;> simp_all [aL.yY] <;> omega)
  · have hI : p.oN = true := aL.K9 fun i hi => hJ i hi
    have hlf : decide ((p.n : Int) < (p.n : Int)) = false := by simp
    have hj := c50 (bs := bs) (l := p.jumps) (least := 1) (most := 10) (lo := 0) (hi := 36000000) hp.jumps.2
    have hpt := c50 (bs := bs) (l := p.points) (least := 0) (most := 60) (lo := 0) (hi := 1000) hp.points.2
    have hex := c50 (bs := bs) (l := p.extra) (least := 0) (most := 60) (lo := 0) (hi := 1000) hp.extra.2
    cases RQ : gR p.power (-1) (p.n - 1)
    · have R1 := MG (bs := bs) p.power (-1) (p.n - 1)
      rw [RQ] at R1
      repeat' (first | ((with_reducible apply bp); (· simp only [ai]; rfl)) | ((with_reducible apply iF); (· rfl); (· exact Bool.or_true _)) | ((with_reducible apply aH); (· rfl); (· exact rfl)) | ((with_reducible apply aK); (· rfl); (· exact hlf)) | ((with_reducible apply aN); (· rfl)) | ((with_reducible apply ar); (· rfl); (· exact cT); (· simp only [ai]; rfl)) | ((with_reducible apply cC); (· rfl); (· rfl); (· omega); (· simp only [ai]; rfl)) | ((with_reducible apply aD); (· rfl); (· simp only [ai]; rfl)) | ((with_reducible apply aF); (· rfl); (· rfl); (· first | exact R1 | exact MG _ _ _ | exact hj); (· rfl); (· simp only [ai]; rfl)) | ((with_reducible apply bL); (· rfl)) | ((with_reducible apply av); (· rfl); (· rfl)) | (with_reducible refine Qav ?_) | (with_reducible refine aB (by decide) ?_) | (with_reducible refine kj rfl ?_) | ((with_reducible apply aX); (· rfl); all_goals (intro hz; (try simp only [bA] at hz); first | (exact absurd hz (by decide)) | (exfalso; omega) | skip)) | (with_reducible exact aq rfl rfl) | ((with_reducible apply aq); (· rfl); first | exact rfl | (refine bH ?_) | (refine bF ?_) | (refine bG ?_)) | ((with_reducible intro hz); (try simp only [bA] at hz)))
      all_goals simp [aL.ok, aL.kg, RQ]
    have aln := iG RQ
    have R1 := MG (bs := bs) p.power (-1) (p.n - 1)
    rw [RQ] at R1
    by_cases hneg : p.power < 0
    · have hpf : decide (p.power ≥ 0) = false := by simp; omega
      repeat' (first | ((with_reducible apply bp); (· simp only [ai]; rfl)) | ((with_reducible apply ir); (· rfl); (· exact hpf)) | ((with_reducible apply aK); (· rfl); (· exact hlf)) | ((with_reducible apply aN); (· rfl)) | ((with_reducible apply ar); (· rfl); (· exact cT); (· simp only [ai]; rfl)) | ((with_reducible apply cC); (· rfl); (· rfl); (· omega); (· simp only [ai]; rfl)) | ((with_reducible apply aD); (· rfl); (· simp only [ai]; rfl)) | ((with_reducible apply aF); (· rfl); (· rfl); (· first | exact R1 | exact MG _ _ _ | exact hj | exact hpt | exact hex); (· rfl); (· simp only [ai]; rfl)) | ((with_reducible apply bL); (· rfl)) | ((with_reducible apply bg); (· rfl)) | ((with_reducible apply av); (· rfl); (· rfl)) | (with_reducible refine Qav ?_) | (with_reducible refine aB (by decide) ?_) | (with_reducible refine kj rfl ?_) | ((with_reducible apply aX); (· rfl); all_goals (intro hz; (try simp only [bA] at hz); first | (exact absurd hz (by decide)) | (exfalso; omega) | skip)) | (with_reducible exact aq rfl rfl) | ((with_reducible apply aq); (· rfl); first | exact rfl | (refine bH ?_) | (refine bF ?_) | (refine bG ?_)) | ((with_reducible intro hz); (try simp only [bA] at hz)))
      all_goals rw [show p.ok = (p.iZ && (p.kg && p.uA)) by simp [aL.ok, Vl, hI]]
      all_goals first
        | (symm; rw [Bool.eq_false_iff]; intro h; simp only [aL.iZ, aL.kg, aL.uA, Bool.and_eq_true, Bool.or_eq_true, decide_eq_true_eq, beq_iff_eq] at h; simp_all <;> omega)
        | (have hr : p.iZ = true := by simp_all [aL.iZ]
           have hm : p.kg = true := by simp_all [aL.kg]
           rw [hr, hm]; rfl)
    · have hpe : D.aj 4 (.bq (p.items.map Item.d)) (I p.power) = some (.ptr (p.it p.power.toNat).d.cells) := by
        have := dR (p := p) (i := p.power.toNat) (by omega)
        rwa [In, show (p.power.toNat : Int) = p.power by omega] at this
      repeat' (first | ((with_reducible apply bp); (· simp only [ai]; rfl)) | ((with_reducible apply aK); (· rfl); (· exact hlf)) | ((with_reducible apply aN); (· rfl)) | ((with_reducible apply aA); (· rfl); (· rfl); (· exact hpe); (· simp only [ai]; rfl)) | ((with_reducible apply ar); (· rfl); (· exact cT); (· simp only [ai]; rfl)) | ((with_reducible apply cC); (· rfl); (· rfl); (· omega); (· simp only [ai]; rfl)) | ((with_reducible apply aD); (· rfl); (· simp only [ai]; rfl)) | ((with_reducible apply aF); (· rfl); (· rfl); (· first | exact R1 | exact MG _ _ _ | exact hj | exact hpt | exact hex); (· rfl); (· simp only [ai]; rfl)) | ((with_reducible apply bL); (· rfl)) | ((with_reducible apply bg); (· rfl)) | ((with_reducible apply av); (· rfl); (· rfl)) | (with_reducible refine Qav ?_) | (with_reducible refine aB (by decide) ?_) | (with_reducible refine kj rfl ?_) | ((with_reducible apply aX); (· rfl); all_goals (intro hz; (try simp only [bA] at hz); first | (exact absurd hz (by decide)) | (exfalso; omega) | skip)) | (with_reducible exact aq rfl rfl) | ((with_reducible apply aq); (· rfl); first | exact rfl | (refine bH ?_) | (refine bF ?_) | (refine bG ?_)) | ((with_reducible intro hz); (try simp only [bA] at hz)))
      all_goals rw [show p.ok = (p.iZ && (p.kg && p.uA)) by simp [aL.ok, Vl, hI]]
      all_goals first
        | (symm; rw [Bool.eq_false_iff]; intro h; simp only [aL.iZ, aL.kg, aL.uA, Bool.and_eq_true, Bool.or_eq_true, decide_eq_true_eq, beq_iff_eq] at h; simp_all <;> omega)
        | (have hr : p.iZ = true := by simp_all [aL.iZ]
           have hm : p.kg = true := by simp_all [aL.kg]
           rw [hr, hm]; rfl)
end

section
open Go.Proofs
set_option maxRecDepth 100000
set_option maxHeartbeats 4000000

attribute [local irreducible] gR fV dQ

variable {bs:List D} {p:aL} {c:aS}

theorem cQ {i:Nat}(h:i<c.lines.length):D.aj 4 (.bq (c.lines.map gL.d)) (In i)=some (.ptr (c.ln i).d.cells):=r6 (aS.nu h) rfl
theorem I8 (h:1≤p.n):D.aj 4 (.bq (p.items.map Item.d)) (I ((p.n:Int)-1))=some (.ptr (p.it (p.n-1)).d.cells):=by
 rw[show(p.n:Int)-1=((p.n-1:Nat):Int) by omega]
 exact dR (by omega)


theorem c19 (hp:p.Ok)(hc:c.Ok):aP Tryz.prog 19 (.st bs) [p.d,c.d] (I (if(p.ok&&fe p c)=true then 0 else 2)):=by
 have hmi:p.items.length=p.n:=rfl
 have wR:=c18 (bs:=bs) hp
 refine akP.R rfl rfl ?_
 unfold u19
 simp only[aC,aG,List.cons_append,List.nil_append]
 cases hok:p.ok
 ·rw[hok] at wR
  replace wR:aP Tryz.prog 18 (.st bs) [p.d] (I 2):=wR
  repeat' (first|(apply bp;simp only[ai];rfl)|(apply iF;rfl;exact rfl)|(apply aH;rfl;exact rfl)|(apply aN;rfl)|(apply aD;rfl;simp only[ai];rfl)|(apply aF;rfl;rfl;exact wR;rfl;simp only[ai];rfl)|exact aq rfl rfl)
  all_goals (try exact rfl)
 rw[hok] at wR
 replace wR:aP Tryz.prog 18 (.st bs) [p.d] (I 0):=wR
 have hh:=aL.gi hok
 have hl:=aL.qR hok (i:=p.n-1) (by omega)
 have hst:=ZR (bs:=bs) (l:=c.dH) (least:=1) (many:=6) (most:=100000) hc.dH.2
 repeat' (first|(apply bp;simp only[ai];rfl)|(apply aN;rfl)|(apply aA;rfl;rfl;exact I8 hh.1.1;simp only[ai];rfl)|(apply ar;rfl;exact cT;simp only[ai];rfl)|(apply ar;rfl;exact ak;simp only[ai];rfl)|(apply bM;rfl;rfl;omega;simp only[ai];rfl)|(apply cC;rfl;rfl;omega;simp only[ai];rfl)|(apply aD;rfl;simp only[ai];rfl)|(apply aF;rfl;rfl;(·first|exact wR|exact Ft _ _ _|exact hst);rfl;simp only[ai];rfl)|(apply bL;rfl)|refine au ?_|(apply aX;rfl;all_goals (intro hz;(try simp only[bA] at hz);first|(exact absurd hz (by decide))|(exfalso;omega)|skip))|exact aq rfl rfl|(apply aq;rfl;first|exact rfl|(refine bH ?_)|(refine bF ?_)|(refine bG ?_))|(intro hz;(try simp only[bA] at hz)))
 ·rw[if_neg]
  intro h
  simp only[Bool.true_and,fe,Bool.and_eq_true,beq_iff_eq] at h
  obtain⟨h1,h2,h3,h4⟩:=h
  by_cases hs:(c.dH.length:Int)=p.js
  ·rw[QE hs (aL.yK hok)] at h2
   unfold aL.js at hs
   simp_all
  ·rw[YV hs] at h2
   cases h2
 ·have hlen:c.lines.length=p.n:=by
   have:(c.lines.length:Int)=p.n:=by simp_all
   omega
  have Yr:gR c.cls 0 (p.dW-1)=true:=by simp_all
  have xB:(c.dH.length:Int)=p.js:=by unfold aL.js;simp_all
  have uU:fV c.dH p.js p.js 0 100000=true:=by
   rw[QE xB (aL.yK hok)]
   simp_all
  clear hz
  refine bf (fun i=>[In i]) (fun i=>∀k,k<i→AD p c k=true) c.lines.length rfl (fun _=>rfl) (fun k h=>absurd h (Nat.not_lt_zero _)) (fun i hi hJ R hR=>?_) (fun hJ R=>?_)
  ·have gH:decide ((i:Int)<(c.lines.length:Int))=true:=by simp;omega
   have Vk:i<p.n:=by omega
   have hic:i<c.lines.length:=by omega
   by_cases h0:i=0
   ·have xV:decide ((i:Int) > 0)=false:=by simp[h0]
    repeat' (first|(apply bp;simp only[ai];rfl)|(apply ir;rfl;exact xV)|(apply aH;rfl;exact gH)|(apply aN;rfl)|(apply aA;rfl;rfl;(·first|exact dR Vk|exact cQ hic);simp only[ai];rfl)|(apply aW;rfl;omega;simp only[ai];rfl)|(apply aD;rfl;simp only[ai];rfl)|(apply aF;rfl;rfl;exact c48 _ _;rfl;simp only[ai];rfl)|(apply bL;rfl)|(apply bg;rfl)|refine au ?_|(apply av;rfl;rfl)|refine Qav ?_|refine kj rfl ?_|(apply aX;rfl;all_goals (intro hz;(try simp only[bA] at hz);first|(exact absurd hz (by decide))|(exfalso;omega)|skip))|exact aq rfl rfl|(apply aq;rfl;first|exact rfl|(refine bH ?_)|(refine bF ?_)|(refine bG ?_))|(intro hz;(try simp only[bA] at hz)))
    all_goals (try exact(false:Bool))
    all_goals first | (refine hR fun k hk=>?_;rcases Nat.lt_or_ge k i with h3 | h3;exact hJ k h3;rw[show k=i by omega]) | (rw[if_neg];rw[Bool.true_and,Bool.not_eq_true];refine vN Vk ?_)
    all_goals (cases h1:dQ (p.it i) (c.ln i) <;> simp_all [AD] <;> omega)
   ·have xV:1≤i:=by omega
    have hzt:decide ((i:Int) > 0)=true:=by simp;omega
    repeat' (first|(apply bp;simp only[ai];rfl)|(apply aH;rfl;exact gH)|(apply aN;rfl)|(apply aA;rfl;rfl;(·first|exact dR Vk|exact cQ hic|exact dR (Nat.lt_of_le_of_lt (Nat.sub_le i 1) Vk)|exact cQ (Nat.lt_of_le_of_lt (Nat.sub_le i 1) hic));simp only[ai];rfl)|(apply aW;rfl;omega;simp only[ai];rfl)|(apply bZ;rfl;omega;simp only[ai];rfl)|(apply aD;rfl;simp only[ai];rfl)|(apply aF;rfl;rfl;exact c48 _ _;rfl;simp only[ai];rfl)|(apply bL;rfl)|(apply bg;rfl)|refine au ?_|(apply av;rfl;rfl)|refine Qav ?_|refine kj rfl ?_|(apply aX;rfl;all_goals (intro hz;(try simp only[bA] at hz);first|(exact absurd hz (by decide))|(exfalso;omega)|skip))|exact aq rfl rfl|(apply aq;rfl;first|exact rfl|(refine bH ?_)|(refine bF ?_)|(refine bG ?_))|(intro hz;(try simp only[bA] at hz)))
    all_goals (try exact(false:Bool))
    all_goals first | (refine hR fun k hk=>?_;rcases Nat.lt_or_ge k i with h3 | h3;exact hJ k h3;rw[show k=i by omega]) | (rw[if_neg];rw[Bool.true_and,Bool.not_eq_true];refine vN Vk ?_)
    all_goals (by_cases k1:(c.ln (i-1)).mark=2 <;> by_cases k2:(p.it (i-1)).iy=(p.it i).iy <;> by_cases k3:(c.ln i).mark=2 <;> cases h1:dQ (p.it i) (c.ln i) <;> simp_all [AD] <;> omega)
  ·have hlf:decide ((c.lines.length:Int)<(c.lines.length:Int))=false:=by simp
   repeat' (first|(apply bp;simp only[ai];rfl)|(apply aK;rfl;exact hlf)|(apply aD;rfl;simp only[ai];rfl)|(apply av;rfl;rfl)|refine Qav ?_|(refine aB (by decide) ?_)|refine kj rfl ?_|(apply aq;rfl;first|exact rfl|(refine bH ?_)|(refine bF ?_)|(refine bG ?_)))
   rw[if_pos]
   simp[fe,Yr,uU,hlen,D5 fun i hi=>hJ i (by omega)]

theorem c21 (hp:p.Ok)(hc:c.Ok)(hok:p.ok=true):aP Tryz.prog 21 (.st bs) [p.d,c.d] (B (fe p c)):=by
 have hmi:p.items.length=p.n:=rfl
 have hh:=aL.gi hok
 have hl:=aL.qR hok (i:=p.n-1) (by omega)
 have hst:=c50 (bs:=bs) (l:=c.dH) (least:=p.js) (most:=p.js) (lo:=0) (hi:=100000) hc.dH.2
 have h51:=c51 (bs:=bs) (p:=p) (by omega) (by omega) (by omega)
 refine akN.R rfl rfl ?_
 unfold u21
 simp only[aC,aG,List.cons_append,List.nil_append]
 repeat' (first|(apply bp;simp only[ai];rfl)|(apply aN;rfl)|(apply ar;rfl;exact cT;simp only[ai];rfl)|(apply ar;rfl;exact ak;simp only[ai];rfl)|(apply cC;rfl;rfl;omega;simp only[ai];rfl)|(apply aD;rfl;simp only[ai];rfl)|(apply aF;rfl;rfl;(·first|exact MG _ _ _|exact hst|exact h51);rfl;simp only[ai];rfl)|(apply bL;rfl)|refine au ?_|(apply aX;rfl;all_goals (intro hz;(try simp only[bA] at hz);first|(exact absurd hz (by decide))|(exfalso;omega)|skip))|exact aq rfl rfl|(apply aq;rfl;first|exact rfl|(refine bH ?_)|(refine bF ?_)|(refine bG ?_))|(intro hz;(try simp only[bA] at hz)))
 ·symm
  rw[Bool.eq_false_iff]
  intro h
  simp only[fe,Bool.and_eq_true,beq_iff_eq] at h
  simp_all
 ·have hlen:c.lines.length=p.n:=by
   have:(c.lines.length:Int)=p.n:=by simp_all
   omega
  have Yr:gR c.cls 0 (p.dW-1)=true:=by simp_all
  have uU:fV c.dH p.js p.js 0 100000=true:=by simp_all
  clear hz
  refine bf (fun i=>[In i]) (fun i=>∀k,k<i→AD p c k=true) p.n rfl (fun _=>rfl) (fun k h=>absurd h (Nat.not_lt_zero _)) (fun i hi hJ R hR=>?_) (fun hJ R=>?_)
  ·have gH:decide ((i:Int)<(p.n:Int))=true:=by simp;omega
   have Vk:i<p.n:=by omega
   have hic:i<c.lines.length:=by omega
   by_cases h0:i=0
   ·have xV:decide ((i:Int) > 0)=false:=by simp[h0]
    repeat' (first|(apply bp;simp only[ai];rfl)|(apply ir;rfl;exact xV)|(apply aH;rfl;exact gH)|(apply aN;rfl)|(apply aA;rfl;rfl;(·first|exact dR Vk|exact cQ hic);simp only[ai];rfl)|(apply ar;rfl;exact cT;simp only[ai];rfl)|(apply aW;rfl;omega;simp only[ai];rfl)|(apply aD;rfl;simp only[ai];rfl)|(apply aF;rfl;rfl;exact c52 _ _;rfl;simp only[ai];rfl)|(apply bg;rfl)|refine au ?_|(apply av;rfl;rfl)|refine Qav ?_|refine kj rfl ?_|(apply aX;rfl;all_goals (intro hz;(try simp only[bA] at hz);first|(exact absurd hz (by decide))|(exfalso;omega)|skip))|exact aq rfl rfl|(apply aq;rfl;first|exact rfl|(refine bH ?_)|(refine bF ?_)|(refine bG ?_))|(intro hz;(try simp only[bA] at hz)))
    all_goals (try exact(false:Bool))
    all_goals first | (refine hR fun k hk=>?_;rcases Nat.lt_or_ge k i with h3 | h3;exact hJ k h3;rw[show k=i by omega]) | (symm;refine vN Vk ?_)
    all_goals (cases h1:dQ (p.it i) (c.ln i) <;> simp_all [AD] <;> omega)
   ·have xV:1≤i:=by omega
    have hzt:decide ((i:Int) > 0)=true:=by simp;omega
    repeat' (first|(apply bp;simp only[ai];rfl)|(apply aH;rfl;exact gH)|(apply aN;rfl)|(apply aA;rfl;rfl;(·first|exact dR Vk|exact cQ hic|exact dR (Nat.lt_of_le_of_lt (Nat.sub_le i 1) Vk)|exact cQ (Nat.lt_of_le_of_lt (Nat.sub_le i 1) hic));simp only[ai];rfl)|(apply ar;rfl;exact cT;simp only[ai];rfl)|(apply aW;rfl;omega;simp only[ai];rfl)|(apply bZ;rfl;omega;simp only[ai];rfl)|(apply aD;rfl;simp only[ai];rfl)|(apply aF;rfl;rfl;exact c52 _ _;rfl;simp only[ai];rfl)|(apply bg;rfl)|refine au ?_|(apply av;rfl;rfl)|refine Qav ?_|refine kj rfl ?_|(apply aX;rfl;all_goals (intro hz;(try simp only[bA] at hz);first|(exact absurd hz (by decide))|(exfalso;omega)|skip))|exact aq rfl rfl|(apply aq;rfl;first|exact rfl|(refine bH ?_)|(refine bF ?_)|(refine bG ?_))|(intro hz;(try simp only[bA] at hz)))
    all_goals (try exact(false:Bool))
    all_goals first | (refine hR fun k hk=>?_;rcases Nat.lt_or_ge k i with h3 | h3;exact hJ k h3;rw[show k=i by omega]) | (symm;refine vN Vk ?_)
    all_goals (by_cases k1:(c.ln (i-1)).mark=2 <;> by_cases k2:(p.it (i-1)).iy=(p.it i).iy <;> by_cases k3:(c.ln i).mark=2 <;> cases h1:dQ (p.it i) (c.ln i) <;> simp_all [AD] <;> omega)
  ·have hlf:decide ((p.n:Int)<(p.n:Int))=false:=by simp
   repeat' (first|(apply bp;simp only[ai];rfl)|(apply aK;rfl;exact hlf)|(apply ar;rfl;exact cT;simp only[ai];rfl)|(apply aD;rfl;simp only[ai];rfl)|(apply av;rfl;rfl)|refine Qav ?_|(refine aB (by decide) ?_)|refine kj rfl ?_|(apply aq;rfl;first|exact rfl|(refine bH ?_)|(refine bF ?_)|(refine bG ?_)))
   symm
   simp[fe,Yr,uU,hlen,D5 fun i hi=>hJ i (by omega)]
end

section
open Go.Proofs
end

section
open Go.Proofs
set_option maxRecDepth 100000
set_option maxHeartbeats 4000000

attribute [local irreducible] gR fV dQ

variable {bs:List D} {p:aL} {c:aS}

def aL.small (p:aL):Bool:=decide ((p.n:Int)≤12)&&(decide ((p.jumps.length:Int)≤20)&&(decide ((p.points.length:Int)≤80)&&decide ((p.extra.length:Int)≤80)))

theorem sB:aP Tryz.prog 15 (.st bs) [p.d] (B p.small):=by
 refine akS.R rfl rfl ?_
 unfold u15
 simp only[aC,aG,List.cons_append,List.nil_append]
 repeat' (first|(apply bp;simp only[ai];rfl)|(apply aN;rfl)|(apply ar;rfl;exact cT;simp only[ai];rfl)|(apply ar;rfl;exact ak;simp only[ai];rfl)|(apply aD;rfl;simp only[ai];rfl)|(apply bg;rfl)|exact aq rfl rfl|(apply aq;rfl;first|exact rfl|(refine bH ?_)|(refine bF ?_)|(refine bG ?_))|(intro hz;(try simp only[bA] at hz)))
 simp[aL.small,Bool.and_assoc]

def aS.small (c:aS):Bool:=decide ((c.dH.length:Int)≤12)&&decide ((c.lines.length:Int)≤30)
def Db (l:List aS)(most:Int):Bool:=l.all aS.small&&(decide ((l.length:Int)≤most)||(decide ((l.length:Int) > 200)&&decide ((l.length:Int)<300)))

theorem I_ {l:List aS}{i:Nat}(h:i<l.length):D.aj 3 (.bq (l.map aS.d)) (In i)=some (.ptr (l[i]).d.cells):=b_ h rfl

theorem ZT {l:List aS}{most:Int}(hL:l.length≤maxLen):aP Tryz.prog 16 (.st bs) [dM l,I most] (B (Db l most)):=by
 have hL':l.length≤9223372036854775807:=hL
 refine akR.R rfl rfl ?_
 unfold u16
 simp only[aC,aG,List.cons_append,List.nil_append]
 repeat' ((with_reducible refine au ?_))
 refine bf (fun i=>[I i]) (fun i=>∀k (h:k<i) (h2:k<l.length),(l[k]).small=true) l.length rfl (fun _=>rfl) (fun k h=>absurd h (Nat.not_lt_zero _)) (fun i hj hJ R hR=>?_) (fun hJ R=>?_)
 ·have gH:decide ((i:Int)<(l.length:Int))=true:=by simp;omega
  repeat' (first|(apply bp;simp only[ai];rfl)|(apply aH;rfl;exact gH)|(apply aN;rfl)|(apply aA;rfl;rfl;exact I_ hj;simp only[ai];rfl)|(apply ar;rfl;exact ak;simp only[ai];rfl)|(apply bM;rfl;rfl;omega;simp only[ai];rfl)|(apply aD;rfl;simp only[ai];rfl)|(apply bL;rfl)|refine au ?_|(apply av;rfl;rfl)|refine Qav ?_|refine kj rfl ?_|(apply aX;rfl;all_goals (intro hz;(try simp only[bA] at hz);first|(exact absurd hz (by decide))|(exfalso;omega)|skip))|exact aq rfl rfl|(apply aq;rfl;first|exact rfl|(refine bH ?_)|(refine bF ?_)|(refine bG ?_))|(intro hz;(try simp only[bA] at hz)))
  ·have:l.all aS.small=false:=List.all_eq_false.2 ⟨_,List.getElem_mem hj,by simp only[aS.small,Bool.and_eq_true,decide_eq_true_eq];omega⟩
   simp[Db,this]
  ·refine hR fun k hk h2=>?_
   rcases Nat.lt_or_ge k i with h3 | h3
   ·exact hJ k h3 h2
   ·have e:k=i:=by omega
    subst e
    simp only[aS.small,Bool.and_eq_true,decide_eq_true_eq]
    omega
 ·have hlf:decide ((l.length:Int)<(l.length:Int))=false:=by simp
  repeat' (first|(apply bp;simp only[ai];rfl)|(apply aK;rfl;exact hlf)|(apply ar;rfl;exact ak;simp only[ai];rfl)|(apply aD;rfl;simp only[ai];rfl)|(apply bL;rfl)|(apply bg;rfl)|(apply av;rfl;rfl)|refine Qav ?_|(refine aB (by decide) ?_)|refine kj rfl ?_|exact aq rfl rfl|(apply aq;rfl;first|exact rfl|(refine bH ?_)|(refine bF ?_)|(refine bG ?_))|(intro hz;(try simp only[bA] at hz)))
  have:l.all aS.small=true:=List.all_eq_true.2 fun a ha=>by
   obtain⟨k,hk,rfl⟩:=List.mem_iff_getElem.1 ha
   exact hJ k hk hk
  simp[Db,this]
end

section
open Go.Proofs

noncomputable def u36:U:=(aI [.aY (.bB 14 y0),
 .aY (.bB 3 y1),
 .call 19 y2 [(fN 14 y0),(fN 3 y1)] [true],
 .ev (.bin .neq .int y3 (ki 0))]
 (.ite y4 (.ret (.aa (.aa (ki 0) (.aa (ki 2) .ax)) (.aa y2 .ax))) (aI [.call 89 y2 [(fN 14 y0),(fN 3 y1)] [true]]
 (.ret (.aa (.aa y5 (.aa (ki 0) .ax)) (.aa y2 .ax))))))
theorem akC:cm Tryz.prog 36 .plain (bE true [] [] Tryz.f36) [false,false] u36:=cm.plain Tryz.func36 (by kernel_rfl) (by kernel_rfl)

noncomputable def u88:U:=(aI [.aY (.bB 14 y0),
 .aY (.bB 3 y1),
 .ev (.aj 4 (.cell 0 y0) y2),
 .aY (.ay 1 y4),
 .ev (.ld false 1 y3 (.ay 1 y4)),
 .ev (.bin .gtr .int y2 (ki 0)),
 .chain false y6 (aI [.aY (.cell 0 y0),
 .ev (.bin .sub .int y2 (ki 1)),
 .ev (.aj 4 (.cell 0 y0) y7),
 .aY (.ay 1 y8),
 .ev (.ld false 1 y3 (.ay 1 y8)),
 .ev (.bin .eql .int y9 y5)]
 (.ret y10))]
 (.ite y7 (aI [.ev (.bin .sub .int y2 (ki 1)),
 .ev (.aj 4 (.cell 2 y1) y8),
 .aY (.ay 0 y9),
 .ev (.ld false 1 y3 (.ay 0 y9)),
 .ev (.aj 4 (.cell 0 y0) y2),
 .aY (.ay 2 y11),
 .ev (.ld false 1 y3 (.ay 2 y11)),
 .ev (.bin .add .int y10 y12)]
 (.ret (.aa y13 (.aa y3 .ax)))) (aI [.ev (.aj 1 (.cell 1 y1) y5),
 .ev (.ld false 1 y3 y8),
 .ev (.aj 4 (.cell 0 y0) y2),
 .aY (.ay 2 y10),
 .ev (.ld false 1 y3 (.ay 2 y10)),
 .ev (.bin .add .int y9 y11)]
 (.ret (.aa y12 (.aa y3 .ax))))))
theorem aaK:cm Tryz.prog 88 .plain (bE true [] [] Tryz.f88) [false,false,true] u88:=cm.plain Tryz.func88 (by kernel_rfl) (by kernel_rfl)

noncomputable def adf:U:=(aI [.ev (.gE (.bB 14 y0)),
 .ev (.gE (.cons (.bt y1) .nil)),
 .ev (.gV 139 .ax (.aa y3 (.aa y4 .ax)))]
 (.ret (.aa y5 (.aa y2 .ax))))
theorem aeT:cm Tryz.prog 118 .plain (bE true [] [] Tryz.f118) [false,true] adf:=cm.plain Tryz.func118 (by kernel_rfl) (by kernel_rfl)

noncomputable def ade:U:=(aI [.aY (.bB 14 y0),
 .aY (.bB 3 y1),
 .ev (.aj 4 (.cell 0 y0) y2),
 .aY (.ay 0 y4),
 .ev (.ld false 1 y3 (.ay 0 y4)),
 .ev (.bin .neq .int y5 (ki 1)),
 .chain true y6 (aI [.aY (.cell 2 y1),
 .ev (.aj 4 (.cell 2 y1) y2),
 .aY (.ay 3 y7),
 .ev (.ld false 1 y3 (.ay 3 y7)),
 .ev (.bin .eql .int y8 (ki 2))]
 (.ret y9))]
 (.ite y7 (.ret (.aa (.aa (ki 0) (.aa (ki 0) .ax)) (.aa y3 .ax))) (aI [.ev (.aj 4 (.cell 2 y1) y2),
 .aY (.ay 0 y8),
 .ev (.ld false 1 y3 (.ay 0 y8)),
 .call 88 y3 [(fN 14 y0),(fN 3 y1),y2] [true],
 .ev (.bin .sub .int y9 y10),
 .join 0 0 (aI [.ev (.bin .gtr .int y11 (ki 0))]
 (.ite y12 (.ret (.aa (.aa (ki 1) (.aa y11 .ax)) (.aa y3 .ax))) (aI [.ev (.bin .lss .int y11 (ki 0))]
 (.ite y13 (aI [.ev (.un .neg y11)]
 (.ret (.aa (.aa (ki 2) (.aa y14 .ax)) (.aa y3 .ax)))) (.jump 0 [] [])))))]
 (.ret (.aa (.aa (ki 0) (.aa (ki 0) .ax)) (.aa y3 .ax))))))
theorem aeS:cm Tryz.prog 119 .plain (bE true [] [] Tryz.f119) [false,false,true] ade:=cm.plain Tryz.func119 (by kernel_rfl) (by kernel_rfl)

noncomputable def u89:U:=(aI [.ev (.gE (.bB 14 y0)),
 .ev (.gE (.bB 3 y1)),
 .ev (.cI 3 1 y2 (.const (.agg [(.v (.int .i64 0))]))),
 .aY (.ay 0 y3),
 .ev (.ld false 1 y5 (.ay 0 y3)),
 .aY (.ay 0 y3),
 .ev (.ld false 1 y5 (.ay 0 y3)),
 .ev (.aR y7),
 .ev (.bin .sub .int y8 (ki 1)),
 .ev (.aj 4 y6 y9),
 .aY (.ay 1 y10),
 .ev (.ld false 1 y5 (.ay 1 y10)),
 .ev (.cI 3 1 y5 (.const (.agg [(.v (.int .i64 0))]))),
 .ev (.gQ 1 y12 (.aU y5) y11),
 .ev (.ld false 1 y13 (.aU y5)),
 .ev (.bin .add .int y14 (ki 1)),
 .join 0 1 (.loop 1 [(ki 0),y13] (aI [.ev (.bin .lss .int y16 y15)]
 (.ite y18 (aI [.join 2 1 (aI [.ev (.cI 3 1 y17 (.const (.agg [(.v (.int .i64 0))]))),
 .ev (.gQ 1 y19 (.aU y17) y16),
 .ev (.cI 3 1 y20 (.const (.agg [(.v (.int .i64 0))]))),
 .ev (.gQ 1 y21 (.aU y20) (ki 0)),
 .ev (.ld true 14 y22 y3),
 .ev (.ld false 1 y22 (.aU y17)),
 .call 118 y22 [y23,y24] [true],
 .join 3 1 (aI [.lz y25 y22 [0,1,2,3,4,5,6,7,11,12,13,14,15,16,17,18,19,20,21,22,23,24,25,26,27] [y0,y1,y3,y4,(.aU y2),(.aU y5),(.aU y17),(.aU y20),(.ay 0 y3),y6,(.ay 0 y3),y7,y8,y9,y10,(.ay 1 y10),y11,y14,y15,y16,y18,y16,y23,y24,y25] 1 4 none (aI [.join 6 1 (aI [.aY (.ay 2 y4),
 .ev (.ld false 1 y26 (.ay 2 y4)),
 .ev (.aj 4 y28 y27),
 .aY (.ay 3 y29),
 .ev (.ld false 1 y26 (.ay 3 y29)),
 .ev (.bin .eql .int y30 (ki 2)),
 .chain false y31 (aI [.aY (.ay 2 y3),
 .aY (.ay 5 (.ay 2 y3)),
 .ev (.ld false 1 y26 (.ay 5 (.ay 2 y3))),
 .ev (.un .not y32),
 .chain true y33 (aI [.ev (.ld false 1 y26 (.aU y17)),
 .ev (.ld false 1 y26 (.aU y5)),
 .ev (.bin .eql .int y34 y35)]
 (.ret y36))]
 (.ret y34))]
 (.ite y32 (aI [.ev (.gQ 1 y26 (.aU y2) y27)]
 (.ret y33)) (aI [.ev (.ld true 14 y26 y3),
 .ev (.ld true 3 y26 y4),
 .call 119 y26 [y33,y34,y27] [true,true],
 .ev (.bin .eql .int (.az 0 y35) (ki 1)),
 .join 7 1 (.ite y36 (aI [.ev (.ld false 1 y26 (.aU y20)),
 .ev (.bin .add .int y37 (.az 1 y35)),
 .ev (.gQ 1 y26 (.aU y20) y38),
 .aY (.ay 2 y3),
 .aY (.ay 2 (.ay 2 y3)),
 .ev (.ld false 1 y39 (.ay 2 (.ay 2 y3))),
 .ev (.bin .gtr .int (.az 1 y35) y40),
 .chain true y41 (aI [.ev (.ld false 1 y39 (.aU y20)),
 .aY (.ay 2 y3),
 .aY (.ay 3 (.ay 2 y3)),
 .ev (.ld false 1 y39 (.ay 3 (.ay 2 y3))),
 .ev (.bin .gtr .int y42 y43)]
 (.ret y44))]
 (.ite y42 (aI [.ev (.gQ 1 y39 (.aU y2) y27)]
 (.ret y43)) (.jump 7 [y39] []))) (.jump 7 [y26] []))]
 (.jump 6 [y37] [(.az 0 y35),(.az 1 y35),(.aa (.az 0 y35) (.aa (.az 1 y35) .ax)),(.aa (.az 0 y35) (.aa (.az 1 y35) .ax)),(.az 0 y35),(.az 1 y35),(.az 0 y35)]))))]
 (.jump 4 [y28] [])) (.jump 3 [y26] [])]
 (.ret (.aa (.ld false 1 y26 (.aU y2)) (.aa y26 .ax))))]
 (.jump 2 [y26] [(.aU y20)])),
 .ev (.bin .add .int y16 (ki 1))]
 (.jump 1 [y20,y19] [])) (.jump 0 [y17] [])))),
 .ev (.gQ 1 y16 (.aU y2) (ki (-1)))]
 (.ret (.aa (.ld false 1 y17 (.aU y2)) (.aa y17 .ax))))
theorem aeH:cm Tryz.prog 89 .plain (bE false [] [] Tryz.f89) [false,false] u89:=cm.plain Tryz.func89 (by kernel_rfl) (by kernel_rfl)

noncomputable def Z_:U:=(aI [.aY (.ay 0 y1),
 .ev (.ld false 1 y3 (.ay 0 y1)),
 .ev (.aR y4),
 .join 0 1 (.loop 1 [(ki 0),y3] (aI [.ev (.bin .lss .int y6 y5)]
 (.ite y8 (aI [.join 2 1 (aI [.ev (.aj 4 y4 y6),
 .ev (.ld true 4 y7 y9),
 .aY (.bB 4 y10),
 .ev (.ld false 1 y7 y2),
 .ev (.bin .eql .int (.cell 1 y10) y11),
 .gen (.fC [(y12,true)] y0 y7 [y6] [true]),
 .chain false y12 (aI [.ev (.un .not (.az 0 y13))]
 (.ret y14))]
 (.ite y14 (.ret (.aa .ax (.aa (.az 1 y13) .ax))) (.jump 2 [(.az 1 y13)] [(.cell 1 y10),(.cell 0 y10),(.cell 1 y10),(.cell 2 y10),(.cell 3 y10)]))),
 .ev (.bin .add .int y6 (ki 1))]
 (.jump 1 [y10,y9] [])) (.jump 0 [y7] []))))]
 (.ret (.aa .ax (.aa y6 .ax))))
theorem Zf:cm Tryz.prog 139 .plain (bE false [1000021] [] Tryz.f139) [true,true,true] Z_:=cm.plain Tryz.func139 (by kernel_rfl) (by kernel_rfl)
end

section
def aS.st (c:aS)(k:Nat):Int:=c.dH.getD k 0

def jt (p:aL)(c:aS)(i:Nat):Int:=
 if(i != 0&&(p.it (i-1)).iy==(p.it i).iy)=true then(c.ln (i-1)).minute+(p.it i).target else c.st (p.it i).iy.toNat+(p.it i).target

def FV (p:aL)(c:aS)(i:Nat):Bool:=(p.it i).kind==1&&(c.ln i).mark != 2

def cO (p:aL)(c:aS)(i:Nat):Int:=if FV p c i=true then max 0 ((c.ln i).minute-jt p c i) else 0
def Qay (p:aL)(c:aS)(i:Nat):Int:=if(FV p c i&&!(p.it i).free)=true then max 0 (jt p c i-(c.ln i).minute) else 0

def fA (p:aL)(c:aS)(l:Int):Nat→Int
 | 0=>0
 | i+1=>fA p c l i+if(p.it i).iy=l then cO p c i else 0

def stops (p:aL)(c:aS)(i:Nat):Bool:=
 decide (cO p c i > p.jW)||(decide (cO p c i > 0)&&decide (fA p c (p.it i).iy (i+1) > p.jX))||((c.ln i).mark==2&&(!p.ret||(p.it i).iy==p.js-1))

def fst (f:Nat→Bool):Nat→Int
 | 0=>-1
 | n+1=>if 0≤fst f n then fst f n else if f n=true then n else -1

theorem I2 {f:Nat→Bool}:∀{n:Nat},(∀k,k<n→f k=false)→fst f n=-1
 | 0,_=>rfl
 | n+1,h=>by
  rw[fst,I2 fun k hk=>h k (by omega),if_neg (by omega),h n (by omega)]
  simp

theorem I3 {f:Nat→Bool}{i:Nat}:∀{n:Nat},i<n→f i=true→(∀k,k<i→f k=false)→fst f n=i
 | 0,h,_,_=>absurd h (Nat.not_lt_zero _)
 | n+1,h,h1,h2=>by
  rcases Nat.lt_or_ge i n with h3 | h3
  ·have e:=I3 h3 h1 h2
   rw[fst,e,if_pos (by omega)]
  ·obtain rfl:i=n:=by omega
   rw[fst,I2 h2,if_neg (by omega),if_pos h1]

def kX (p:aL)(c:aS):Int:=fst (stops p c) p.n

def gA (p:aL)(c:aS)(i:Int):Bool:=decide (kX p c<0)||decide (kX p c > i)

variable {p:aL} {c:aS}

structure j6 (p:aL)(c:aS):Prop where
 cls:0≤c.cls∧c.cls<p.dW
 stl:(c.dH.length:Int)=p.js
 st:∀k,k<c.dH.length→0≤c.st k∧c.st k≤100000
 len:c.lines.length=p.n
 ln:∀i,i<p.n→dQ (p.it i) (c.ln i)=true

theorem Ws (hc:fe p c=true):j6 p c:=by
 simp only[fe,Bool.and_eq_true,beq_iff_eq] at hc
 obtain⟨h1,h2,h3,h4⟩:=hc
 have h5:=iG h1
 simp only[fV,Bool.and_eq_true] at h2
 have h6:=iG h2.2
 refine⟨by omega,by omega,fun k hk=>?_,h3,fun i hi=>?_⟩
 ·have:=List.all_eq_true.1 h2.1 c.dH[k] (List.getElem_mem hk)
  have:=iG this
  simpa[aS.st,List.getD,hk] using this
 ·have:=List.all_eq_true.1 h4 i (List.mem_range.2 hi)
  simp only[AD,Bool.and_eq_true] at this
  exact this.1

theorem j6.minute (h:j6 p c){i:Nat}(hi:i<p.n):0≤(c.ln i).minute∧(c.ln i).minute≤100000:=by
 have:=h.ln i hi
 simp only[dQ,Bool.and_eq_true] at this
 exact iG this.1

theorem j6.time (h:j6 p c){i:Nat}(hi:i<p.n):0≤(c.ln i).time∧(c.ln i).time≤36000000:=by
 have:=h.ln i hi
 simp only[dQ,Bool.and_eq_true] at this
 exact iG this.2.1

theorem j6.mark (h:j6 p c){i:Nat}(hi:i<p.n):(c.ln i).mark=0∨(c.ln i).mark=1∨(c.ln i).mark=2:=by
 have:=h.ln i hi
 simp only[dQ,Bool.and_eq_true,Bool.or_eq_true,beq_iff_eq] at this
 omega

theorem aL.yL (h:p.ok=true){i:Nat}(hi:i<p.n):((p.it i).kind=1∧0≤(p.it i).target∧(p.it i).target≤1440)∨((p.it i).kind=2∧(p.it i).target=0∧(p.it i).free=false):=by
 have:=aL.H6 (aL.nV h).2.1 hi
 simp only[aL.yY,Bool.and_eq_true,Bool.or_eq_true,beq_iff_eq,Bool.not_eq_true'] at this
 rcases this.2.2 with⟨h1,h2⟩ | ⟨h1,h2,h3⟩
 ·exact .inl ⟨h1,iG h2⟩
 ·exact .inr ⟨h1,h2,h3⟩

theorem aL.Ct (h : p.ok = true) : ∀ {i k : Nat}, i ≤ k → k < p.n → (p.it i).iy ≤ (p.it k).iy
  | i, 0, h1, _ => by obtain rfl : i = 0 := by omega
                      omega
  | i, k + 1, h1, h2 => by
    rcases Nat.lt_or_ge k i with h3 | h3
    · obtain rfl : i = k + 1 := by omega
      omega
    · have ih := aL.Ct h h3 (by omega)
      have := aL.H6 (aL.nV h).2.1 h2
      simp only [aL.yY, Bool.and_eq_true, Bool.or_eq_true, beq_iff_eq, Nat.add_sub_cancel] at this
      rcases this.1 with h4 | h4
      · omega
      · have := iG h4
        omega

theorem j6.aal (hp:p.ok=true)(h:j6 p c){i:Nat}(hi:i<p.n):(p.it i).iy.toNat<c.dH.length∧0≤c.st (p.it i).iy.toNat∧c.st (p.it i).iy.toNat≤100000:=by
 have h1:=aL.qR hp hi
 have h2:=aL.Ct hp (i:=i) (k:=p.n-1) (by omega) (by omega)
 have h3:=h.stl
 unfold aL.js at h3
 have h4:(p.it i).iy.toNat<c.dH.length:=by omega
 exact⟨h4,h.st _ h4⟩

theorem j6.due (hp:p.ok=true)(h:j6 p c){i:Nat}(hi:i<p.n):0≤jt p c i∧jt p c i≤101440:=by
 have h1:=aL.yL hp hi
 have h2:=h.aal hp hi
 have h3:=h.minute (i:=i-1) (by omega)
 unfold jt
 split <;> omega

theorem j6.late (hp:p.ok=true)(h:j6 p c){i:Nat}(hi:i<p.n):0≤cO p c i∧cO p c i≤100000:=by
 have h1:=h.due hp hi
 have h2:=h.minute hi
 unfold cO
 split <;> omega

theorem j6.early (hp:p.ok=true)(h:j6 p c){i:Nat}(hi:i<p.n):0≤Qay p c i∧Qay p c i≤101440:=by
 have h1:=h.due hp hi
 have h2:=h.minute hi
 unfold Qay
 split <;> omega

theorem j6.sum (hp:p.ok=true)(h:j6 p c)(l:Int):∀{i:Nat},i≤p.n→0≤fA p c l i∧fA p c l i≤100000*i
 | 0,_=>by simp[fA]
 | i+1,hi=>by
  have ih:=h.sum hp l (i:=i) (by omega)
  have:=h.late hp (i:=i) (by omega)
  rw[fA]
  split <;> omega
end

section
open Go.Proofs
set_option maxRecDepth 100000
set_option maxHeartbeats 4000000

attribute [local irreducible] gR fV dQ

variable {bs:List D} {p:aL} {c:aS}

theorem ZO {k:Nat}(h:k<c.dH.length):D.aj 1 (Is c.dH) (In k)=some (.ptr [I (c.st k)]):=by
 have:=b_ (enc:=I) (sz:=1) (xs:=c.dH) h rfl
 simpa[aS.st,List.getD,h,D.cells] using this


theorem c88 (hok:p.ok=true)(h:j6 p c){i:Nat}(hi:i<p.n):aP Tryz.prog 88 (.st bs) [p.d,c.d,In i] (I (jt p c i)):=by
 have hh:=aL.gi hok
 have GN:=aL.yL hok hi
 have hst:=h.aal hok hi
 have Zx:=aL.qR hok hi
 have qz:=h.len
 have hmn:=h.minute hi
 have heL:D.aj 1 (Is c.dH) (I (p.it i).iy)=some (.ptr [I (c.st (p.it i).iy.toNat)]):=by
  have:=ZO (c:=c) hst.1
  rwa [In,show((p.it i).iy.toNat:Int)=(p.it i).iy by omega] at this
 unfold jt
 by_cases h0:i=0
 ·have xV:decide ((i:Int) > 0)=false:=by simp[h0]
  rw[if_neg (by simp[h0])]
  refine aaK.R rfl rfl ?_
  unfold u88
  simp only[aC,aG,List.cons_append,List.nil_append]
  repeat' (first|(apply bp;simp only[ai];rfl)|(apply ir;rfl;exact xV)|(apply aK;rfl;exact rfl)|(apply aN;rfl)|(apply aA;rfl;rfl;(·first|exact dR hi|exact heL);simp only[ai];rfl)|(apply bM;rfl;rfl;omega;simp only[ai];rfl)|(apply aD;rfl;simp only[ai];rfl)|exact aq rfl rfl)
 ·have xV:1≤i:=by omega
  have aly:=h.minute (i:=i-1) (by omega)
  have hzt:decide ((i:Int) > 0)=true:=by simp;omega
  have hzn:(i != 0)=true:=by simp[h0]
  cases hb:(p.it (i-1)).iy==(p.it i).iy
  ·have hf:(decide ((i:Int) > 0)&&(p.it (i-1)).iy==(p.it i).iy)=false:=by rw[hb,Bool.and_false]
   rw[if_neg (by simp)]
   refine aaK.R rfl rfl ?_
   unfold u88
   simp only[aC,aG,List.cons_append,List.nil_append]
   repeat' (first|(apply bp;simp only[ai];rfl)|(apply aK;rfl;exact hf)|(apply aN;rfl)|(apply aA;rfl;rfl;(·first|exact dR hi|exact dR (Nat.lt_of_le_of_lt (Nat.sub_le i 1) hi)|exact heL);simp only[ai];rfl)|(apply bZ;rfl;omega;simp only[ai];rfl)|(apply bM;rfl;rfl;omega;simp only[ai];rfl)|(apply aD;rfl;simp only[ai];rfl)|(apply bg;rfl)|exact aq rfl rfl|(intro hz;(try simp only[bA] at hz)))
  ·have ht:(decide ((i:Int) > 0)&&(p.it (i-1)).iy==(p.it i).iy)=true:=by rw[hb,hzt];rfl
   rw[if_pos (by rw[hzn];rfl)]
   refine aaK.R rfl rfl ?_
   unfold u88
   simp only[aC,aG,List.cons_append,List.nil_append]
   repeat' (first|(apply bp;simp only[ai];rfl)|(apply aH;rfl;exact ht)|(apply aN;rfl)|(apply aA;rfl;rfl;(·first|exact dR hi|exact dR (Nat.lt_of_le_of_lt (Nat.sub_le i 1) hi)|exact cQ (by omega));simp only[ai];rfl)|(apply bZ;rfl;omega;simp only[ai];rfl)|(apply bM;rfl;rfl;omega;simp only[ai];rfl)|(apply aD;rfl;simp only[ai];rfl)|(apply bg;rfl)|exact aq rfl rfl|(intro hz;(try simp only[bA] at hz)))

def l7 (p:aL)(c:aS)(i:Nat):Int:=if FV p c i=true then(if(c.ln i).minute > jt p c i then 1 else if(c.ln i).minute<jt p c i then 2 else 0) else 0
def yu (p:aL)(c:aS)(i:Nat):Int:=if FV p c i=true then(if(c.ln i).minute > jt p c i then(c.ln i).minute-jt p c i else jt p c i-(c.ln i).minute) else 0

theorem Wy (hok:p.ok=true)(h:j6 p c){i:Nat}(hi:i<p.n):aP Tryz.prog 119 (.st bs) [p.d,c.d,In i] (.bh [I (l7 p c i),I (yu p c i)]):=by
 have hd:=h.due hok hi
 have hm:=h.minute hi
 have qz:=h.len
 have h88:=c88 (bs:=bs) hok h hi
 refine aeS.R rfl rfl ?_
 unfold ade
 simp only[aC,aG,List.cons_append,List.nil_append]
 repeat' (first|(apply bp;simp only[ai];rfl)|(apply aN;rfl)|(apply aA;rfl;rfl;(·first|exact dR hi|exact cQ (by omega));simp only[ai];rfl)|(apply cC;rfl;rfl;omega;simp only[ai];rfl)|(apply aD;rfl;simp only[ai];rfl)|(apply aF;rfl;rfl;exact h88;rfl;simp only[ai];rfl)|(apply bL;rfl)|refine au ?_|(apply av;rfl;rfl)|refine Qav ?_|refine kj rfl ?_|(apply aX;rfl;all_goals (intro hz;(try simp only[bA] at hz);first|(exact absurd hz (by decide))|(exfalso;omega)|skip))|exact aq rfl rfl|(apply aq;rfl;first|exact rfl|(refine bH ?_)|(refine bF ?_)|(refine bG ?_))|(intro hz;(try simp only[bA] at hz)))
 ·have xV:FV p c i=false:=by
   rw[Bool.eq_false_iff]
   simp only[FV,ne_eq,Bool.and_eq_true,beq_iff_eq,bne_iff_ne]
   omega
  simp[l7,yu,xV]
 all_goals
  have xV:FV p c i=true:=by
   simp only[FV,Bool.and_eq_true,beq_iff_eq,bne_iff_ne]
   omega
  simp only[l7,yu,if_pos xV]
 ·rw[if_pos (by omega),if_pos (by omega)]
 ·rw[if_neg (by omega),if_pos (by omega),if_neg (by omega),wrap64 (by omega)]
  rw[show(0:Int)-((c.ln i).minute-jt p c i)=jt p c i-(c.ln i).minute by omega]
 ·rw[if_neg (by omega),if_neg (by omega),if_neg (by omega),show jt p c i-(c.ln i).minute=0 by omega]

theorem vI {i:Nat}:(l7 p c i==1)=decide (cO p c i > 0):=by
 unfold l7 cO
 split
 ·split
  ·rw[show decide (_ > _)=true by simp;omega];rfl
  ·rw[show decide (_ > _)=false by simp;omega]
   split <;> rfl
 ·rfl

theorem Cn {i:Nat}(h:l7 p c i=1):yu p c i=cO p c i:=by
 unfold l7 at h
 unfold yu cO
 split at h
 ·rename_i hc
  rw[if_pos hc,if_pos hc]
  split at h
  ·rename_i hm
   rw[if_pos hm]
   omega
  ·split at h <;> cases h
 ·cases h

theorem ach (n:Int):aP Tryz.prog 118 (.st bs) [p.d,I n] (.fn 139 [] [.ptr p.cs,.ptr [I n]]):=by
 refine aeT.R rfl rfl ?_
 unfold adf
 simp only[aC,aG,List.cons_append,List.nil_append]
 repeat' (first|(apply aD;rfl;simp only[ai];rfl)|exact aq rfl rfl)
end

section
open Go.Proofs
set_option maxRecDepth 100000
set_option maxHeartbeats 4000000

attribute [local irreducible] gR fV dQ

variable {bs:List D} {p:aL} {c:aS}

section
variable {k0:Nat} {rec:Loop×Code} {sl:List Nat} {fk:List D} {n:Int}

theorem Mh (hN:p.n≤100)(F:Nat→List D)(h1:∀i,i<p.n→(p.it i).iy=n→q7 Tryz.prog (.tW k0 rec sl fk) (.st (F i)) [In i] true (.st (F (i+1))))(h2:∀i,i<p.n→(p.it i).iy≠n→F (i+1)=F i) :
  bk Tryz.prog 139 (.st (F 0)) [.tW k0 rec sl fk,.ptr p.cs,.ptr [I n]] (.bh []) (.st (F p.n)):=by
 refine Zf.W rfl ?_
 unfold Z_
 simp only[aC,aG,List.cons_append,List.nil_append]
 repeat' (first|(apply aN;rfl)|(apply ar;rfl;exact cT;simp only[ai];rfl)|(apply aD;rfl;simp only[ai];rfl)|refine au ?_)
 refine bf (fun i=>[In i,.st (F i)]) (fun _=>True) p.n rfl (fun _=>rfl) trivial (fun i hi _ R hR=>?_) (fun _ R=>?_)
 ·have gH:decide ((i:Int)<(p.n:Int))=true:=by simp;omega
  have hR:=hR trivial
  cases he:(p.it i).iy==n
  ·have e:=h2 i hi (by simpa using he)
   rw[e] at hR
   repeat' (first|(apply bp;simp only[ai];rfl)|((apply Pp (.v (.bool false)));rfl;exact he;rfl;simp only[ai];rfl)|(apply ir;rfl;exact he)|(apply aH;rfl;exact gH)|(apply aK;rfl;exact rfl)|(apply aN;rfl)|(apply aA;rfl;rfl;exact dR hi;simp only[ai];rfl)|(apply aW;rfl;omega;simp only[ai];rfl)|(apply aD;rfl;simp only[ai];rfl)|refine au ?_|(apply av;rfl;rfl)|refine Qav ?_|refine kj rfl ?_)
   exact hR
  ·have hc:tQ Tryz.prog (.tW k0 rec sl fk) (.st (F i)) [In i] (.v (.bool true)) (.st (F (i+1))):=⟨true,rfl,h1 i hi (by simpa using he)⟩
   repeat' (first|(apply bp;simp only[ai];rfl)|(apply MO;rfl;exact he;rfl;rfl;rfl;exact hc;rfl;simp only[ai];rfl)|(apply aH;rfl;exact gH)|(apply aK;rfl;exact Bool.and_false _)|(apply aN;rfl)|(apply aA;rfl;rfl;exact dR hi;simp only[ai];rfl)|(apply aW;rfl;omega;simp only[ai];rfl)|(apply aD;rfl;simp only[ai];rfl)|(apply bg;rfl)|refine au ?_|(apply av;rfl;rfl)|refine Qav ?_|refine kj rfl ?_|exact aq rfl rfl|(intro hz;(try simp only[bA] at hz)))
   all_goals (try exact hR)
 ·have hlf:decide ((p.n:Int)<(p.n:Int))=false:=by simp
  repeat' (first|(apply bp;simp only[ai];rfl)|(apply aK;rfl;exact hlf)|(apply aD;rfl;simp only[ai];rfl)|(apply av;rfl;rfl)|refine Qav ?_|(refine aB (by decide) ?_)|refine kj rfl ?_|exact aq rfl rfl)

theorem SJ (hN:p.n≤100)(F:Nat→List D)(G:List D)(m:Nat)(hm:m<p.n)(hl:(p.it m).iy=n)(h1:∀i,i<m→(p.it i).iy=n→q7 Tryz.prog (.tW k0 rec sl fk) (.st (F i)) [In i] true (.st (F (i+1))))(h2:∀i,i<m→(p.it i).iy≠n→F (i+1)=F i)(h3:q7 Tryz.prog (.tW k0 rec sl fk) (.st (F m)) [In m] false (.st G)) :
  bk Tryz.prog 139 (.st (F 0)) [.tW k0 rec sl fk,.ptr p.cs,.ptr [I n]] (.bh []) (.st G):=by
 refine Zf.W rfl ?_
 unfold Z_
 simp only[aC,aG,List.cons_append,List.nil_append]
 repeat' (first|(apply aN;rfl)|(apply ar;rfl;exact cT;simp only[ai];rfl)|(apply aD;rfl;simp only[ai];rfl)|refine au ?_)
 refine bf (fun i=>[In i,.st (F i)]) (fun i=>i≤m) p.n rfl (fun _=>rfl) (Nat.zero_le _) (fun i hi hJ R hR=>?_) (fun hJ R=>?_)
 ·have gH:decide ((i:Int)<(p.n:Int))=true:=by simp;omega
  rcases Nat.lt_or_ge i m with him | him
  ·have hR:=hR (by omega)
   cases he:(p.it i).iy==n
   ·have e:=h2 i him (by simpa using he)
    rw[e] at hR
    repeat' (first|(apply bp;simp only[ai];rfl)|((apply Pp (.v (.bool false)));rfl;exact he;rfl;simp only[ai];rfl)|(apply ir;rfl;exact he)|(apply aH;rfl;exact gH)|(apply aK;rfl;exact rfl)|(apply aN;rfl)|(apply aA;rfl;rfl;exact dR hi;simp only[ai];rfl)|(apply aW;rfl;omega;simp only[ai];rfl)|(apply aD;rfl;simp only[ai];rfl)|refine au ?_|(apply av;rfl;rfl)|refine Qav ?_|refine kj rfl ?_)
    exact hR
   ·have hc:tQ Tryz.prog (.tW k0 rec sl fk) (.st (F i)) [In i] (.v (.bool true)) (.st (F (i+1))):=⟨true,rfl,h1 i him (by simpa using he)⟩
    repeat' (first|(apply bp;simp only[ai];rfl)|(apply MO;rfl;exact he;rfl;rfl;rfl;exact hc;rfl;simp only[ai];rfl)|(apply aH;rfl;exact gH)|(apply aK;rfl;exact Bool.and_false _)|(apply aN;rfl)|(apply aA;rfl;rfl;exact dR hi;simp only[ai];rfl)|(apply aW;rfl;omega;simp only[ai];rfl)|(apply aD;rfl;simp only[ai];rfl)|(apply bg;rfl)|refine au ?_|(apply av;rfl;rfl)|refine Qav ?_|refine kj rfl ?_|exact aq rfl rfl|(intro hz;(try simp only[bA] at hz)))
    all_goals (try exact hR)
  ·obtain rfl:i=m:=by omega
   have he:((p.it i).iy==n)=true:=by simpa using hl
   have ht:(((p.it i).iy==n)&&true)=true:=by rw[he];rfl
   have hc:tQ Tryz.prog (.tW k0 rec sl fk) (.st (F i)) [In i] (.v (.bool false)) (.st G):=⟨false,rfl,h3⟩
   repeat' (first|(apply bp;simp only[ai];rfl)|(apply MO;rfl;exact he;rfl;rfl;rfl;exact hc;rfl;simp only[ai];rfl)|(apply aH;rfl;(·first|exact gH|exact ht))|(apply aN;rfl)|(apply aA;rfl;rfl;exact dR hi;simp only[ai];rfl)|(apply aD;rfl;simp only[ai];rfl)|(apply bg;rfl)|refine au ?_|exact aq rfl rfl|(apply aq;rfl;first|exact rfl|(refine bH ?_)|(refine bF ?_)|(refine bG ?_))|(intro hz;(try simp only[bA] at hz)))
 ·exact absurd hJ (by omega)

end
end

section
open Go.Proofs
set_option maxRecDepth 100000
set_option maxHeartbeats 4000000

attribute [local irreducible] gR fV dQ

variable {bs:List D} {p:aL} {c:aS}

abbrev vb (n:Int):D:=.blk 3 1 [I n]

def aaG (p:aL)(c:aS):Nat→List D
 | 0=>[]
 | k+1=>aaG p c k++[vb k,vb (fA p c k p.n),.bh []]

def kq (p:aL)(c:aS)(k:Nat):List D:=vb 0 :: vb (p.it (p.n-1)).iy :: aaG p c k

def fZ (p:aL)(c:aS)(k:Nat)(x:D)(i:Nat):List D:=(kq p c k++[vb k])++vb (fA p c k i) :: [x]

theorem lH {k i:Nat}{x y:D}:(fZ p c k x i).set ((kq p c k++[vb k])++[vb 0]).length y=fZ p c k y i:=by
 unfold fZ
 rw[List.set_append_right _ _ (by simp)]
 simp

theorem lI {k i:Nat}{x:D}:(fZ p c k x i)[((kq p c k++[vb k])++[vb 0]).length]? = some x:=by
 unfold fZ
 rw[List.getElem?_append_right (by simp)]
 simp

theorem uL {k i:Nat}{x:D}:D.ld false 1 (.st (fZ p c k x i)) (.loc (kq p c k).length 0)=some (I k):=by
 unfold fZ
 rw[List.append_assoc]
 exact qV

theorem uK {k i:Nat}{x:D}:D.ld false 1 (.st (fZ p c k x i)) (.loc (kq p c k++[vb k]).length 0)=some (I (fA p c k i)):=qV

theorem mc {k i:Nat}{x:D}:D.ld false 1 (.st (fZ p c k x i)) (.loc 1 0)=some (I (p.it (p.n-1)).iy):=gX (e:=3) (sz:=1) (cs:=[I (p.it (p.n-1)).iy]) rfl rfl

theorem yV {k i:Nat}{x:D}:D.gQ 1 (.st (fZ p c k x i)) (.loc (kq p c k++[vb k]).length 0) (I (fA p c k (i+1)))=some (.st (fZ p c k x (i+1))):=yh rfl

def FE (p:aL)(c:aS)(k:Nat)(x:D)(i:Nat)(r:Int):List D:=vb r :: (fZ p c k x i).tail

theorem KV {k i:Nat}{x:D}{r:Int}:D.gQ 1 (.st (fZ p c k x i)) (.loc 0 0) (I r)=some (.st (FE p c k x i r)):=yh (bs:=[]) (r:=(fZ p c k x i).tail) (e:=3) (sz:=1) (d0:=I 0) (d:=I r) rfl

theorem KT {k i:Nat}{x y:D}{r:Int}:(FE p c k x i r).set ((kq p c k++[vb k])++[vb 0]).length y=FE p c k y i r:=by
 have:=lH (p:=p) (c:=c) (k:=k) (i:=i) (x:=x) (y:=y)
 simp only[FE,fZ,kq,List.cons_append,List.length_cons,List.set_cons_succ,List.tail_cons,List.cons.injEq,true_and] at this ⊢
 exact this

theorem KU {k i:Nat}{x:D}{r:Int}:(FE p c k x i r)[((kq p c k++[vb k])++[vb 0]).length]? = some x:=by
 have:=lI (p:=p) (c:=c) (k:=k) (i:=i) (x:=x)
 simp only[FE,fZ,kq,List.cons_append,List.length_cons,List.getElem?_cons_succ,List.tail_cons] at this ⊢
 exact this

theorem KW {k:Nat}:fZ p c k (.bh []) p.n=kq p c (k+1):=by simp[fZ,kq,aaG]

theorem AH {k:Nat}{x:D}:((kq p c k++[vb k])++[vb 0])++[x]=fZ p c k x 0:=by simp[fZ,fA]

theorem Uz {k:Nat}:D.ld false 1 (.st ((kq p c k++[vb k])++[vb 0])) (.loc (kq p c k).length 0)=some (I k):=by
 rw[List.append_assoc]
 exact qV

theorem NK {k:Nat}:D.gQ 1 (.st (kq p c k++[vb 0])) (.loc (kq p c k).length 0) (I k)=some (.st (kq p c k++[vb k])):=yh rfl
theorem NJ {k:Nat}:D.gQ 1 (.st ((kq p c k++[vb k])++[vb 0])) (.loc (kq p c k++[vb k]).length 0) (I 0)=some (.st ((kq p c k++[vb k])++[vb 0])):=yh rfl








theorem Ww (hp:p.Ok)(hok:p.ok=true)(h:j6 p c)(hno:∀i,i<p.n→stops p c i=false):bk Tryz.prog 89 (.st []) [p.d,c.d] (I (-1)) (.st (vb (-1) :: (kq p c p.js.toNat).tail)):=by
 have hh:=aL.gi hok
 have qz:=h.len
 have Zx:=aL.yK hok
 have hl:=aL.qR hok (i:=p.n-1) (by omega)
 refine aeH.W rfl ?_
 unfold u89
 simp only[aC,aG,List.cons_append,List.nil_append]
 repeat' (first|(apply aN;rfl)|(apply aA;rfl;rfl;exact I8 hh.1.1;simp only[ai];rfl)|(apply ar;rfl;exact cT;simp only[ai];rfl)|(apply bM;rfl;rfl;omega;simp only[ai];rfl)|(apply cC;rfl;rfl;omega;simp only[ai];rfl)|(apply aD;rfl;simp only[ai];rfl)|refine au ?_)
 refine bf (fun k=>[In k,.st (kq p c k)]) (fun _=>True) p.js.toNat rfl (fun _=>rfl) trivial (fun k hk _ R hR=>?_) (fun _ R=>?_)
 ·have hR:=hR trivial
  have k9:decide ((k:Int)<(p.it (p.n-1)).iy+1)=true:=by
   unfold aL.js at hk
   simp;omega
  repeat' (first|(apply bp;simp only[ai];rfl)|(apply aH;rfl;exact k9)|(apply jI;rfl;rfl;exact Uz;simp only[ai];rfl)|(apply kT;rfl;rfl;rfl;(·first|exact NK|exact NJ);simp only[ai];rfl)|(apply aD;rfl;simp only[ai];rfl)|(apply aF;rfl;rfl;exact ach _;rfl;simp only[ai];rfl)|refine au ?_)
  refine Hw (bs':=fZ p c k (.bh []) p.n) (.bh []) false rfl (by kernel_rfl) rfl rfl lI (fun rec gp=>?_) (fun _=>?_) (fun e=>by cases e)
  ·rw[AH,lH]
   refine Mh hh.1.2 (fZ p c k (.oM false)) (fun i hi hik=>?_) (fun i hi hik=>by unfold fZ;rw[fA,if_neg hik,Int.add_zero])
   have k_:=gp (fZ p c k (.oM false) i) [In i] true (fZ p c k (.bh []) (i+1)) lI rfl lI
   rw[lH,lH] at k_
   refine k_ ?_
   have oa:stops p c i=false:=hno i hi
   have tJ:p.js-1=(p.it (p.n-1)).iy:=by unfold aL.js;omega
   have hL:=h.late hok hi
   have hs:=h.sum hok (k:Int) (i:=i) (by omega)
   have oR:=Wy (bs:=fZ p c k (.bh []) i) hok h hi
   have xB:=vI (p:=p) (c:=c) (i:=i)
   have tT:fA p c k (i+1)=fA p c k i+cO p c i:=by rw[fA,if_pos hik]
   have IK:D.gQ 1 (.st (fZ p c k (.bh []) i)) (.loc (kq p c k++[vb k]).length 0) (I (fA p c k i+cO p c i))=some (.st (fZ p c k (.bh []) (i+1))):=by
    rw[←tT]
    exact yV
   have Yj:D.ld false 1 (.st (fZ p c k (.bh []) (i+1))) (.loc (kq p c k++[vb k]).length 0)=some (I (fA p c k i+cO p c i)):=by
    rw[←tT]
    exact uK
   rw[stops,hik,tJ,tT] at oa
   rw[Bool.or_eq_false_iff,Bool.or_eq_false_iff] at oa
   obtain⟨⟨hn1,hn2⟩,Vb⟩:=oa
   clear k_ gp
   simp only[List.cons_append,List.nil_append]
   cases hlt:decide (cO p c i > 0)
   ·have hz:cO p c i=0:=by simp at hlt;omega
    have e:fZ p c k (.bh []) (i+1)=fZ p c k (.bh []) i:=by unfold fZ;rw[tT,hz,Int.add_zero]
    rw[hlt] at xB
    rw[e]
    repeat' (first|(apply bp;simp only[ai];rfl)|(apply aK;rfl;(·first|exact Vb|exact xB))|(apply aN;rfl)|(apply jI;rfl;rfl;(·first|exact uL|exact mc);simp only[ai];rfl)|(apply aA;rfl;rfl;(·exact cQ (by omega));simp only[ai];rfl)|(apply aD;rfl;simp only[ai];rfl)|(apply aF;rfl;rfl;exact oR;rfl;simp only[ai];rfl)|(apply bL;rfl)|(apply bg;rfl)|refine au ?_|(apply av;rfl;rfl)|refine Qav ?_|refine kj rfl ?_|exact aq rfl rfl|(intro hz;(try simp only[bA] at hz)))
    all_goals exact rfl
   ·have hk1:l7 p c i=1:=by rw[hlt] at xB;simpa using xB
    rw[hk1,Cn hk1] at oR
    rw[hlt,Bool.true_and] at hn2
    have MC:(decide (cO p c i > p.jW)||decide (fA p c k i+cO p c i > p.jX))=false:=by rw[hn1,hn2];rfl
    repeat' (first|(apply bp;simp only[ai];rfl)|(apply aH;rfl;exact rfl)|(apply aK;rfl;(·first|exact Vb|exact MC))|(apply aN;rfl)|(apply jI;rfl;rfl;(·first|exact uL|exact Yj|exact uK|exact mc);simp only[ai];rfl)|(apply aA;rfl;rfl;(·exact cQ (by omega));simp only[ai];rfl)|(apply kT;rfl;rfl;rfl;exact IK;simp only[ai];rfl)|(apply bM;rfl;rfl;omega;simp only[ai];rfl)|(apply aD;rfl;simp only[ai];rfl)|(apply aF;rfl;rfl;exact oR;rfl;simp only[ai];rfl)|(apply bL;rfl)|(apply bg;rfl)|refine au ?_|(apply av;rfl;rfl)|refine Qav ?_|refine kj rfl ?_|exact aq rfl rfl|(intro hz;(try simp only[bA] at hz)))
    all_goals exact rfl
  ·rw[KW]
   repeat' (first|(apply bp;simp only[ai];rfl)|(apply aW;rfl;omega;simp only[ai];rfl)|(apply av;rfl;rfl)|refine Qav ?_|refine kj rfl ?_)
   exact hR
 ·have k9:decide ((p.js.toNat:Int)<(p.it (p.n-1)).iy+1)=false:=by
   unfold aL.js
   simp;omega
  have IK:D.gQ 1 (.st (kq p c p.js.toNat)) (.loc 0 0) (I (-1))=some (.st (vb (-1) :: (kq p c p.js.toNat).tail)):=yh (bs:=[]) (r:=(kq p c p.js.toNat).tail) (e:=3) (sz:=1) (d0:=I 0) (d:=I (-1)) rfl
  repeat' (first|(apply bp;simp only[ai];rfl)|(apply aK;rfl;exact k9)|(apply kT;rfl;rfl;rfl;exact IK;simp only[ai];rfl)|(apply aD;rfl;simp only[ai];rfl)|(apply av;rfl;rfl)|refine Qav ?_|(refine aB (by decide) ?_)|refine kj rfl ?_|exact aq rfl rfl)

def HE (p:aL)(c:aS)(m:Nat):Nat:=if((c.ln m).mark==2&&(!p.ret||(p.it m).iy==(p.it (p.n-1)).iy))=true then m else m+1

theorem Wv (hp:p.Ok)(hok:p.ok=true)(h:j6 p c){m:Nat}(hm:m<p.n)(hst:stops p c m=true)(hno:∀i,i<m→stops p c i=false):bk Tryz.prog 89 (.st []) [p.d,c.d] (I m) (.st (FE p c (p.it m).iy.toNat (.bh []) (HE p c m) m)):=by
 have JH:=aL.qR hok hm
 have MB:=(aL.nV hok).2.2.1
 simp only[aL.iZ,Bool.and_eq_true] at MB
 have MB:=iG MB.2.2.2.1
 have hle:=aL.Ct hok (i:=m) (k:=p.n-1) (by omega) (by omega)
 have hh:=aL.gi hok
 have qz:=h.len
 have Zx:=aL.yK hok
 have hl:=aL.qR hok (i:=p.n-1) (by omega)
 refine aeH.W rfl ?_
 unfold u89
 simp only[aC,aG,List.cons_append,List.nil_append]
 repeat' (first|(apply aN;rfl)|(apply aA;rfl;rfl;exact I8 hh.1.1;simp only[ai];rfl)|(apply ar;rfl;exact cT;simp only[ai];rfl)|(apply bM;rfl;rfl;omega;simp only[ai];rfl)|(apply cC;rfl;rfl;omega;simp only[ai];rfl)|(apply aD;rfl;simp only[ai];rfl)|refine au ?_)
 refine bf (fun k=>[In k,.st (kq p c k)]) (fun k=>(k:Int)≤(p.it m).iy) p.js.toNat rfl (fun _=>rfl) (by omega) (fun k hk hJ R hR=>?_) (fun hJ R=>?_)
 ·rcases Int.lt_or_le k (p.it m).iy with hkm | hkm
  ·have hR:=hR (by omega)
   have k9:decide ((k:Int)<(p.it (p.n-1)).iy+1)=true:=by
    unfold aL.js at hk
    simp;omega
   repeat' (first|(apply bp;simp only[ai];rfl)|(apply aH;rfl;exact k9)|(apply jI;rfl;rfl;exact Uz;simp only[ai];rfl)|(apply kT;rfl;rfl;rfl;(·first|exact NK|exact NJ);simp only[ai];rfl)|(apply aD;rfl;simp only[ai];rfl)|(apply aF;rfl;rfl;exact ach _;rfl;simp only[ai];rfl)|refine au ?_)
   refine Hw (bs':=fZ p c k (.bh []) p.n) (.bh []) false rfl (by kernel_rfl) rfl rfl lI (fun rec gp=>?_) (fun _=>?_) (fun e=>by cases e)
   ·rw[AH,lH]
    refine Mh hh.1.2 (fZ p c k (.oM false)) (fun i hi hik=>?_) (fun i hi hik=>by unfold fZ;rw[fA,if_neg hik,Int.add_zero])
    have k_:=gp (fZ p c k (.oM false) i) [In i] true (fZ p c k (.bh []) (i+1)) lI rfl lI
    rw[lH,lH] at k_
    refine k_ ?_
    have oa:stops p c i=false:=(hno i (by rcases Nat.lt_or_ge i m with h1 | h1;exact h1;have:=aL.Ct hok h1 hi;omega))
    have tJ:p.js-1=(p.it (p.n-1)).iy:=by unfold aL.js;omega
    have hL:=h.late hok hi
    have hs:=h.sum hok (k:Int) (i:=i) (by omega)
    have oR:=Wy (bs:=fZ p c k (.bh []) i) hok h hi
    have xB:=vI (p:=p) (c:=c) (i:=i)
    have tT:fA p c k (i+1)=fA p c k i+cO p c i:=by rw[fA,if_pos hik]
    have IK:D.gQ 1 (.st (fZ p c k (.bh []) i)) (.loc (kq p c k++[vb k]).length 0) (I (fA p c k i+cO p c i))=some (.st (fZ p c k (.bh []) (i+1))):=by
     rw[←tT]
     exact yV
    have Yj:D.ld false 1 (.st (fZ p c k (.bh []) (i+1))) (.loc (kq p c k++[vb k]).length 0)=some (I (fA p c k i+cO p c i)):=by
     rw[←tT]
     exact uK
    rw[stops,hik,tJ,tT] at oa
    rw[Bool.or_eq_false_iff,Bool.or_eq_false_iff] at oa
    obtain⟨⟨hn1,hn2⟩,Vb⟩:=oa
    clear k_ gp
    simp only[List.cons_append,List.nil_append]
    cases hlt:decide (cO p c i > 0)
    ·have hz:cO p c i=0:=by simp at hlt;omega
     have e:fZ p c k (.bh []) (i+1)=fZ p c k (.bh []) i:=by unfold fZ;rw[tT,hz,Int.add_zero]
     rw[hlt] at xB
     rw[e]
     repeat' (first|(apply bp;simp only[ai];rfl)|(apply aK;rfl;(·first|exact Vb|exact xB))|(apply aN;rfl)|(apply jI;rfl;rfl;(·first|exact uL|exact mc);simp only[ai];rfl)|(apply aA;rfl;rfl;(·exact cQ (by omega));simp only[ai];rfl)|(apply aD;rfl;simp only[ai];rfl)|(apply aF;rfl;rfl;exact oR;rfl;simp only[ai];rfl)|(apply bL;rfl)|(apply bg;rfl)|refine au ?_|(apply av;rfl;rfl)|refine Qav ?_|refine kj rfl ?_|exact aq rfl rfl|(intro hz;(try simp only[bA] at hz)))
     all_goals exact rfl
    ·have hk1:l7 p c i=1:=by rw[hlt] at xB;simpa using xB
     rw[hk1,Cn hk1] at oR
     rw[hlt,Bool.true_and] at hn2
     have MC:(decide (cO p c i > p.jW)||decide (fA p c k i+cO p c i > p.jX))=false:=by rw[hn1,hn2];rfl
     repeat' (first|(apply bp;simp only[ai];rfl)|(apply aH;rfl;exact rfl)|(apply aK;rfl;(·first|exact Vb|exact MC))|(apply aN;rfl)|(apply jI;rfl;rfl;(·first|exact uL|exact Yj|exact uK|exact mc);simp only[ai];rfl)|(apply aA;rfl;rfl;(·exact cQ (by omega));simp only[ai];rfl)|(apply kT;rfl;rfl;rfl;exact IK;simp only[ai];rfl)|(apply bM;rfl;rfl;omega;simp only[ai];rfl)|(apply aD;rfl;simp only[ai];rfl)|(apply aF;rfl;rfl;exact oR;rfl;simp only[ai];rfl)|(apply bL;rfl)|(apply bg;rfl)|refine au ?_|(apply av;rfl;rfl)|refine Qav ?_|refine kj rfl ?_|exact aq rfl rfl|(intro hz;(try simp only[bA] at hz)))
     all_goals exact rfl
   ·rw[KW]
    repeat' (first|(apply bp;simp only[ai];rfl)|(apply aW;rfl;omega;simp only[ai];rfl)|(apply av;rfl;rfl)|refine Qav ?_|refine kj rfl ?_)
    exact hR
  ·have hke:(p.it m).iy=(k:Int):=by omega
   have hkn:(p.it m).iy.toNat=k:=by omega
   have k9:decide ((k:Int)<(p.it (p.n-1)).iy+1)=true:=by
    unfold aL.js at hk
    simp;omega
   repeat' (first|(apply bp;simp only[ai];rfl)|(apply aH;rfl;exact k9)|(apply jI;rfl;rfl;exact Uz;simp only[ai];rfl)|(apply kT;rfl;rfl;rfl;(·first|exact NK|exact NJ);simp only[ai];rfl)|(apply aD;rfl;simp only[ai];rfl)|(apply aF;rfl;rfl;exact ach _;rfl;simp only[ai];rfl)|refine au ?_)
   rw[hkn]
   refine Hw (bs':=FE p c k (.bh []) (HE p c m) m) (.bh []) true rfl (by kernel_rfl) rfl rfl KU (fun rec gp=>?_) (fun e=>by cases e) (fun _=>?_)
   ·rw[AH,KT]
    refine SJ hh.1.2 (fZ p c k (.oM false)) _ m hm hke (fun i hi hik=>?_) (fun i hi hik=>by unfold fZ;rw[fA,if_neg hik,Int.add_zero]) ?_
    ·have hi':=hi
     have hi:=Nat.lt_trans hi hm
     have k_:=gp (fZ p c k (.oM false) i) [In i] true (fZ p c k (.bh []) (i+1)) lI rfl lI
     rw[lH,lH] at k_
     refine k_ ?_
     have oa:stops p c i=false:=hno i hi'
     have tJ:p.js-1=(p.it (p.n-1)).iy:=by unfold aL.js;omega
     have hL:=h.late hok hi
     have hs:=h.sum hok (k:Int) (i:=i) (by omega)
     have oR:=Wy (bs:=fZ p c k (.bh []) i) hok h hi
     have xB:=vI (p:=p) (c:=c) (i:=i)
     have tT:fA p c k (i+1)=fA p c k i+cO p c i:=by rw[fA,if_pos hik]
     have IK:D.gQ 1 (.st (fZ p c k (.bh []) i)) (.loc (kq p c k++[vb k]).length 0) (I (fA p c k i+cO p c i))=some (.st (fZ p c k (.bh []) (i+1))):=by
      rw[←tT]
      exact yV
     have Yj:D.ld false 1 (.st (fZ p c k (.bh []) (i+1))) (.loc (kq p c k++[vb k]).length 0)=some (I (fA p c k i+cO p c i)):=by
      rw[←tT]
      exact uK
     rw[stops,hik,tJ,tT] at oa
     rw[Bool.or_eq_false_iff,Bool.or_eq_false_iff] at oa
     obtain⟨⟨hn1,hn2⟩,Vb⟩:=oa
     clear k_ gp
     simp only[List.cons_append,List.nil_append]
     cases hlt:decide (cO p c i > 0)
     ·have hz:cO p c i=0:=by simp at hlt;omega
      have e:fZ p c k (.bh []) (i+1)=fZ p c k (.bh []) i:=by unfold fZ;rw[tT,hz,Int.add_zero]
      rw[hlt] at xB
      rw[e]
      repeat' (first|(apply bp;simp only[ai];rfl)|(apply aK;rfl;(·first|exact Vb|exact xB))|(apply aN;rfl)|(apply jI;rfl;rfl;(·first|exact uL|exact mc);simp only[ai];rfl)|(apply aA;rfl;rfl;(·exact cQ (by omega));simp only[ai];rfl)|(apply aD;rfl;simp only[ai];rfl)|(apply aF;rfl;rfl;exact oR;rfl;simp only[ai];rfl)|(apply bL;rfl)|(apply bg;rfl)|refine au ?_|(apply av;rfl;rfl)|refine Qav ?_|refine kj rfl ?_|exact aq rfl rfl|(intro hz;(try simp only[bA] at hz)))
      all_goals exact rfl
     ·have hk1:l7 p c i=1:=by rw[hlt] at xB;simpa using xB
      rw[hk1,Cn hk1] at oR
      rw[hlt,Bool.true_and] at hn2
      have MC:(decide (cO p c i > p.jW)||decide (fA p c k i+cO p c i > p.jX))=false:=by rw[hn1,hn2];rfl
      repeat' (first|(apply bp;simp only[ai];rfl)|(apply aH;rfl;exact rfl)|(apply aK;rfl;(·first|exact Vb|exact MC))|(apply aN;rfl)|(apply jI;rfl;rfl;(·first|exact uL|exact Yj|exact uK|exact mc);simp only[ai];rfl)|(apply aA;rfl;rfl;(·exact cQ (by omega));simp only[ai];rfl)|(apply kT;rfl;rfl;rfl;exact IK;simp only[ai];rfl)|(apply bM;rfl;rfl;omega;simp only[ai];rfl)|(apply aD;rfl;simp only[ai];rfl)|(apply aF;rfl;rfl;exact oR;rfl;simp only[ai];rfl)|(apply bL;rfl)|(apply bg;rfl)|refine au ?_|(apply av;rfl;rfl)|refine Qav ?_|refine kj rfl ?_|exact aq rfl rfl|(intro hz;(try simp only[bA] at hz)))
      all_goals exact rfl
    ·have k_:=gp (fZ p c k (.oM false) m) [In m] false (FE p c k (.bh []) (HE p c m) m) lI rfl KU
     rw[lH,KT] at k_
     refine k_ ?_
     have oa:=hst
     have tJ:p.js-1=(p.it (p.n-1)).iy:=by unfold aL.js;omega
     have hL:=h.late hok hm
     have hs:=h.sum hok (k:Int) (i:=m) (by omega)
     have oR:=Wy (bs:=fZ p c k (.bh []) m) hok h hm
     have xB:=vI (p:=p) (c:=c) (i:=m)
     have tT:fA p c k (m+1)=fA p c k m+cO p c m:=by rw[fA,if_pos hke]
     have IK:D.gQ 1 (.st (fZ p c k (.bh []) m)) (.loc (kq p c k++[vb k]).length 0) (I (fA p c k m+cO p c m))=some (.st (fZ p c k (.bh []) (m+1))):=by
      rw[←tT]
      exact yV
     have Yj:D.ld false 1 (.st (fZ p c k (.bh []) (m+1))) (.loc (kq p c k++[vb k]).length 0)=some (I (fA p c k m+cO p c m)):=by
      rw[←tT]
      exact uK
     rw[stops,hke,tJ,tT] at oa
     clear k_ gp
     simp only[List.cons_append,List.nil_append]
     unfold HE
     rw[hke]
     cases hmk:((c.ln m).mark==2&&(!p.ret||(k:Int)==(p.it (p.n-1)).iy))
     ·rw[if_neg (by simp)]
      rw[hmk,Bool.or_false,Bool.or_eq_true,Bool.and_eq_true] at oa
      have hlt:decide (cO p c m > 0)=true:=by
       rcases oa with h1 | h1
       ·simp at h1 ⊢;omega
       ·exact h1.1
      have hk1:l7 p c m=1:=by rw[hlt] at xB;simpa using xB
      rw[hk1,Cn hk1] at oR
      have ht:(decide (cO p c m > p.jW)||decide (fA p c k m+cO p c m > p.jX))=true:=by
       rw[Bool.or_eq_true]
       rcases oa with h1 | h1
       ·exact .inl h1
       ·exact .inr h1.2
      repeat' (first|(apply bp;simp only[ai];rfl)|(apply aH;rfl;(·first|exact rfl|exact ht))|(apply aK;rfl;exact hmk)|(apply aN;rfl)|(apply jI;rfl;rfl;(·first|exact uL|exact Yj|exact uK|exact mc);simp only[ai];rfl)|(apply aA;rfl;rfl;(·exact cQ (by omega));simp only[ai];rfl)|(apply kT;rfl;rfl;rfl;(·first|exact IK|exact KV);simp only[ai];rfl)|(apply bM;rfl;rfl;omega;simp only[ai];rfl)|(apply aD;rfl;simp only[ai];rfl)|(apply aF;rfl;rfl;exact oR;rfl;simp only[ai];rfl)|(apply bL;rfl)|(apply bg;rfl)|refine au ?_|exact aq rfl rfl|(apply aq;rfl;first|exact rfl|(refine bH ?_)|(refine bF ?_)|(refine bG ?_))|(intro hz;(try simp only[bA] at hz)))
      all_goals exact rfl
     ·rw[if_pos rfl]
      repeat' (first|(apply bp;simp only[ai];rfl)|(apply aH;rfl;exact hmk)|(apply aN;rfl)|(apply jI;rfl;rfl;(·first|exact uL|exact mc);simp only[ai];rfl)|(apply aA;rfl;rfl;(·exact cQ (by omega));simp only[ai];rfl)|(apply kT;rfl;rfl;rfl;exact KV;simp only[ai];rfl)|(apply aD;rfl;simp only[ai];rfl)|(apply bL;rfl)|(apply bg;rfl)|refine au ?_|exact aq rfl rfl|(apply aq;rfl;first|exact rfl|(refine bH ?_)|(refine bF ?_)|(refine bG ?_))|(intro hz;(try simp only[bA] at hz)))
      all_goals exact rfl
   ·repeat' (((with_reducible apply aq);(·rfl);first | exact rfl | (refine bH ?_) | (refine bF ?_) | (refine bG ?_)))
 ·exact absurd hJ (by unfold aL.js;omega)

theorem jK {α:Type}{enc:α→D}(h:∀x,(enc x).iw=true):∀l:List α,eG (l.map enc)=true
 | []=>rfl
 | x :: l=>by simp[eG,h x,jK h l]

theorem rE (p:aL):p.d.iw=true:=by
 simp only[aL.d,aL.cs,D.iw,eG,jK (enc:=I) (fun _=>rfl),jK (enc:=Item.d) (fun x=>rfl),Bool.and_self]
theorem A6 (c:aS):c.d.iw=true:=by
 simp only[aS.d,aS.cs,D.iw,eG,jK (enc:=I) (fun _=>rfl),jK (enc:=gL.d) (fun x=>rfl),Bool.and_self]
theorem tC (l:List aS):(dM l).iw=true:=by
 simp only[D.iw,jK (enc:=aS.d) A6]

theorem c89 (hp:p.Ok)(hok:p.ok=true)(h:j6 p c):aP Tryz.prog 89 (.st bs) [p.d,c.d] (I (kX p c)):=by
 have hm:eG [p.d,c.d]=true:=by simp[eG,rE,A6]
 by_cases hx:∃m,m<p.n∧stops p c m=true
 ·obtain⟨m,h1,h2,h3⟩:∃m,m<p.n∧stops p c m=true∧∀i,i<m→stops p c i=false:=by
   obtain⟨m,h1,h2⟩:=hx
   induction m using Nat.strongRecOn with
   | _ m ih=>
    by_cases h4:∃k,k<m∧stops p c k=true
    ·obtain⟨k,h5,h6⟩:=h4
     exact ih k h5 (by omega) h6
    ·exact⟨m,h1,h2,fun i hi=>by
      rw[Bool.eq_false_iff]
      exact fun e=>h4 ⟨i,hi,e⟩⟩
  have:=Wv hp hok h h1 h2 h3
  rw[kX,I3 h1 h2 h3]
  exact this.bD (n:=1) hm rfl bs
 ·have hno:∀i,i<p.n→stops p c i=false:=fun i hi=>by
   rw[Bool.eq_false_iff]
   exact fun e=>hx ⟨i,hi,e⟩
  have:=Ww hp hok h hno
  rw[kX,I2 hno]
  exact this.bD (n:=1) hm rfl bs
end

section
open Go.Proofs
set_option maxRecDepth 100000
set_option maxHeartbeats 4000000

attribute [local irreducible] gR fV dQ

variable {bs:List D} {p:aL} {c:aS}

theorem c36 (hp:p.Ok)(hc:c.Ok):aP Tryz.prog 36 (.st bs) [p.d,c.d] (.bh [I (if(p.ok&&fe p c)=true then kX p c else 0),I (if(p.ok&&fe p c)=true then 0 else 2)]):=by
 have va:=c19 (bs:=bs) hp hc
 refine akC.R rfl rfl ?_
 unfold u36
 simp only[aC,aG,List.cons_append,List.nil_append]
 cases hok:p.ok&&fe p c
 ·rw[hok] at va
  replace va:aP Tryz.prog 19 (.st bs) [p.d,c.d] (I 2):=va
  repeat' (first|(apply aH;rfl;exact rfl)|(apply aN;rfl)|(apply aD;rfl;simp only[ai];rfl)|(apply aF;rfl;rfl;exact va;rfl;simp only[ai];rfl)|exact aq rfl rfl)
 ·rw[hok] at va
  replace va:aP Tryz.prog 19 (.st bs) [p.d,c.d] (I 0):=va
  have RS:=(Bool.and_eq_true _ _ ▸ hok:p.ok=true∧fe p c=true)
  repeat' (first|(apply aK;rfl;exact rfl)|(apply aN;rfl)|(apply aD;rfl;simp only[ai];rfl)|(apply aF;rfl;rfl;(·first|exact va|exact c89 hp RS.1 (Ws RS.2));rfl;simp only[ai];rfl)|exact aq rfl rfl)
end

section
open Go.Proofs

noncomputable def u23:U:=(aI [.aY (.bB 14 y0),
 .call 53 y3 [(fN 14 y0),y1] [true,true],
 .ev (.un .not (.az 1 y4)),
 .chain true y5 (aI [.ev (.aR y1),
 .ev (.bin .sub .int y6 (ki 1)),
 .call 46 y3 [y2,(ki 0),y7] [true],
 .ev (.un .not y8)]
 (.ret y9))]
 (.ite y6 (.ret (.aa (.aa (ki 0) (.aa (ki 2) .ax)) (.aa y3 .ax))) (aI [.call 57 y3 [(.az 0 y4),y2] [true]]
 (.ret (.aa (.aa y7 (.aa (ki 0) .ax)) (.aa y3 .ax))))))
theorem aaQ:cm Tryz.prog 23 .plain (bE true [] [] Tryz.f23) [false,true,true] u23:=cm.plain Tryz.func23 (by kernel_rfl) (by kernel_rfl)

noncomputable def u24:U:=(aI [.aY (.bB 14 y0),
 .ev (.aR y1),
 .ev (.bin .gtr .int y3 (ki 200))]
 (.ite y4 (.ret (.aa (kb false) (.aa y2 .ax))) (aI [.join 0 0 (.loop 1 [(ki 0)] (aI [.ev (.aR y1),
 .ev (.bin .lss .int y5 y6)]
 (.ite y7 (aI [.join 2 0 (aI [.ev (.aj 3 y1 y5),
 .ev (.ld true 3 y2 y8),
 .call 21 y2 [(fN 14 y0),y9] [true],
 .ev (.un .not y10)]
 (.ite y11 (.ret (.aa (kb false) (.aa y2 .ax))) (.jump 2 [] []))),
 .ev (.bin .add .int y5 (ki 1))]
 (.jump 1 [y8] [])) (.jump 0 [] []))))]
 (.ret (.aa (kb true) (.aa y2 .ax))))))
theorem akM:cm Tryz.prog 24 .plain (bE true [] [] Tryz.f24) [false,true] u24:=cm.plain Tryz.func24 (by kernel_rfl) (by kernel_rfl)

noncomputable def u54:U:=(aI [.aY (.nn y0),
 .aY (.ay 0 y0),
 .aY (.ay 0 (.ay 0 y0)),
 .ev (.ld false 1 y2 (.ay 0 (.ay 0 y0))),
 .ev (.aj 4 y3 y1),
 .aY (.ay 0 y4),
 .ev (.ld false 1 y2 (.ay 0 y4)),
 .ev (.bin .eql .int y5 (ki 2))]
 (.ret (.aa y6 (.aa y2 .ax))))
theorem akt:cm Tryz.prog 54 .plain (bE true [] [] Tryz.f54) [true,true] u54:=cm.plain Tryz.func54 (by kernel_rfl) (by kernel_rfl)

noncomputable def u55:U:=(aI [.aY (.nn y0),
 .aY (.ay 15 y0),
 .ev (.ld false 1 y3 (.ay 15 y0)),
 .ev (.aj 1 y4 y1),
 .ev (.ld false 1 y3 y5),
 .ev (.bin .lss .int y6 (ki 0)),
 .chain true y7 (aI [.aY (.nn y0),
 .aY (.ay 15 y0),
 .ev (.ld false 1 y3 (.ay 15 y0)),
 .ev (.aj 1 y8 y1),
 .ev (.ld false 1 y3 y9),
 .ev (.bin .lss .int y2 y10)]
 (.ret y11))]
 (.ret (.aa y8 (.aa y3 .ax))))
theorem aks:cm Tryz.prog 55 .plain (bE true [] [] Tryz.f55) [true,true,true] u55:=cm.plain Tryz.func55 (by kernel_rfl) (by kernel_rfl)

noncomputable def u57:U:=(aI [.aY (.nn y0),
 .aY (.ay 0 y0),
 .aY (.ay 0 (.ay 0 y0)),
 .ev (.ld false 1 y2 (.ay 0 (.ay 0 y0))),
 .ev (.aR y3),
 .join 0 1 (.loop 1 [(ki 0),(ki 0)] (aI [.ev (.bin .lss .int y6 y4)]
 (.ite y7 (aI [.join 2 1 (aI [.call 55 y2 [y0,y1,y6] [true],
 .ev (.un .not y8)]
 (.ite y9 (.jump 0 [y5] []) (aI [.call 54 y2 [y0,y6] [true],
 .join 3 1 (.ite y10 (aI [.call 56 y2 [y0,y1,y6] [true],
 .ev (.bin .add .int y5 y11)]
 (.jump 3 [y12] [])) (.jump 3 [y5] [])),
 .call 108 y2 [y0,y1,y6] [true,true],
 .ev (.bin .add .int y11 (.az 1 y12)),
 .aY (.nn y0),
 .aY (.ay 14 y0),
 .ev (.ld false 1 y2 (.ay 14 y0)),
 .ev (.aj 3 y14 y1),
 .aY (.ay 2 y15),
 .ev (.ld false 1 y2 (.ay 2 y15)),
 .ev (.aj 4 y16 y6),
 .aY (.ay 2 y17),
 .ev (.ld false 1 y2 (.ay 2 y17)),
 .join 3 1 (.ite y18 (aI [.call 109 y2 [y0,y1,y6] [true],
 .ev (.bin .add .int y13 y19)]
 (.jump 3 [y20] [])) (.jump 3 [y13] []))]
 (.jump 2 [y19] [(.az 0 y12),(.az 1 y12),(.aa (.az 0 y12) (.aa (.az 1 y12) .ax)),(.aa (.az 0 y12) (.aa (.az 1 y12) .ax)),(.az 0 y12),(.az 1 y12),(.az 1 y12)])))),
 .ev (.bin .add .int y6 (ki 1))]
 (.jump 1 [y8,y9] [])) (.jump 0 [y5] []))))]
 (.ret (.aa y5 (.aa y2 .ax))))
theorem akr:cm Tryz.prog 57 .plain (bE true [] [] Tryz.f57) [true,true] u57:=cm.plain Tryz.func57 (by kernel_rfl) (by kernel_rfl)

noncomputable def u65:U:=(aI [.call 111 y2 [y0,y1] [true],
 .ev (.bin .geq .int y3 (ki 0))]
 (.ret (.aa y4 (.aa y2 .ax))))
theorem akk:cm Tryz.prog 65 .plain (bE true [] [] Tryz.f65) [true,true] u65:=cm.plain Tryz.func65 (by kernel_rfl) (by kernel_rfl)

noncomputable def u66:U:=(aI [.aY (.nn y0),
 .aY (.ay 14 y0),
 .ev (.ld false 1 y3 (.ay 14 y0)),
 .ev (.aj 3 y4 y1),
 .aY (.ay 2 y5),
 .ev (.ld false 1 y3 (.ay 2 y5)),
 .ev (.aj 4 y6 y2),
 .aY (.ay 1 y7),
 .ev (.ld false 1 y3 (.ay 1 y7))]
 (.ret (.aa y8 (.aa y3 .ax))))
theorem akj:cm Tryz.prog 66 .plain (bE true [] [] Tryz.f66) [true,true,true] u66:=cm.plain Tryz.func66 (by kernel_rfl) (by kernel_rfl)

noncomputable def u78:U:=(aI [.ev (.aR y0),
 .ev (.bin .geq .int y1 y3)]
 (.ite y4 (.ret (.aa (ki 0) (.aa y2 .ax))) (aI [.ev (.aj 1 y0 y1),
 .ev (.ld false 1 y2 y5)]
 (.ret (.aa y6 (.aa y2 .ax))))))
theorem aeK:cm Tryz.prog 78 .plain (bE true [] [] Tryz.f78) [true,true] u78:=cm.plain Tryz.func78 (by kernel_rfl) (by kernel_rfl)

noncomputable def ads:U:=(aI [.call 127 y2 [y0,y1] [true],
 .ev (.bin .geq .int y3 (ki 0))]
 (.ret (.aa y4 (.aa y2 .ax))))
theorem ae6:cm Tryz.prog 101 .plain (bE true [] [] Tryz.f101) [true,true] ads:=cm.plain Tryz.func101 (by kernel_rfl) (by kernel_rfl)

noncomputable def adr:U:=(aI [.aY (.bB 3 y0),
 .ev (.ld true 14 y2 y1),
 .call 19 y2 [y3,(fN 3 y0)] [true],
 .ev (.bin .neq .int y4 (ki 0))]
 (.ret (.aa y5 (.aa y2 .ax))))
theorem ae5:cm Tryz.prog 102 .plain (bE true [] [] Tryz.f102) [false,true] adr:=cm.plain Tryz.func102 (by kernel_rfl) (by kernel_rfl)

noncomputable def adq:U:=(aI [.aY (.nn y0),
 .aY (.ay 14 y0),
 .ev (.ld false 1 y3 (.ay 14 y0)),
 .ev (.aj 3 y4 y1),
 .aY (.ay 0 y5),
 .ev (.ld false 1 y3 (.ay 0 y5)),
 .call 64 y3 [y0,y2,y6] [true],
 .ev (.aR y7),
 .ev (.bin .gtr .int y8 (ki 0))]
 (.ite y9 (.ret (.aa y7 (.aa y3 .ax))) (aI [.call 64 y3 [y0,y2,(ki (-1))] [true]]
 (.ret (.aa y10 (.aa y3 .ax))))))
theorem ae4:cm Tryz.prog 103 .plain (bE true [] [] Tryz.f103) [true,true,true] adq:=cm.plain Tryz.func103 (by kernel_rfl) (by kernel_rfl)

noncomputable def adp:U:=(aI [.call 67 y4 [y0,y1,y3] [true],
 .ev (.aR y1),
 .ev (.bin .sub .int y6 (ki 1)),
 .ev (.bin .quo .int y7 (ki 2)),
 .ev (.aj 1 y5 y8),
 .ev (.ld false 1 y4 y9)]
 (.ret (.aa y10 (.aa y4 .ax))))
theorem ae3:cm Tryz.prog 104 .plain (bE true [] [] Tryz.f104) [true,true,true,true] adp:=cm.plain Tryz.func104 (by kernel_rfl) (by kernel_rfl)

noncomputable def ado:U:=(aI [.call 67 y4 [y0,y1,y3] [true],
 .ev (.aR y1),
 .ev (.bin .sub .int y6 (ki 1)),
 .ev (.aj 1 y5 y7),
 .ev (.ld false 1 y4 y8)]
 (.ret (.aa y9 (.aa y4 .ax))))
theorem ae2:cm Tryz.prog 105 .plain (bE true [] [] Tryz.f105) [true,true,true,true] ado:=cm.plain Tryz.func105 (by kernel_rfl) (by kernel_rfl)

noncomputable def adn:U:=(aI [.call 67 y4 [y0,y1,y3] [true],
 .ev (.aj 1 y5 (ki 0)),
 .ev (.ld false 1 y4 y6),
 .ev (.aR y1),
 .join 0 1 (.loop 1 [(ki (-1)),y7,(ki 0)] (aI [.ev (.bin .lss .int y11 y8)]
 (.ite y12 (aI [.join 2 2 (aI [.ev (.aj 1 y1 y11),
 .ev (.ld false 1 y4 y13),
 .aY (.nn y0),
 .aY (.ay 14 y0),
 .ev (.ld false 1 y4 (.ay 14 y0)),
 .ev (.aj 3 y15 y14),
 .aY (.ay 2 y16),
 .ev (.ld false 1 y4 (.ay 2 y16)),
 .ev (.aj 4 y17 y3),
 .aY (.ay 0 y18),
 .ev (.ld false 1 y4 (.ay 0 y18)),
 .call 66 y4 [y0,y14,y3] [true],
 .aY (.nn y0),
 .aY (.ay 14 y0),
 .ev (.ld false 1 y4 (.ay 14 y0)),
 .ev (.aj 3 y21 y2),
 .aY (.ay 2 y22),
 .ev (.ld false 1 y4 (.ay 2 y22)),
 .ev (.aj 4 y23 y3),
 .aY (.ay 0 y24),
 .ev (.ld false 1 y4 (.ay 0 y24)),
 .ev (.bin .leq .int y19 y25),
 .chain false y26 (aI [.ev (.bin .gtr .int y19 y9),
 .chain true y27 (aI [.ev (.bin .eql .int y19 y9),
 .chain false y28 (aI [.ev (.bin .gtr .int y20 y10)]
 (.ret y29))]
 (.ret y29))]
 (.ret y28)),
 .Y6 y27 [y19,y20] [y9,y10]]
 (.jump 2 [y28,y29] [])),
 .ev (.bin .add .int y11 (ki 1))]
 (.jump 1 [y13,y14,y15] [])) (.jump 0 [y10] []))))]
 (.ret (.aa y9 (.aa y4 .ax))))
theorem ae1:cm Tryz.prog 106 .plain (bE true [] [] Tryz.f106) [true,true,true,true] adn:=cm.plain Tryz.func106 (by kernel_rfl) (by kernel_rfl)

noncomputable def adm:U:=(aI [.call 67 y4 [y0,y1,y3] [true],
 .ev (.aj 1 y5 (ki 0)),
 .ev (.ld false 1 y4 y6),
 .aY (.nn y0),
 .aY (.ay 0 y0),
 .aY (.ay 2 (.ay 0 y0)),
 .aY (.ay 8 (.ay 2 (.ay 0 y0))),
 .ev (.ld false 1 y4 (.ay 8 (.ay 2 (.ay 0 y0)))),
 .ev (.bin .mul .int y7 y8),
 .ev (.bin .add .int y9 (ki 99)),
 .ev (.bin .quo .int y10 (ki 100))]
 (.ret (.aa y11 (.aa y4 .ax))))
theorem ae0:cm Tryz.prog 107 .plain (bE true [] [] Tryz.f107) [true,true,true,true] adm:=cm.plain Tryz.func107 (by kernel_rfl) (by kernel_rfl)

noncomputable def QK:U:=(aI [.aY (.nn y0),
 .aY (.ay 0 y0),
 .ev (.ld true 14 y3 (.ay 0 y0)),
 .aY (.nn y0),
 .aY (.ay 14 y0),
 .ev (.ld false 1 y3 (.ay 14 y0)),
 .ev (.aj 3 y5 y1),
 .ev (.ld true 3 y3 y6),
 .call 119 y3 [y4,y7,y2] [true,true],
 .join 0 0 (aI [.ev (.bin .eql .int (.az 0 y8) (ki 1))]
 (.ite y9 (aI [.aY (.nn y0),
 .aY (.ay 0 y0),
 .aY (.ay 2 (.ay 0 y0)),
 .aY (.ay 0 (.ay 2 (.ay 0 y0))),
 .ev (.ld false 1 y3 (.ay 0 (.ay 2 (.ay 0 y0)))),
 .ev (.bin .mul .int (.az 1 y8) y10)]
 (.ret (.aa (.aa (ki 1) (.aa y11 .ax)) (.aa y3 .ax)))) (aI [.ev (.bin .eql .int (.az 0 y8) (ki 2)),
 .chain false y10 (aI [.aY (.nn y0),
 .aY (.ay 0 y0),
 .aY (.ay 0 (.ay 0 y0)),
 .ev (.ld false 1 y3 (.ay 0 (.ay 0 y0))),
 .ev (.aj 4 y11 y2),
 .aY (.ay 3 y12),
 .ev (.ld false 1 y3 (.ay 3 y12)),
 .ev (.un .not y13)]
 (.ret y14))]
 (.ite y11 (aI [.aY (.nn y0),
 .aY (.ay 0 y0),
 .aY (.ay 2 (.ay 0 y0)),
 .aY (.ay 1 (.ay 2 (.ay 0 y0))),
 .ev (.ld false 1 y3 (.ay 1 (.ay 2 (.ay 0 y0)))),
 .ev (.bin .mul .int (.az 1 y8) y12)]
 (.ret (.aa (.aa (ki 2) (.aa y13 .ax)) (.aa y3 .ax)))) (.jump 0 [] [])))))]
 (.ret (.aa (.aa (.az 0 y8) (.aa (ki 0) .ax)) (.aa y3 .ax))))
theorem K5:cm Tryz.prog 108 .plain (bE true [] [] Tryz.f108) [true,true,true] QK:=cm.plain Tryz.func108 (by kernel_rfl) (by kernel_rfl)

noncomputable def adl:U:=(aI [.call 123 y3 [y0,y1,y2] [true],
 .ev (.aR y4),
 .aY (.nn y0),
 .aY (.ay 0 y0),
 .aY (.ay 2 (.ay 0 y0)),
 .aY (.ay 4 (.ay 2 (.ay 0 y0))),
 .ev (.ld false 1 y3 (.ay 4 (.ay 2 (.ay 0 y0)))),
 .aY (.nn y0),
 .aY (.ay 0 y0),
 .aY (.ay 2 (.ay 0 y0)),
 .aY (.ay 4 (.ay 2 (.ay 0 y0))),
 .ev (.ld false 1 y3 (.ay 4 (.ay 2 (.ay 0 y0)))),
 .ev (.aR y7),
 .ev (.mm false y5 y8),
 .ev (.bin .sub .int y9 (ki 1)),
 .ev (.aj 1 y6 y10),
 .ev (.ld false 1 y3 y11)]
 (.ret (.aa y12 (.aa y3 .ax))))
theorem aeZ:cm Tryz.prog 109 .plain (bE true [] [] Tryz.f109) [true,true,true] adl:=cm.plain Tryz.func109 (by kernel_rfl) (by kernel_rfl)

noncomputable def adj:U:=(aI [.ev (.aR y0),
 .join 0 0 (.loop 1 [(ki 0)] (aI [.ev (.bin .lss .int y4 y3)]
 (.ite y5 (aI [.join 2 0 (aI [.ev (.aj 1 y0 y4),
 .ev (.ld false 1 y2 y6),
 .ev (.bin .eql .int y1 y7)]
 (.ite y8 (.ret (.aa y4 (.aa y2 .ax))) (.jump 2 [] []))),
 .ev (.bin .add .int y4 (ki 1))]
 (.jump 1 [y6] [])) (.jump 0 [] []))))]
 (.ret (.aa (ki (-1)) (.aa y2 .ax))))
theorem aeX:cm Tryz.prog 111 .plain (bE true [] [] Tryz.f111) [true,true] adj:=cm.plain Tryz.func111 (by kernel_rfl) (by kernel_rfl)

noncomputable def adb:U:=(aI [.ev (.bin .add .int y2 (ki 1)),
 .join 0 1 (.loop 1 [(.const (.bq [])),(ki 0)] (aI [.ev (.bin .lss .int y6 y4)]
 (.ite y7 (aI [.join 2 1 (aI [.aY (.nn y0),
 .aY (.ay 14 y0),
 .ev (.ld false 1 y3 (.ay 14 y0)),
 .ev (.aj 3 y8 y1),
 .aY (.ay 2 y9),
 .ev (.ld false 1 y3 (.ay 2 y9)),
 .ev (.aj 4 y10 y6),
 .aY (.ay 2 y11),
 .ev (.ld false 1 y3 (.ay 2 y11)),
 .chain false y12 (aI [.call 55 y3 [y0,y1,y6] [true]]
 (.ret y13)),
 .join 3 1 (.ite y13 (aI [.ev (.bz (.bt y6) (.const (.bq []))),
 .ev (.app 1 8 y5 y14)]
 (.jump 3 [y15] [])) (.jump 3 [y5] []))]
 (.jump 2 [y14] [])),
 .ev (.bin .add .int y6 (ki 1))]
 (.jump 1 [y8,y9] [])) (.jump 0 [y5] []))))]
 (.ret (.aa y5 (.aa y3 .ax))))
theorem aeR:cm Tryz.prog 123 .plain (bE true [] [] Tryz.f123) [true,true,true] adb:=cm.plain Tryz.func123 (by kernel_rfl) (by kernel_rfl)

noncomputable def ac_:U:=(aI [.ev (.aR y0),
 .join 0 0 (.loop 1 [(ki 0)] (aI [.ev (.bin .lss .int y4 y3)]
 (.ite y5 (aI [.join 2 0 (aI [.ev (.aj 3 y0 y4),
 .ev (.ld true 3 y2 y6),
 .fu y1 y2 [y7] [true]]
 (.ite y8 (.ret (.aa y4 (.aa y2 .ax))) (.jump 2 [] []))),
 .ev (.bin .add .int y4 (ki 1))]
 (.jump 1 [y6] [])) (.jump 0 [] []))))]
 (.ret (.aa (ki (-1)) (.aa y2 .ax))))
theorem aeP:cm Tryz.prog 127 .plain (bE true [] [] Tryz.f127) [true,true] ac_:=cm.plain Tryz.func127 (by kernel_rfl) (by kernel_rfl)

noncomputable def u53:U:=(aI [.ev (.gE (.bB 14 y0)),
 .ev (.ld true 14 y2 y3),
 .call 18 y2 [y4] [true],
 .ev (.bin .neq .int y5 (ki 0)),
 .chain true y6 (aI [.ev (.aR y1),
 .ev (.bin .gtr .int y7 (ki 200))]
 (.ret y8)),
 .chain true y7 (aI [.ev (.gV 102 .ax (.aa y3 .ax)),
 .call 101 y2 [y1,y8] [true]]
 (.ret y9))]
 (.ite y8 (.ret (.aa (.aa (.const (.v (.pointer none))) (.aa (kb false) .ax)) (.aa y2 .ax))) (aI [.ev (.ld true 14 y2 y3),
 .ev (.cons (.bB 14 y9) (.cons (.bt y1) (.cons (.const (.agg [.cq])) .nil))),
 .ev (.cI 99 16 y2 (.bB 16 y10)),
 .ev (.aR y1),
 .join 0 1 (.loop 1 [(ki 0),y11] (aI [.ev (.bin .lss .int y13 y12)]
 (.ite y15 (aI [.join 2 1 (aI [.ev (.aj 3 y1 y13),
 .ev (.ld true 3 y14 y16),
 .aY (.bB 3 y17),
 .ev (.nn (.aU y2)),
 .aY (.ay 15 y18),
 .ev (.ld false 1 y14 (.ay 15 y18)),
 .ev (.ld true 14 y14 y3),
 .call 89 y14 [y20,(fN 3 y17)] [true],
 .ev (.bz (.bt y21) (.const (.bq []))),
 .ev (.fU 3 1 8 y14 y19 y22),
 .ev (.nn (.aU y2)),
 .aY (.ay 15 y24),
 .ev (.gQ 1 y23 (.ay 15 y24) (.apps y14 y19 y22))]
 (.jump 2 [y25] [(fN 3 y17),(.apps y14 y19 y22),(.cell 0 y17),(.cell 1 y17),(.cell 2 y17)])),
 .ev (.bin .add .int y13 (ki 1))]
 (.jump 1 [y17,y16] [])) (.jump 0 [y14] []))))]
 (.ret (.aa (.aa (.aU y2) (.aa (kb true) .ax)) (.aa y13 .ax))))))
theorem aeM:cm Tryz.prog 53 .plain { bE false [] [25] Tryz.f53 with FB:=true } [false,true] u53:=cm.plain Tryz.func53 (by kernel_rfl) (by kernel_rfl)

noncomputable def Xh:U:=(aI [.call 103 y3 [y0,y1,y2] [true],
 .aY (.nn y0),
 .aY (.ay 14 y0),
 .ev (.ld false 1 y3 (.ay 14 y0)),
 .ev (.aj 3 y5 y1),
 .aY (.ay 2 y6),
 .ev (.ld false 1 y3 (.ay 2 y6)),
 .ev (.aj 4 y7 y2),
 .aY (.ay 3 y8),
 .ev (.ld false 1 y3 (.ay 3 y8)),
 .join 0 0 (aI [.ev (.bin .eql .int y9 (ki 0))]
 (.ite y10 (aI [.call 66 y3 [y0,y1,y2] [true]]
 (.ret (.aa y11 (.aa y3 .ax)))) (aI [.ev (.bin .eql .int y9 (ki 2))]
 (.ite y11 (aI [.ev (.aR y4),
 .ev (.bin .eql .int y12 (ki 0))]
 (.ite y13 (aI [.aY (.nn y0),
 .aY (.ay 0 y0),
 .aY (.ay 2 (.ay 0 y0)),
 .aY (.ay 6 (.ay 2 (.ay 0 y0))),
 .ev (.ld false 1 y3 (.ay 6 (.ay 2 (.ay 0 y0))))]
 (.ret (.aa y14 (.aa y3 .ax)))) (aI [.call 67 y3 [y0,y4,y2] [true],
 .ev (.aj 1 y14 (ki 0)),
 .ev (.ld false 1 y3 y15),
 .aY (.nn y0),
 .aY (.ay 0 y0),
 .aY (.ay 2 (.ay 0 y0)),
 .aY (.ay 6 (.ay 2 (.ay 0 y0))),
 .ev (.ld false 1 y3 (.ay 6 (.ay 2 (.ay 0 y0)))),
 .ev (.bin .add .int y16 y17)]
 (.ret (.aa y18 (.aa y3 .ax)))))) (.jump 0 [] []))))),
 .ev (.aR y4),
 .ev (.bin .eql .int y10 (ki 0))]
 (.ite y11 (.ret (.aa (ki 0) (.aa y3 .ax))) (aI [.ev (.gV 104 (.aa y0 .ax) .ax),
 .ev (.gV 105 (.aa y0 .ax) .ax),
 .ev (.gV 106 (.aa y0 .ax) .ax),
 .ev (.gV 107 (.aa y0 .ax) .ax),
 .ev (.cI 129 5 y3 (.const (.agg [(.v .nilFunc),(.v .nilFunc),(.v .nilFunc),(.v .nilFunc),(.v .nilFunc)]))),
 .ev (.gQ 5 y16 (.aU y3) (.cons (.const (.v .nilFunc)) (.cons y12 (.cons y13 (.cons y14 (.cons y15 .nil)))))),
 .aY (.nn y0),
 .aY (.ay 0 y0),
 .aY (.ay 2 (.ay 0 y0)),
 .aY (.ay 7 (.ay 2 (.ay 0 y0))),
 .ev (.ld false 1 y17 (.ay 7 (.ay 2 (.ay 0 y0)))),
 .ev (.m4 (.tN 5 1) (.aU y3) y18 .nil .nil),
 .ev (.ld false 1 y17 y19),
 .fu y20 y17 [y4,y1,y2] [true]]
 (.ret (.aa y21 (.aa y17 .ax))))))
theorem K4:cm Tryz.prog 56 .plain (bE false [] [8] Tryz.f56) [true,true,true] Xh:=cm.plain Tryz.func56 (by kernel_rfl) (by kernel_rfl)

noncomputable def u64:U:=(aI [.aY (.nn y0),
 .aY (.ay 14 y0),
 .ev (.ld false 1 y3 (.ay 14 y0)),
 .ev (.aR y4),
 .join 0 2 (.loop 1 [(.const .cq),(ki 0),y3] (aI [.ev (.bin .lss .int y7 y5)]
 (.ite y9 (aI [.join 2 2 (aI [.ev (.aj 3 y4 y7),
 .ev (.ld true 3 y8 y10),
 .aY (.bB 3 y11),
 .ev (.aj 4 (.cell 2 y11) y1),
 .aY (.ay 3 y12),
 .ev (.ld false 1 y8 (.ay 3 y12)),
 .ev (.bin .eql .int y13 (ki 0)),
 .chain false y14 (aI [.call 55 y8 [y0,y7,y1] [true]]
 (.ret y15)),
 .chain false y15 (aI [.ev (.bin .lss .int y2 (ki 0)),
 .chain true y16 (aI [.aY (.cell 0 y11),
 .ev (.bin .eql .int (.cell 0 y11) y2)]
 (.ret y17))]
 (.ret y17)),
 .join 3 2 (.ite y16 (aI [.ev (.bz (.bt y7) (.const (.bq []))),
 .ev (.fU 3 1 8 y8 y6 y17)]
 (.jump 3 [(.apps y8 y6 y17),y18] [])) (.jump 3 [y6,y8] []))]
 (.jump 2 [y17,y18] [(.cell 2 y11),(.cell 0 y11),(.cell 1 y11),(.cell 2 y11)])),
 .ev (.bin .add .int y7 (ki 1))]
 (.jump 1 [y10,y12,y11] [])) (.jump 0 [y6,y8] []))))]
 (.ret (.aa y6 (.aa y7 .ax))))
theorem akl:cm Tryz.prog 64 .plain (bE false [] [7] Tryz.f64) [true,true,true] u64:=cm.plain Tryz.func64 (by kernel_rfl) (by kernel_rfl)

noncomputable def u67:U:=(aI [.ev (.aR y1),
 .join 0 2 (.loop 1 [(.const .cq),(ki 0),y3] (aI [.ev (.bin .lss .int y6 y4)]
 (.ite y8 (aI [.join 2 2 (aI [.ev (.aj 1 y1 y6),
 .ev (.ld false 1 y7 y9),
 .call 66 y7 [y0,y10,y2] [true],
 .ev (.bz (.bt y11) (.const (.bq []))),
 .ev (.fU 3 1 8 y7 y5 y12)]
 (.jump 2 [(.apps y7 y5 y12),y13] [(.apps y7 y5 y12)])),
 .ev (.bin .add .int y6 (ki 1))]
 (.jump 1 [y9,y11,y10] [])) (.jump 0 [y5,y7] [])))),
 .bQ 96 y6 [y5] []]
 (.ret (.aa y5 (.aa y8 .ax))))
theorem aki:cm Tryz.prog 67 .plain (bE false [] [7] Tryz.f67) [true,true,true] u67:=cm.plain Tryz.func67 (by kernel_rfl) (by kernel_rfl)
end

section
def lp (l:List Int):List Int:=l.mergeSort fun x y=>decide (x≤y)

theorem ue (l:List Int):(lp l).Perm l:=List.mergeSort_perm l _
theorem kH (l:List Int):(lp l).length=l.length:=List.length_mergeSort l
theorem pL (l:List Int):(lp l).Pairwise (·≤·):=by
 have:=List.pairwise_mergeSort (le:=fun x y:Int=>decide (x≤y)) (fun a b c h1 h2=>by simp at *;omega) (fun a b=>by simp;omega) l
 simpa[lp] using this
theorem Cm {l:List Int}{x:Int}:x∈lp l↔x∈l:=(ue l).mem_iff

def ins (t:Int):List Int→List Int
 | []=>[t]
 | x :: r=>if x≤t then x :: ins t r else t :: x :: r

theorem nX (t:Int):∀l:List Int,(ins t l).Perm (t :: l)
 | []=>.refl _
 | x :: r=>by
  rw[ins]
  split
  ·exact((nX t r).cons x).trans (.swap t x r)
  ·exact .refl _

theorem pX (t:Int):∀{l:List Int},l.Pairwise (·≤·)→(ins t l).Pairwise (·≤·)
 | [],_=>by simp[ins]
 | x :: r,h=>by
  rw[ins]
  have h1:=List.pairwise_cons.1 h
  split
  ·rename_i hx
   refine List.pairwise_cons.2 ⟨fun y hy=>?_,pX t h1.2⟩
   rcases List.mem_cons.1 ((nX t r).mem_iff.1 hy) with h2 | h2
   ·omega
   ·exact h1.1 y h2
  ·rename_i hx
   refine List.pairwise_cons.2 ⟨fun y hy=>?_,h⟩
   rcases List.mem_cons.1 hy with h2 | h2
   ·omega
   ·have:=h1.1 y h2
    omega

def Qaq:List Int→List Int→List Int
 | o,[]=>o
 | o,t :: r=>Qaq (ins t o) r

theorem AO:∀(o l:List Int),(Qaq o l).Perm (o++l)
 | o,[]=>by simp[Qaq]
 | o,t :: r=>by
  rw[Qaq]
  refine(AO (ins t o) r).trans (((nX t o).append_right r).trans ?_)
  exact List.perm_middle.symm

theorem aaU (t:Int)(l:List Int):(ins t l).length=l.length+1:=by simpa using(nX t l).length_eq
theorem Ld (l:List Int):(Qaq [] l).length=l.length:=by simpa using(AO [] l).length_eq

def cd (l:List aS)(k:Nat):aS:=l.getD k default

def nB (p:aL)(l:List aS)(i:Nat)(cls:Int)(k:Nat):Bool:=
 ((cd l k).ln i).mark==0&&(gA p (cd l k) i&&(decide (cls<0)||(cd l k).cls==cls))

def jS (p:aL)(l:List aS)(i:Nat)(cls:Int)(n:Nat):List Nat:=(List.range n).filter (nB p l i cls)
def eY (p:aL)(l:List aS)(i:Nat)(cls:Int):List Nat:=jS p l i cls l.length

theorem Bm {p:aL}{l:List aS}{i:Nat}{cls:Int}{n:Nat}:jS p l i cls (n+1)=if nB p l i cls n=true then jS p l i cls n++[n] else jS p l i cls n:=by
 unfold jS
 rw[List.range_succ,List.filter_append]
 cases h:nB p l i cls n <;> simp[h]

theorem kf {p:aL}{l:List aS}{i:Nat}{cls:Int}{n:Nat}:(jS p l i cls n).length≤n:=by
 simpa[jS] using List.length_filter_le (nB p l i cls) (List.range n)

theorem yQ {p:aL}{l:List aS}{i:Nat}{cls:Int}{k:Nat}:k∈eY p l i cls↔k<l.length∧nB p l i cls k=true:=by
 simp[eY,jS]

def basis (p:aL)(l:List aS)(i aO:Nat):List Nat:=
 if 0<(eY p l i (cd l aO).cls).length then eY p l i (cd l aO).cls else eY p l i (-1)

theorem fm {p:aL}{l:List aS}{i aO k:Nat}(h:k∈basis p l i aO):k<l.length∧((cd l k).ln i).mark=0:=by
 unfold basis at h
 split at h
 all_goals
  have:=yQ.1 h
  refine⟨this.1,?_⟩
  have:=this.2
  simp only[nB,Bool.and_eq_true,beq_iff_eq] at this
  exact this.1

theorem mi {p:aL}{l:List aS}{i aO:Nat}:(basis p l i aO).length≤l.length:=by
 unfold basis
 split <;> exact kf

def oC (l:List aS)(i k:Nat):Int:=((cd l k).ln i).time
def vQ (l:List aS)(i k:Nat):Int:=((cd l k).ln i).minute
def jO (l:List aS)(i:Nat)(b:List Nat):List Int:=b.map (oC l i)

def p_ (l:List aS)(i:Nat)(at_:Int)(s:Int×Int)(k:Nat):Int×Int:=
 if vQ l i k≤at_∧(vQ l i k > s.1∨vQ l i k=s.1∧oC l i k > s.2) then(vQ l i k,oC l i k) else s

def least (l:List aS)(i:Nat)(b:List Nat):Int:=(lp (jO l i b)).getD 0 0

def qS (p:aL)(l:List aS)(aO i:Nat):Int:=
 if(basis p l i aO).length=0 then 0
 else if p.ez=1 then(lp (jO l i (basis p l i aO))).getD (((basis p l i aO).length-1) / 2) 0
 else if p.ez=2 then(lp (jO l i (basis p l i aO))).getD ((basis p l i aO).length-1) 0
 else if p.ez=4 then(least l i (basis p l i aO)*p.jV+99) / 100
 else((basis p l i aO).foldl (p_ l i (vQ l i aO)) (-1,least l i (basis p l i aO))).2

def cS (p:aL)(l:List aS)(aO i:Nat):Int:=
 if((cd l aO).ln i).mark=0 then oC l i aO
 else if((cd l aO).ln i).mark=1 then qS p l aO i
 else(if 0<(basis p l i aO).length then least l i (basis p l i aO) else 0)+p.mG

def mI (c:aS):Nat→Nat
 | 0=>0
 | i+1=>mI c i+if(c.ln i).jump=true then 1 else 0

def qx (p:aL)(c:aS)(i:Nat):Int:=if(c.ln i).jump=true then p.jumps.getD (min (mI c i) (p.jumps.length-1)) 0 else 0

def oy (p:aL)(l:List aS)(aO i:Nat):Int:=
 if(p.it i).kind=2 then cS p l aO i+qx p (cd l aO) i else cO p (cd l aO) i*p.late+Qay p (cd l aO) i*p.early

def jw (p:aL)(l:List aS)(aO:Nat):Nat→Int
 | 0=>0
 | i+1=>jw p l aO i+if gA p (cd l aO) i=true then oy p l aO i else 0

def e_ (p:aL)(l:List aS)(aO:Nat):Int:=jw p l aO p.n

def br (p:aL)(l:List aS):Bool:=decide (l.length≤200)&&l.all (fe p)

variable {p:aL} {l:List aS}

theorem cr (h:br p l=true):l.length≤200∧∀k,k<l.length→j6 p (cd l k):=by
 simp only[br,Bool.and_eq_true,decide_eq_true_eq] at h
 refine⟨h.1,fun k hk=>?_⟩
 have:=List.all_eq_true.1 h.2 l[k] (List.getElem_mem hk)
 have e:cd l k=l[k]:=by simp[cd,List.getD,hk]
 rw[e]
 exact Ws this

theorem Fa {k:Nat}(h:k<l.length):l[k]? = some (cd l k):=by simp[cd,List.getD,h]

theorem C8 {b:List Int}{k:Nat}{lo hi:Int}(hk:k<b.length)(h:∀x,x∈b→lo≤x∧x≤hi):lo≤(lp b).getD k 0∧(lp b).getD k 0≤hi:=by
 have hk2:k<(lp b).length:=by rw[kH];exact hk
 have e:(lp b).getD k 0=(lp b)[k]:=by simp[List.getD,hk2]
 rw[e]
 exact h _ (Cm.1 (List.getElem_mem hk2))

theorem zF (hc:br p l=true){i aO:Nat}(hi:i<p.n){x:Int}(hx:x∈jO l i (basis p l i aO)):0≤x∧x≤36000000:=by
 obtain⟨k,hk,rfl⟩:=List.mem_map.1 hx
 exact((cr hc).2 k (fm hk).1).time hi

theorem gM {i:Nat}{b:List Nat}:(jO l i b).length=b.length:=by simp[jO]

theorem lJ (hc:br p l=true){i aO:Nat}(hi:i<p.n):0≤least l i (basis p l i aO)∧least l i (basis p l i aO)≤36000000:=by
 unfold least
 rcases Nat.eq_zero_or_pos (jO l i (basis p l i aO)).length with h | h
 ·have:lp (jO l i (basis p l i aO))=[]:=by
   rw[←List.length_eq_zero_iff,kH]
   exact h
  rw[this]
  simp
 ·exact C8 h fun x hx=>zF hc hi hx

theorem WD (hc:br p l=true){i:Nat}(hi:i<p.n){m:Int}:∀{b:List Nat} {s:Int×Int},(∀k,k∈b→k<l.length)→-1≤s.1∧s.1≤100000∧0≤s.2∧s.2≤36000000→-1≤(b.foldl (p_ l i m) s).1∧(b.foldl (p_ l i m) s).1≤100000∧0≤(b.foldl (p_ l i m) s).2∧(b.foldl (p_ l i m) s).2≤36000000
 | [],s,_,h=>h
 | k :: b,s,hb,h=>by
  rw[List.foldl_cons]
  refine WD hc hi (fun k hk=>hb k (List.mem_cons_of_mem _ hk)) ?_
  have hk:=(cr hc).2 k (hb k (List.mem_cons_self ..))
  have h1:=hk.time hi
  have h2:=hk.minute hi
  unfold p_
  split
  ·simp only[vQ,oC]
   omega
  ·exact h

theorem aL.gd (hp:p.ok=true):(0≤p.late∧p.late≤36000000)∧(0≤p.early∧p.early≤36000000)∧(0≤p.mG∧p.mG≤36000000)∧(0≤p.jW∧p.jW≤1440)∧(0≤p.jX∧p.jX≤1440)∧(1≤p.jumps.length∧p.jumps.length≤10)∧∀k,0≤p.jumps.getD k 0∧p.jumps.getD k 0≤36000000:=by
 have h:=(aL.nV hp).2.2.1
 simp only[aL.iZ,Bool.and_eq_true,fV] at h
 obtain⟨h1,h2,h3,h4,h5,h6,h7⟩:=h
 have h7:=iG h7
 refine⟨iG h1,iG h2,iG h3,iG h4,iG h5,by omega,fun k=>?_⟩
 rcases Nat.lt_or_ge k p.jumps.length with h | h
 ·have:=iG (List.all_eq_true.1 h6 p.jumps[k] (List.getElem_mem h))
  simpa[List.getD,h] using this
 ·simp[List.getD,h]

theorem aL.mC (hp:p.ok=true):(1≤p.ez∧p.ez≤4)∧(100≤p.jV∧p.jV≤1000)∧(-1≤p.power∧p.power<p.n)∧(0≤p.power→(p.it p.power.toNat).kind=2):=by
 have h:=(aL.nV hp).2.2.2.1
 simp only[aL.kg,Bool.and_eq_true,Bool.or_eq_true,decide_eq_true_eq,beq_iff_eq] at h
 obtain⟨⟨h1,h2⟩,h3,h4,h5⟩:=h
 have h4:=iG h4
 exact⟨⟨h1,h2⟩,iG h3,by omega,fun h=>by omega⟩

theorem mF {a b x y:Int}(ha:0≤a∧a≤x)(hb:0≤b∧b≤y):0≤a*b∧a*b≤x*y:=
 ⟨Int.mul_nonneg ha.1 hb.1,Int.mul_le_mul ha.2 hb.2 hb.1 (by omega)⟩

theorem XR (hp:p.ok=true)(hc:br p l=true){i aO:Nat}(hi:i<p.n):0≤qS p l aO i∧qS p l aO i≤400000000:=by
 have hm:=aL.mC hp
 have hb:=lJ hc (aO:=aO) hi
 unfold qS
 split
 ·omega
 ·rename_i h0
  have hl:0<(jO l i (basis p l i aO)).length:=by rw[gM];omega
  split
  ·have:=C8 (k:=((basis p l i aO).length-1) / 2) (b:=jO l i (basis p l i aO)) (by rw[gM];omega) fun x hx=>zF hc hi hx
   omega
  ·split
   ·have:=C8 (k:=(basis p l i aO).length-1) (b:=jO l i (basis p l i aO)) (by rw[gM];omega) fun x hx=>zF hc hi hx
    omega
   ·split
    ·have:=mF hb ⟨(by omega:0≤p.jV),hm.2.1.2⟩
     omega
    ·have:=WD hc hi (m:=vQ l i aO) (b:=basis p l i aO) (s:=(-1,least l i (basis p l i aO))) (fun k hk=>(fm hk).1) ⟨by simp,by simp,hb.1,hb.2⟩
     omega

theorem yf (hp:p.ok=true)(hc:br p l=true){i aO:Nat}(hi:i<p.n)(cF:aO<l.length):0≤cS p l aO i∧cS p l aO i≤400000000:=by
 have hb:=lJ hc (aO:=aO) hi
 have hr:=aL.gd hp
 unfold cS
 split
 ·have:=((cr hc).2 aO cF).time hi
  unfold oC
  omega
 ·split
  ·exact XR hp hc hi
  ·split <;> omega

theorem Ec (hp:p.ok=true)(c:aS)(i:Nat):0≤qx p c i∧qx p c i≤36000000:=by
 unfold qx
 split
 ·exact(aL.gd hp).2.2.2.2.2.2 _
 ·omega

theorem Wf (hp:p.ok=true)(hc:br p l=true){i aO:Nat}(hi:i<p.n)(cF:aO<l.length):0≤oy p l aO i∧oy p l aO i≤8000000000000:=by
 have h:=(cr hc).2 aO cF
 have hr:=aL.gd hp
 unfold oy
 split
 ·have h1:=yf hp hc hi cF
  have h2:=Ec hp (cd l aO) i
  omega
 ·have h1:=mF (h.late hp hi) hr.1
  have h2:=mF (h.early hp hi) hr.2.1
  omega

theorem CY (hp:p.ok=true)(hc:br p l=true){aO:Nat}(cF:aO<l.length):∀{i:Nat},i≤p.n→0≤jw p l aO i∧jw p l aO i≤8000000000000*i
 | 0,_=>by simp[jw]
 | i+1,hi=>by
  have ih:=CY hp hc cF (i:=i) (by omega)
  have:=Wf hp hc (i:=i) (by omega) cF
  rw[jw]
  split <;> omega

theorem Gm {c:aS}{i k:Int}(hik:i≤k)(h:gA p c k=true):gA p c i=true:=by
 simp only[gA,Bool.or_eq_true,decide_eq_true_eq] at h ⊢
 omega

theorem w5 {aO:Nat}:∀{i n:Nat},i≤n→gA p (cd l aO) i=false→jw p l aO n=jw p l aO i
 | i,0,h,_=>by rw[show i=0 by omega]
 | i,n+1,h,hr=>by
  rcases Nat.lt_or_ge n i with h1 | h1
  ·rw[show i=n+1 by omega]
  ·have:gA p (cd l aO) n=false:=by
    rw[Bool.eq_false_iff]
    intro hn
    rw[Gm (by omega) hn] at hr
    cases hr
   rw[jw,w5 h1 hr,this]
   simp

def tH (p:aL)(c:aS)(n:Nat):List Nat:=(List.range n).filter fun k=>(c.ln k).jump&&gA p c k

theorem Ee {c:aS}{n:Nat}:tH p c (n+1)=if((c.ln n).jump&&gA p c n)=true then tH p c n++[n] else tH p c n:=by
 unfold tH
 rw[List.range_succ,List.filter_append]
 cases h:((c.ln n).jump&&gA p c n) <;> simp[h]

theorem GH {c:aS}:∀{n:Nat},(n=0∨gA p c ((n:Int)-1)=true)→(tH p c n).length=mI c n
 | 0,_=>rfl
 | n+1,h=>by
  have hr:gA p c n=true:=by
   rcases h with h | h
   ·cases h
   ·rwa [show((n+1:Nat):Int)-1=n by omega] at h
  have ih:=GH (n:=n) (.inr (Gm (by omega) hr))
  rw[Ee,hr,Bool.and_true,mI]
  split <;> simp[ih]

theorem UG {c:aS}{n:Nat}:(tH p c n).length≤n:=by simpa[tH] using List.length_filter_le (fun k=>(c.ln k).jump&&gA p c k) (List.range n)

theorem j6.aaz {c:aS}(h:j6 p c){i:Nat}(hi:i<p.n)(hk:(p.it i).kind=1):(c.ln i).jump=false:=by
 have h1:=h.ln i hi
 simp only[dQ,Bool.and_eq_true,Bool.or_eq_true,beq_iff_eq,bne_iff_ne,decide_eq_true_eq,Bool.not_eq_true'] at h1
 rcases h1.2.2 with h2 | h2 | h2
 ·rcases h2.2 with h3 | h3
  ·exact h3.2.2
  ·exact absurd hk h3.1
 ·exact absurd hk h2.2.1
 ·exact h2.2.2.2
end

section
open Go.Proofs
set_option maxRecDepth 100000
set_option maxHeartbeats 4000000

attribute [local irreducible] gR fV dQ

variable {bs:List D} {p:aL} {c:aS} {l:List aS}

theorem cw {k:Nat}(h:k<l.length):D.aj 3 (dM l) (In k)=some (.ptr (cd l k).d.cells):=r6 (Fa h) rfl

theorem c24 (hp:p.Ok)(hok:p.ok=true)(hl:Qbz l):aP Tryz.prog 24 (.st bs) [p.d,dM l] (B (br p l)):=by
 refine akM.R rfl rfl ?_
 unfold u24
 simp only[aC,aG,List.cons_append,List.nil_append]
 repeat' (first|(apply aN;rfl)|(apply ar;rfl;exact ak;simp only[ai];rfl)|(apply aD;rfl;simp only[ai];rfl)|refine au ?_|(apply aX;rfl;all_goals (intro hz;(try simp only[bA] at hz);first|(exact absurd hz (by decide))|(exfalso;omega)|skip))|(apply aq;rfl;first|exact rfl|(refine bH ?_)|(refine bF ?_)|(refine bG ?_)))
 ·symm
  rw[Bool.eq_false_iff]
  intro h
  simp only[br,Bool.and_eq_true,decide_eq_true_eq] at h
  omega
 ·refine bf (fun i=>[I i]) (fun i=>∀k (h:k<i) (h2:k<l.length),fe p l[k]=true) l.length rfl (fun _=>rfl) (fun k h=>absurd h (Nat.not_lt_zero _)) (fun i hj hJ R hR=>?_) (fun hJ R=>?_)
  ·have gH:decide ((i:Int)<(l.length:Int))=true:=by simp;omega
   have Lx:=c21 (bs:=bs) hp (hl.1 l[i] (List.getElem_mem hj)) hok
   cases hcd:fe p l[i]
   ·rw[hcd] at Lx
    repeat' (first|(apply bp;simp only[ai];rfl)|(apply aH;rfl;(·first|exact gH|exact rfl))|(apply aA;rfl;rfl;exact I_ hj;simp only[ai];rfl)|(apply ar;rfl;exact ak;simp only[ai];rfl)|(apply aD;rfl;simp only[ai];rfl)|(apply aF;rfl;rfl;exact Lx;rfl;simp only[ai];rfl)|refine au ?_|(apply aq;rfl;first|exact rfl|(refine bH ?_)|(refine bF ?_)|(refine bG ?_)))
    have:l.all (fe p)=false:=List.all_eq_false.2 ⟨_,List.getElem_mem hj,by simp[hcd]⟩
    simp[br,this]
   ·rw[hcd] at Lx
    repeat' (first|(apply bp;simp only[ai];rfl)|(apply aH;rfl;exact gH)|(apply aK;rfl;exact rfl)|(apply aA;rfl;rfl;exact I_ hj;simp only[ai];rfl)|(apply ar;rfl;exact ak;simp only[ai];rfl)|(apply aW;rfl;omega;simp only[ai];rfl)|(apply aD;rfl;simp only[ai];rfl)|(apply aF;rfl;rfl;exact Lx;rfl;simp only[ai];rfl)|refine au ?_|(apply av;rfl;rfl)|refine Qav ?_|refine kj rfl ?_)
    refine hR fun k hk h2=>?_
    rcases Nat.lt_or_ge k i with h3 | h3
    ·exact hJ k h3 h2
    ·have e:k=i:=by omega
     subst e
     exact hcd
  ·have hlf:decide ((l.length:Int)<(l.length:Int))=false:=by simp
   repeat' (first|(apply bp;simp only[ai];rfl)|(apply aK;rfl;exact hlf)|(apply ar;rfl;exact ak;simp only[ai];rfl)|(apply aD;rfl;simp only[ai];rfl)|(apply av;rfl;rfl)|refine Qav ?_|(refine aB (by decide) ?_)|refine kj rfl ?_|(apply aq;rfl;first|exact rfl|(refine bH ?_)|(refine bF ?_)|(refine bG ?_)))
   have:l.all (fe p)=true:=List.all_eq_true.2 fun a ha=>by
    obtain⟨k,hk,rfl⟩:=List.mem_iff_getElem.1 ha
    exact hJ k hk hk
   have aml:l.length≤200:=by omega
   simp[br,this,aml]

theorem xU {xs:List Nat}{x:Nat}(h:xs.length≤100000):D.app 1 8 (Ix xs) (.bq [In x])=some (Ix (xs++[x])):=zJ (enc:=In) (by omega) (Nat.le_trans (Nat.succ_le_succ h) (by decide)) (fun _=>rfl)
theorem A7 {xs:List Int}{x:Int}(h:xs.length≤100000):D.app 1 8 (Is xs) (.bq [I x])=some (Is (xs++[x])):=zJ (enc:=I) (by omega) (Nat.le_trans (Nat.succ_le_succ h) (by decide)) (fun _=>rfl)

theorem kr {L:List Nat}{i:Nat}(h:i<L.length):D.aj 1 (Ix L) (In i)=some (.ptr [In L[i]]):=b_ h rfl
theorem iK {L:List Int}{i:Nat}(h:i<L.length):D.aj 1 (Is L) (In i)=some (.ptr [I (L.getD i 0)]):=by
 have e:L.getD i 0=L[i]:=by simp[List.getD,h]
 rw[e]
 exact b_ (enc:=I) h rfl

theorem BO {env:List D}{n:Nat}{x y z:E}{dx dy dz d:D}(hx:x.eval env=some dx)(hy:y.eval env=some dy)(hz:z.eval env=some dz)(h:D.sub n dx dy dz=some d):(E.sub n x y z).eval env=some d:=by simp only[E.eval,hx,hy,hz,Option.bind_some,h]
theorem vn {env:List D}{x:E}{dx d:D}(hx:x.eval env=some dx)(h:D.aR dx=some d):(E.aR x).eval env=some d:=by simp only[E.eval,hx,Option.bind_some,h]

theorem yb {i k:Nat}{b:List Nat}(hk:k<b.length):jO l i (b.take (k+1))=jO l i (b.take k)++[oC l i b[k]]:=by
 rw[List.take_add_one,List.getElem?_eq_getElem hk]
 exact List.map_append
end

section
open Go.Proofs
set_option maxRecDepth 100000
set_option maxHeartbeats 4000000

attribute [local irreducible] gR fV dQ

variable {bs:List D} {p:aL} {c:aS} {l:List aS}

theorem kR {a b:Int}(h:-9223372036854775808≤a*b∧a*b<9223372036854775808):D.bin .mul .int (I a) (I b)=some (I (a*b)):=by
 show some (I (IntKind.i64.wrap (a*b)))=_
 rw[wrap64 h]
theorem CN {a b:Int}(hb:0<b)(h:0≤a∧a<9223372036854775808):D.bin .quo .int (I a) (I b)=some (I (a / b)):=by
 have e:a.tdiv b=a / b:=Int.tdiv_eq_ediv_of_nonneg h.1
 have h1:0≤a / b:=Int.ediv_nonneg h.1 (by omega)
 have h2:a / b≤a:=Int.ediv_le_self _ h.1
 have hb0:¬b=0:=by omega
 simp only[D.bin,mq,O7,if_true,if_neg hb0,Option.map_some,e]
 rw[wrap64 (by omega)]
theorem Un {a b:Int}:D.mm true (I a) (I b)=some (I (max a b)):=by
 simp only[D.mm,if_true]
 congr 3
 split <;> omega
theorem No {a b:Int}:D.mm false (I a) (I b)=some (I (min a b)):=by
 simp only[D.mm,if_true]
 congr 3
 split
 ·contradiction
 ·split <;> omega

theorem Qz {i k:Nat}{m:Int}{s:Int×Int}(h:¬(vQ l i k≤m∧(vQ l i k > s.1∨vQ l i k=s.1∧oC l i k > s.2))):p_ l i m s k=s:=if_neg h
theorem Mm {i k:Nat}{m:Int}{s:Int×Int}(h:vQ l i k≤m∧(vQ l i k > s.1∨vQ l i k=s.1∧oC l i k > s.2)):p_ l i m s k=(vQ l i k,oC l i k):=if_pos h

theorem Ed:∀i:Nat,mI c i≤i
 | 0=>Nat.le_refl _
 | i+1=>by
  have:=Ed i
  rw[mI]
  split <;> omega
end

section
def gS (m:Nat):List Int→D
 | []=>.cq
 | _ :: r=>.sl (m+r.length) 0 (r.length+1)

def gB (b0:List D):List Int→List D
 | []=>b0
 | x :: r=>b0++(List.replicate r.length (.bh [])++[.blk 3 1 ((x :: r).map I)])

variable {b0:List D} {xs:List Int} {x:Int}

theorem Ez:∀{xs:List Int},xs≠[]→(gB b0 xs)[b0.length+(xs.length-1)]? = some (.blk 3 1 (xs.map I))
 | [],h=>absurd rfl h
 | x :: r,_=>by
  rw[gB,List.getElem?_append_right (by simp)]
  simp

theorem Ey:∀{xs:List Int} {i:Nat},i<b0.length→(gB b0 xs)[i]? = b0[i]?
 | [],_,_=>rfl
 | x :: r,i,h=>by rw[gB,List.getElem?_append_left h]

theorem abP:∀{xs:List Int},(gB b0 xs).length=b0.length+xs.length
 | []=>rfl
 | x :: r=>by simp[gB]

theorem tc {xs:List Int}{m:Nat}(h:xs≠[]):gS m xs=.sl (m+(xs.length-1)) 0 xs.length:=by
 cases xs with
 | nil=>exact absurd rfl h
 | cons x r=>simp[gS]

theorem YD:∀{xs:List Int},xs≠[]→gB b0 (xs++[x])=(gB b0 xs).set (b0.length+(xs.length-1)) (.bh [])++[.blk 3 1 (xs.map I++[I x])]
 | [],h=>absurd rfl h
 | y :: r,_=>by
  simp only[gB,List.cons_append,List.length_append,List.length_cons,List.length_nil,Nat.zero_add,Nat.add_sub_cancel,List.map_append,List.map_cons,List.map_nil]
  rw[List.set_append_right _ _ (by omega),List.set_append_right _ _ (by simp)]
  simp[List.replicate_succ']

theorem I1 (h:xs.length+1≤1000000000):D.fU 3 1 8 (.st (gB b0 xs)) (gS b0.length xs) (.bq [I x])=some (.st (gB b0 (xs++[x]))):=by
 have hone:(cB [I x]).all (·.one)=true:=rfl
 have hac:bK 1 [I x]=true:=rfl
 by_cases hx:xs=[]
 ·subst hx
  simp only[gS,gB,D.fU,D.JN,hac,hone,List.cons_ne_nil,if_false,List.length_cons,List.length_nil]
  rw[if_pos (by refine⟨by omega,by decide,?_⟩;simp)]
  rfl
 ·rw[tc hx,YD hx]
  simp only[D.fU,D.JN,D.gF,Ez hx,Option.bind_some,hac,hone,List.cons_ne_nil,if_false,List.length_cons,List.length_nil]
  have hm:xs.length+1≤maxLen:=Nat.le_trans h (by decide)
  rw[if_pos (by refine⟨?_,?_,?_,?_,?_,?_,?_⟩ <;> simp <;> omega)]
  rfl

theorem IZ:D.apps (.st (gB b0 xs)) (gS b0.length xs) (.bq [I x])=some (gS b0.length (xs++[x])):=by
 by_cases hx:xs=[]
 ·subst hx
  rfl
 ·rw[tc hx,tc (by simp)]
  simp only[D.apps,D.cnt,List.length_cons,List.length_nil,List.length_append]
  rw[if_neg (by omega),abP]
  rw[show b0.length+(xs.length+(0+1)-1)=b0.length+xs.length by omega]

theorem mN {env:List D}{x y z:E}{dx dy dz d:D}(hx:x.eval env=some dx)(hy:y.eval env=some dy)(hz:z.eval env=some dz)(h:D.apps dx dy dz=some d):(E.apps x y z).eval env=some d:=by simp[E.eval,hx,hy,hz,h]
theorem xY {env:List D}{x:E}{r:List E}{d:D}{ds:List D}(hx:x.eval env=some d)(hr:aM env r=some ds):aM env (x :: r)=some (d :: ds):=by simp[aM,hx,hr]
theorem V0 {env:List D}:aM env []=some []:=rfl

/-! ## data aiY bD to themselves -/

theorem jj {α:Type}{enc:α→D}{f:D→Option D}:∀{l:List α},(∀a,a∈l→f (enc a)=some (enc a))→dK f (l.map enc)=some (l.map enc)
 | [],_=>rfl
 | a :: l,h=>by
  simp only[List.map_cons,dK]
  rw[h a (List.mem_cons_self ..),jj fun b hb=>h b (List.mem_cons_of_mem _ hb)]
  rfl

theorem oJ {bs:List D}{l:List Int}{n:Nat}:bD bs (n+2) (Is l)=some (Is l):=by
 rw[bD,jj (enc:=I) fun a _=>by rw[bD]]
 rfl

theorem H9 {n:Nat}:bD (gB b0 xs) (n+2) (gS b0.length xs)=some (Is xs):=by
 by_cases hx:xs=[]
 ·subst hx
  rfl
 ·rw[tc hx,bD]
  simp only[Ez hx]
  rw[if_pos (by simp)]
  simp only[Nat.mul_one,Nat.zero_add,List.drop_zero]
  rw[show(List.map I xs).take xs.length=List.map I xs from List.take_of_length_le (by simp),jj (enc:=I) fun a _=>by rw[bD]]
  simp

theorem P6 {P:Program}{f:FuncId}{ds st:List D}{v:Value}(h:bk P f (.st []) ds (.v v) (.st st))(hd:eG ds=true)(bs:List D):aP P f (.st bs) ds (.v v):=eN.bD (n:=1) h hd rfl bs
end
end Go.Am.Sc

namespace Go.Proofs
section
open Go.Shelf
def Tryz.K1:Go.Shelf.Ren:=⟨fun | 189=>96 | 125=>113 | 257=>125 | 128=>136 | 129=>137 | 294=>140 | 295=>141 | 296=>142 | 297=>143 | 298=>144 | 299=>145 | 216=>146 | 300=>147 | 301=>148 | 328=>155 | 329=>150 | 330=>151 | 331=>156 | 332=>157 | 215=>115 | 343=>160 | n=>n,fun | 28=>23 | 3=>3 | 46=>134 | 0=>0 | 51=>157 | 53=>159 | 4=>4 | 183=>151 | 182=>150 | 131=>116 | 5=>5 | 9=>9 | 218=>165 | 222=>169 | 228=>173 | 229=>130 | n=>n,fun | n=>n⟩
theorem Tryz.P8:Go.Proofs.Lays.n189 Tryz.prog Tryz.K1:={
 mixed:=by kernel_rfl
 f125:=Tryz.func113.trans (congrArg some (by kernel_rfl))
 f128:=Tryz.func136.trans (congrArg some (by kernel_rfl))
 f129:=Tryz.func137.trans (congrArg some (by kernel_rfl))
 f189:=Tryz.func96.trans (congrArg some (by kernel_rfl))
 f215:=Tryz.func115.trans (congrArg some (by kernel_rfl))
 f216:=Tryz.func146.trans (congrArg some (by kernel_rfl))
 f257:=Tryz.func125.trans (congrArg some (by kernel_rfl))
 f294:=Tryz.func140.trans (congrArg some (by kernel_rfl))
 f295:=Tryz.func141.trans (congrArg some (by kernel_rfl))
 f296:=Tryz.func142.trans (congrArg some (by kernel_rfl))
 f297:=Tryz.func143.trans (congrArg some (by kernel_rfl))
 f298:=Tryz.func144.trans (congrArg some (by kernel_rfl))
 f299:=Tryz.func145.trans (congrArg some (by kernel_rfl))
 f300:=Tryz.func147.trans (congrArg some (by kernel_rfl))
 f301:=Tryz.func148.trans (congrArg some (by kernel_rfl))
 f328:=Tryz.func155.trans (congrArg some (by kernel_rfl))
 f329:=Tryz.func150.trans (congrArg some (by kernel_rfl))
 f330:=Tryz.func151.trans (congrArg some (by kernel_rfl))
 f331:=Tryz.func156.trans (congrArg some (by kernel_rfl))
 f332:=Tryz.func157.trans (congrArg some (by kernel_rfl))
 f343:=Tryz.func160.trans (congrArg some (by kernel_rfl))
 t0:=Tryz.underlying0
 a0:=Tryz.isAgg0
 z0:=Tryz.sizeOf0
 v0:=Tryz.zeroValue0
 t3:=Tryz.underlying3
 a3:=Tryz.isAgg3
 z3:=Tryz.sizeOf3
 v3:=Tryz.zeroValue3
 t4:=Tryz.underlying4
 a4:=Tryz.isAgg4
 z4:=Tryz.sizeOf4
 v4:=Tryz.zeroValue4
 t5:=Tryz.underlying5
 a5:=Tryz.isAgg5
 z5:=Tryz.sizeOf5
 v5:=Tryz.zeroValue5
 t9:=Tryz.underlying9
 a9:=Tryz.isAgg9
 z9:=Tryz.sizeOf9
 v9:=Tryz.zeroValue9
 t28:=Tryz.underlying23
 a28:=Tryz.isAgg23
 z28:=Tryz.sizeOf23
 v28:=Tryz.zeroValue23
 t46:=Tryz.underlying134
 a46:=Tryz.isAgg134
 z46:=Tryz.sizeOf134
 v46:=Tryz.zeroValue134
 t51:=Tryz.underlying157
 a51:=Tryz.isAgg157
 z51:=Tryz.sizeOf157
 v51:=Tryz.zeroValue157
 t53:=Tryz.underlying159
 a53:=Tryz.isAgg159
 z53:=Tryz.sizeOf159
 v53:=Tryz.zeroValue159
 t131:=Tryz.underlying116
 a131:=Tryz.isAgg116
 z131:=Tryz.sizeOf116
 v131:=Tryz.zeroValue116
 t182:=Tryz.underlying150
 a182:=Tryz.isAgg150
 z182:=Tryz.sizeOf150
 v182:=Tryz.zeroValue150
 t183:=Tryz.underlying151
 a183:=Tryz.isAgg151
 z183:=Tryz.sizeOf151
 v183:=Tryz.zeroValue151
 t218:=Tryz.underlying165
 a218:=Tryz.isAgg165
 z218:=Tryz.sizeOf165
 v218:=Tryz.zeroValue165
 t222:=Tryz.underlying169
 a222:=Tryz.isAgg169
 z222:=Tryz.sizeOf169
 v222:=Tryz.zeroValue169
 t228:=Tryz.underlying173
 a228:=Tryz.isAgg173
 z228:=Tryz.sizeOf173
 v228:=Tryz.zeroValue173
 t229:=Tryz.underlying130
 a229:=Tryz.isAgg130
 z229:=Tryz.sizeOf130
 v229:=Tryz.zeroValue130 }
open Go.Sort Go.RowKit in
theorem Tryz.slices_Sort_int (blk off cap:Nat)(zs:List Int)(w:World)(hH:Holds (Value.int .i64) w blk off zs.toArray)(hblk:blk<w.heap.size)(hsz:zs.length<4611686018427387904) :
  Calls Tryz.prog 96 #[.slice (some ⟨blk,off,none⟩) zs.length cap] w fun e w'=>
   e=.returned (.tuple #[])∧∃n os,w'=grow (putRow (Value.int .i64) (Sort.ahead w n) blk off (zs.mergeSort fun x y=>decide (x≤y)).toArray) os:=Any.slices_Sort_int Tryz.P8 blk off cap zs w hH hblk hsz
def Tryz.FH:Go.Shelf.Ren:=⟨fun | 15=>82 | n=>n,fun | 22=>23 | 3=>3 | 4=>4 | n=>n,fun | n=>n⟩
theorem Tryz.vT:Go.Proofs.Lays2.n15 Tryz.prog Tryz.FH:={
 mixed:=by kernel_rfl
 f15:=Tryz.func82.trans (congrArg some (by kernel_rfl))
 t3:=Tryz.underlying3
 a3:=Tryz.isAgg3
 z3:=Tryz.sizeOf3
 v3:=Tryz.zeroValue3
 t4:=Tryz.underlying4
 a4:=Tryz.isAgg4
 z4:=Tryz.sizeOf4
 v4:=Tryz.zeroValue4
 t22:=Tryz.underlying23
 a22:=Tryz.isAgg23
 z22:=Tryz.sizeOf23
 v22:=Tryz.zeroValue23
 i3:=by kernel_rfl }
open Go.RowKit Go.Lib in
theorem Tryz.slices_Clone_int (b off n c:Nat)(zs:List Int)(w:World)(hz:n≤zs.length)(hbig:n*8≤140737488355328)(hc:∀j,j<zs.length→w.cell? ⟨b,off+j,none⟩=some (.int .i64 (zs.getD j 0))) :
  Calls Tryz.prog 82 #[.slice (some ⟨b,off,none⟩) n c] w fun e w'=>∃v',e=.returned v'∧w'.ownsRow w.heap.size 3 1 v' n ((zs.take n).map (Value.int .i64))∧v'≠.slice none 0 0∧Below w.heap.size w w':=Any.slices_Clone_int Tryz.vT b off n c zs w hz hbig hc
open Go.RowKit Go.Lib in
theorem Tryz.slices_Clone_int_nil (n c:Nat)(w:World) :
  Calls Tryz.prog 82 #[.slice none n c] w fun e w'=>e=.returned (.slice none 0 0)∧w'=w:=Any.slices_Clone_int_nil Tryz.vT n c w
open Go.RowKit Go.Lib in
theorem Tryz.slices_Clone_int_zero (a:Addr)(c:Nat)(w:World) :
  Calls Tryz.prog 82 #[.slice (some a) 0 c] w fun e w'=>∃v',e=.returned v'∧w'.ownsRow w.heap.size 3 1 v' 0 []∧v'≠.slice none 0 0∧Below w.heap.size w w':=Any.slices_Clone_int_zero Tryz.vT a c w
open Go.RowKit Go.Sort in
theorem Tryz.slices_Sort_int_none (p:Option Addr)(cap:Nat)(w:World) :
  Calls Tryz.prog 96 #[.slice p 0 cap] w fun e w'=>e=.returned (.tuple #[])∧w'=w:=Any.slices_Sort_int_none Tryz.P8 p cap w
end
end Go.Proofs
