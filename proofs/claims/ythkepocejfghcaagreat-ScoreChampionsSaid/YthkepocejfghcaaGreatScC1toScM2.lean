/-
  Several texts, one behind the other.
-/
import Derived.Test.YthkepocejfghcaaGreatScLentoScAct
import Derived.Test.YthkepocejfghcaaGreatAmFntoAmSt2
import Derived.Test.YthkepocejfghcaaGreatAmKilltoAmOut
set_option linter.unusedSimpArgs false
set_option linter.unusedVariables false
/-
 What the small functions of the score and of its specification answer: ranges,lines.
-/
namespace Go.Am.Sc
open Go.Proofs
set_option maxRecDepth 100000
set_option maxHeartbeats 4000000

variable {bs:List D}

theorem c46 (x lo hi:Int):FSpecR Tryz.prog 46 (.st bs) [I x,I lo,I hi] (B (inR x lo hi)):=by
 refine ku46.R rfl rfl ?_
 unfold u46
 simp only[ups_cons,ups_nil,List.cons_append,List.nil_append]
 repeat' (first|(apply nrm;simp only[sbe];rfl)|(apply u_ev;rfl;simp only[sbe];rfl)|(apply u_and;rfl)|exact u_ret rfl rfl|(intro hz;(try simp only[sbs] at hz)))

theorem c49 (x lo hi:Int):FSpecR Tryz.prog 49 (.st bs) [I x,I lo,I hi] (B (inR x lo hi)):=by
 refine ku49.R rfl rfl ?_
 unfold u49
 simp only[ups_cons,ups_nil,List.cons_append,List.nil_append]
 repeat' (first|(apply nrm;simp only[sbe];rfl)|(apply u_ev;rfl;simp only[sbe];rfl)|(apply u_and;rfl)|exact u_ret rfl rfl|(intro hz;(try simp only[sbs] at hz)))

attribute [local irreducible] inR

def fi {α:Type}(P:α→Bool)(l:List α):Int:=match l.findIdx? P with
 | some i=>i
 | none=>-1

theorem fi_at {α:Type}{P:α→Bool}{l:List α}{i:Nat}(hi:i<l.length)(hP:P l[i]=true)(hn:∀k (h:k<i),P (l[k]'(by omega))=false):fi P l=i:=by
 have:l.findIdx? P=some i:=by
  rw[List.findIdx?_eq_some_iff_getElem]
  exact⟨hi,hP,fun j hj=>by simp[hn j hj]⟩
 simp[fi,this]

theorem fi_no {α:Type}{P:α→Bool}{l:List α}(hn:∀a,a∈l→P a=false):fi P l=-1:=by
 have:l.findIdx? P=none:=by
  rw[List.findIdx?_eq_none_iff]
  exact hn
 simp[fi,this]

theorem fi_any {α:Type}(P:α→Bool)(l:List α):decide (fi P l≥0)=l.any P:=by
 cases h:l.findIdx? P with
 | none=>
  have h2:=List.findIdx?_eq_none_iff.1 h
  have:l.any P=false:=by
   rw[List.any_eq_false]
   intro x hx
   simp[h2 x hx]
  rw[this]
  simp[fi,h]
 | some i=>
  obtain⟨h1,h2,_⟩:=List.findIdx?_eq_some_iff_getElem.1 h
  have:l.any P=true:=List.any_eq_true.2 ⟨_,List.getElem_mem h1,h2⟩
  rw[this]
  simp[fi,h]


theorem c126 {P:Int→Bool}{f:Nat}{us cs:List D}{l:List Int}(hL:l.length≤maxLen)(hc:callable Tryz.prog f=true)(hf:∀x,x∈l→FSpecR Tryz.prog f (.st bs) (us++[I x]++cs) (B (P x))):FSpecR Tryz.prog 126 (.st bs) [.lst (l.map I),.fn f us cs] (I (fi P l)):=by
 have hL':l.length≤9223372036854775807:=hL
 refine ku126.R rfl rfl ?_
 unfold u126
 simp only[ups_cons,ups_nil,List.cons_append,List.nil_append]
 repeat' (first|(apply u_lenL;rfl;exact lenL_map;simp only[sbe];rfl)|refine u_join ?_)
 refine u_range (fun i=>[I i]) (fun i=>∀k (h:k<i) (h2:k<l.length),P l[k]=false) l.length rfl (fun _=>rfl) (fun k h=>absurd h (Nat.not_lt_zero _)) (fun i hi hJ R hR=>?_) (fun hJ R=>?_)
 ·have hcal:=hf l[i] (List.getElem_mem hi)
  have hli:decide ((i:Int)<(l.length:Int))=true:=by simp;omega
  cases hP:P l[i]
  ·rw[hP] at hcal
   repeat' (first|(apply nrm;simp only[sbe];rfl)|(apply u_iteT;rfl;exact hli)|(apply u_iteF;rfl;exact rfl)|(apply u_eaddr;rfl;rfl;exact eaddr_get hi rfl;simp only[sbe];rfl)|(apply u_add;rfl;rfl;omega;simp only[sbe];rfl)|(apply u_ev;rfl;simp only[sbe];rfl)|(apply u_callv;rfl;exact hc;rfl;rfl;exact hcal;rfl;simp only[sbe];rfl)|refine u_join ?_|(apply u_jump;rfl;rfl)|refine at_jump ?_|refine kj rfl ?_)
   refine hR fun k hk h2=>?_
   rcases Nat.lt_or_ge k i with h3 | h3
   ·exact hJ k h3 h2
   ·have e:k=i:=by omega
    subst e
    exact hP
  ·rw[hP] at hcal
   repeat' (first|(apply nrm;simp only[sbe];rfl)|(apply u_iteT;rfl;(·first|exact hli|exact rfl))|(apply u_eaddr;rfl;rfl;exact eaddr_get hi rfl;simp only[sbe];rfl)|(apply u_ev;rfl;simp only[sbe];rfl)|(apply u_callv;rfl;exact hc;rfl;rfl;exact hcal;rfl;simp only[sbe];rfl)|refine u_join ?_|(apply u_ret;rfl;first|exact rfl|(refine retB ?_)|(refine retI ?_)|(refine retD ?_)))
   exact(fi_at hi hP fun k hk=>hJ k hk (by omega)).symm
 ·repeat' (first|(apply nrm;simp only[sbe];rfl)|(apply u_ev;rfl;simp only[sbe];rfl)|(apply u_jump;rfl;rfl)|refine at_jump ?_|(refine over_jump (by decide) ?_)|refine kj rfl ?_|(apply u_ite;rfl;all_goals (intro hz;(try simp only[sbs] at hz);first|(exact absurd hz (by decide))|(exfalso;omega)|skip))|(apply u_ret;rfl;first|exact rfl|(refine retB ?_)|(refine retI ?_)|(refine retD ?_)))
  refine(fi_no fun a ha=>?_).symm
  obtain⟨k,hk,rfl⟩:=List.mem_iff_getElem.1 ha
  exact hJ k hk hk


theorem c99 {P:Int→Bool}{f:Nat}{us cs:List D}{l:List Int}(hL:l.length≤maxLen)(hc:callable Tryz.prog f=true)(hf:∀x,x∈l→FSpecR Tryz.prog f (.st bs) (us++[I x]++cs) (B (P x))):FSpecR Tryz.prog 99 (.st bs) [.lst (l.map I),.fn f us cs] (B (l.any P)):=by
 refine ku99.R rfl rfl ?_
 unfold u99
 simp only[ups_cons,ups_nil,List.cons_append,List.nil_append]
 repeat' (first|(apply u_ev;rfl;simp only[sbe];rfl)|(apply u_call;rfl;rfl;exact c126 hL hc hf;rfl;simp only[sbe];rfl)|(apply u_ret;rfl;first|exact rfl|(refine retB ?_)|(refine retI ?_)|(refine retD ?_)))
 exact fi_any P l

theorem c100 (x most:Int):FSpecR Tryz.prog 100 (.st bs) [I x,.ptr [I most]] (B (!inR x 0 most)):=by
 refine ku100.R rfl rfl ?_
 unfold u100
 simp only[ups_cons,ups_nil,List.cons_append,List.nil_append]
 repeat' (first|(apply u_ev;rfl;simp only[sbe];rfl)|(apply u_call;rfl;rfl;exact c46 _ _ _;rfl;simp only[sbe];rfl)|exact u_ret rfl rfl)

theorem not_any {α:Type}(P:α→Bool):∀l:List α,(!(l.any fun x=>!P x))=l.all P
 | []=>rfl
 | x :: l=>by simp[not_any P l]

theorem c47 {l:List Int}{least many most:Int}(hL:l.length≤maxLen):FSpecR Tryz.prog 47 (.st bs) [Is l,I least,I many,I most] (B (allR l least many 0 most)):=by
 have hf:FSpecR Tryz.prog 99 (.st bs) [.lst (l.map I),.fn 100 [] [.ptr [I most]]] (B (l.any fun x=>!inR x 0 most)):=c99 (us:=[]) (cs:=[.ptr [I most]]) hL (by kernel_rfl) fun x _=>c100 x most
 refine ku47.R rfl rfl ?_
 unfold u47
 simp only[ups_cons,ups_nil,List.cons_append,List.nil_append]
 repeat' (first|(apply nrm;simp only[sbe];rfl)|(apply u_lenL;rfl;exact lenL_map;simp only[sbe];rfl)|(apply u_ev;rfl;simp only[sbe];rfl)|(apply u_call;rfl;rfl;(·first|exact c46 _ _ _|exact hf);rfl;simp only[sbe];rfl)|(apply u_and;rfl)|exact u_ret rfl rfl|(apply u_ret;rfl;first|exact rfl|(refine retB ?_)|(refine retI ?_)|(refine retD ?_))|(intro hz;(try simp only[sbs] at hz)))
 rw[not_any,allR,Bool.and_comm]

theorem c50 {l:List Int}{least most lo hi:Int}(hL:l.length≤maxLen):FSpecR Tryz.prog 50 (.st bs) [Is l,I least,I most,I lo,I hi] (B (allR l least most lo hi)):=by
 have hL':l.length≤9223372036854775807:=hL
 refine ku50.R rfl rfl ?_
 unfold u50
 simp only[ups_cons,ups_nil,List.cons_append,List.nil_append]
 repeat' ((with_reducible refine u_join ?_))
 refine u_range (fun i=>[I i]) (fun i=>∀k (h:k<i) (h2:k<l.length),inR l[k] lo hi=true) l.length rfl (fun _=>rfl) (fun k h=>absurd h (Nat.not_lt_zero _)) (fun i hj hJ R hR=>?_) (fun hJ R=>?_)
 ·have hli:decide ((i:Int)<(l.length:Int))=true:=by simp;omega
  cases hP:inR l[i] lo hi
  ·have hcal:=c49 (bs:=bs) l[i] lo hi
   rw[hP] at hcal
   repeat' (first|(apply nrm;simp only[sbe];rfl)|(apply u_iteT;rfl;(·first|exact hli|exact rfl))|(apply u_eaddr;rfl;rfl;exact eaddr_get hj rfl;simp only[sbe];rfl)|(apply u_lenL;rfl;exact lenL_map;simp only[sbe];rfl)|(apply u_ev;rfl;simp only[sbe];rfl)|(apply u_call;rfl;rfl;exact hcal;rfl;simp only[sbe];rfl)|refine u_join ?_|(apply u_ret;rfl;first|exact rfl|(refine retB ?_)|(refine retI ?_)|(refine retD ?_)))
   rw[allR,Bool.and_eq_false_iff.2 (.inl (List.all_eq_false.2 ⟨_,List.getElem_mem hj,by simp[hP]⟩))]
  ·have hcal:=c49 (bs:=bs) l[i] lo hi
   rw[hP] at hcal
   repeat' (first|(apply nrm;simp only[sbe];rfl)|(apply u_iteT;rfl;exact hli)|(apply u_iteF;rfl;exact rfl)|(apply u_eaddr;rfl;rfl;exact eaddr_get hj rfl;simp only[sbe];rfl)|(apply u_lenL;rfl;exact lenL_map;simp only[sbe];rfl)|(apply u_add;rfl;rfl;omega;simp only[sbe];rfl)|(apply u_ev;rfl;simp only[sbe];rfl)|(apply u_call;rfl;rfl;exact hcal;rfl;simp only[sbe];rfl)|refine u_join ?_|(apply u_jump;rfl;rfl)|refine at_jump ?_|refine kj rfl ?_)
   refine hR fun k hk h2=>?_
   rcases Nat.lt_or_ge k i with h3 | h3
   ·exact hJ k h3 h2
   ·have e:k=i:=by omega
    subst e
    exact hP
 ·repeat' (first|(apply nrm;simp only[sbe];rfl)|(apply u_lenL;rfl;exact lenL_map;simp only[sbe];rfl)|(apply u_ev;rfl;simp only[sbe];rfl)|(apply u_call;rfl;rfl;exact c49 _ _ _;rfl;simp only[sbe];rfl)|(apply u_jump;rfl;rfl)|refine at_jump ?_|(refine over_jump (by decide) ?_)|refine kj rfl ?_|(apply u_ite;rfl;all_goals (intro hz;(try simp only[sbs] at hz);first|(exact absurd hz (by decide))|(exfalso;omega)|skip))|(apply u_ret;rfl;first|exact rfl|(refine retB ?_)|(refine retI ?_)|(refine retD ?_)))
  rw[allR,List.all_eq_true.2 fun a ha=>?_,Bool.true_and]
  obtain⟨k,hk,rfl⟩:=List.mem_iff_getElem.1 ha
  exact hJ k hk hk

end Go.Am.Sc

/-
 What Check answers,and what the specification says of a plan.
-/
namespace Go.Am.Sc
open Go.Proofs
set_option maxRecDepth 100000
set_option maxHeartbeats 4000000

attribute [local irreducible] inR allR

variable {bs:List D} {p:Plan}

theorem ea_it {i:Nat}(h:i<p.n):D.eaddr 4 (.lst (p.items.map Item.d)) (In i)=some (.ptr (p.it i).d.cells):=eaddr_lst (Plan.it_getElem h) rfl
theorem ln_it:D.lenL (.lst (p.items.map Item.d))=some (I p.n):=lenL_map

end Go.Am.Sc

/-
 What the specification says of a plan.
-/
namespace Go.Am.Sc
open Go.Proofs
set_option maxRecDepth 100000
set_option maxHeartbeats 4000000

attribute [local irreducible] inR allR

variable {bs:List D} {p:Plan}



end Go.Am.Sc

/-
 What CheckCard answers,and what the specification says of a card.
-/
namespace Go.Am.Sc
open Go.Proofs
set_option maxRecDepth 100000
set_option maxHeartbeats 4000000

attribute [local irreducible] inR allR lineOk

variable {bs:List D} {p:Plan} {c:Card}

theorem ea_ln {i:Nat}(h:i<c.lines.length):D.eaddr 4 (.lst (c.lines.map Line.d)) (In i)=some (.ptr (c.ln i).d.cells):=eaddr_lst (Card.ln_getElem h) rfl
theorem ea_last (h:1≤p.n):D.eaddr 4 (.lst (p.items.map Item.d)) (I ((p.n:Int)-1))=some (.ptr (p.it (p.n-1)).d.cells):=by
 rw[show(p.n:Int)-1=((p.n-1:Nat):Int) by omega]
 exact ea_it (by omega)

end Go.Am.Sc

/-
 The law of checks,as a text.
-/
namespace Go.Am.Sc
open Go.Proofs

end Go.Am.Sc

/-
 Which arguments are small;the law of checks.
-/
namespace Go.Am.Sc
open Go.Proofs
set_option maxRecDepth 100000
set_option maxHeartbeats 4000000

attribute [local irreducible] inR allR lineOk

variable {bs:List D} {p:Plan} {c:Card}

def Plan.small (p:Plan):Bool:=decide ((p.n:Int)≤12)&&(decide ((p.jumps.length:Int)≤20)&&(decide ((p.points.length:Int)≤80)&&decide ((p.extra.length:Int)≤80)))

def Card.small (c:Card):Bool:=decide ((c.starts.length:Int)≤12)&&decide ((c.lines.length:Int)≤30)
def shortL (l:List Card)(most:Int):Bool:=l.all Card.small&&(decide ((l.length:Int)≤most)||(decide ((l.length:Int) > 200)&&decide ((l.length:Int)<300)))

end Go.Am.Sc

/-
 Due minutes and where a car is out,as texts.
-/
namespace Go.Am.Sc
open Go.Proofs

end Go.Am.Sc

/-
 Due minutes,lateness,and where a car is out.
-/
namespace Go.Am.Sc

def Card.st (c:Card)(k:Nat):Int:=c.starts.getD k 0

def dueA (p:Plan)(c:Card)(i:Nat):Int:=
 if(i != 0&&(p.it (i-1)).leg==(p.it i).leg)=true then(c.ln (i-1)).minute+(p.it i).target else c.st (p.it i).leg.toNat+(p.it i).target

def ctl (p:Plan)(c:Card)(i:Nat):Bool:=(p.it i).kind==1&&(c.ln i).mark != 2

def lateN (p:Plan)(c:Card)(i:Nat):Int:=if ctl p c i=true then max 0 ((c.ln i).minute-dueA p c i) else 0
def earlyN (p:Plan)(c:Card)(i:Nat):Int:=if(ctl p c i&&!(p.it i).free)=true then max 0 (dueA p c i-(c.ln i).minute) else 0

variable {p:Plan} {c:Card}

structure CdOk (p:Plan)(c:Card):Prop where
 cls:0≤c.cls∧c.cls<p.classes
 stl:(c.starts.length:Int)=p.legs
 st:∀k,k<c.starts.length→0≤c.st k∧c.st k≤100000
 len:c.lines.length=p.n
 ln:∀i,i<p.n→lineOk (p.it i) (c.ln i)=true

theorem CdOk.minute (h:CdOk p c){i:Nat}(hi:i<p.n):0≤(c.ln i).minute∧(c.ln i).minute≤100000:=by
 have:=h.ln i hi
 simp only[lineOk,Bool.and_eq_true] at this
 exact inR_t this.1

theorem CdOk.time (h:CdOk p c){i:Nat}(hi:i<p.n):0≤(c.ln i).time∧(c.ln i).time≤36000000:=by
 have:=h.ln i hi
 simp only[lineOk,Bool.and_eq_true] at this
 exact inR_t this.2.1

theorem CdOk.mark (h:CdOk p c){i:Nat}(hi:i<p.n):(c.ln i).mark=0∨(c.ln i).mark=1∨(c.ln i).mark=2:=by
 have:=h.ln i hi
 simp only[lineOk,Bool.and_eq_true,Bool.or_eq_true,beq_iff_eq] at this
 omega

theorem Plan.ok_kind (h:p.ok=true){i:Nat}(hi:i<p.n):((p.it i).kind=1∧0≤(p.it i).target∧(p.it i).target≤1440)∨((p.it i).kind=2∧(p.it i).target=0∧(p.it i).free=false):=by
 have:=Plan.ok_itOk (Plan.ok_parts h).2.1 hi
 simp only[Plan.itOk,Bool.and_eq_true,Bool.or_eq_true,beq_iff_eq,Bool.not_eq_true'] at this
 rcases this.2.2 with⟨h1,h2⟩ | ⟨h1,h2,h3⟩
 ·exact .inl ⟨h1,inR_t h2⟩
 ·exact .inr ⟨h1,h2,h3⟩

theorem Plan.ok_mono (h : p.ok = true) : ∀ {i k : Nat}, i ≤ k → k < p.n → (p.it i).leg ≤ (p.it k).leg
  | i, 0, h1, _ => by obtain rfl : i = 0 := by omega
                      omega
  | i, k + 1, h1, h2 => by
    rcases Nat.lt_or_ge k i with h3 | h3
    · obtain rfl : i = k + 1 := by omega
      omega
    · have ih := Plan.ok_mono h h3 (by omega)
      have := Plan.ok_itOk (Plan.ok_parts h).2.1 h2
      simp only [Plan.itOk, Bool.and_eq_true, Bool.or_eq_true, beq_iff_eq, Nat.add_sub_cancel] at this
      rcases this.1 with h4 | h4
      · omega
      · have := inR_t h4
        omega

theorem CdOk.stAt (hp:p.ok=true)(h:CdOk p c){i:Nat}(hi:i<p.n):(p.it i).leg.toNat<c.starts.length∧0≤c.st (p.it i).leg.toNat∧c.st (p.it i).leg.toNat≤100000:=by
 have h1:=Plan.ok_leg hp hi
 have h2:=Plan.ok_mono hp (i:=i) (k:=p.n-1) (by omega) (by omega)
 have h3:=h.stl
 unfold Plan.legs at h3
 have h4:(p.it i).leg.toNat<c.starts.length:=by omega
 exact⟨h4,h.st _ h4⟩

theorem CdOk.due (hp:p.ok=true)(h:CdOk p c){i:Nat}(hi:i<p.n):0≤dueA p c i∧dueA p c i≤101440:=by
 have h1:=Plan.ok_kind hp hi
 have h2:=h.stAt hp hi
 have h3:=h.minute (i:=i-1) (by omega)
 unfold dueA
 split <;> omega

theorem CdOk.late (hp:p.ok=true)(h:CdOk p c){i:Nat}(hi:i<p.n):0≤lateN p c i∧lateN p c i≤100000:=by
 have h1:=h.due hp hi
 have h2:=h.minute hi
 unfold lateN
 split <;> omega

theorem CdOk.early (hp:p.ok=true)(h:CdOk p c){i:Nat}(hi:i<p.n):0≤earlyN p c i∧earlyN p c i≤101440:=by
 have h1:=h.due hp hi
 have h2:=h.minute hi
 unfold earlyN
 split <;> omega

end Go.Am.Sc

/-
 Due minutes and lateness,in the program and in its specification.
-/
namespace Go.Am.Sc
open Go.Proofs
set_option maxRecDepth 100000
set_option maxHeartbeats 4000000

attribute [local irreducible] inR allR lineOk

variable {bs:List D} {p:Plan} {c:Card}

end Go.Am.Sc

/-
 Where a car is out: the loop over a leg's items.
-/
namespace Go.Am.Sc
open Go.Proofs
set_option maxRecDepth 100000
set_option maxHeartbeats 4000000

attribute [local irreducible] inR allR lineOk

variable {bs:List D} {p:Plan} {c:Card}

section
variable {k0:Nat} {rec:Loop×Code} {sl:List Nat} {cds:List D} {n:Int}

end

end Go.Am.Sc

/-
 Where a car is out,in the program.
-/
namespace Go.Am.Sc
open Go.Proofs
set_option maxRecDepth 100000
set_option maxHeartbeats 4000000

attribute [local irreducible] inR allR lineOk

variable {bs:List D} {p:Plan} {c:Card}







theorem noid_map {α:Type}{enc:α→D}(h:∀x,(enc x).noid=true):∀l:List α,noids (l.map enc)=true
 | []=>rfl
 | x :: l=>by simp[noids,h x,noid_map h l]

end Go.Am.Sc

/-
 The law of due minutes.
-/
namespace Go.Am.Sc
open Go.Proofs
set_option maxRecDepth 100000
set_option maxHeartbeats 4000000

attribute [local irreducible] inR allR lineOk

variable {bs:List D} {p:Plan} {c:Card}

end Go.Am.Sc

/-
 Times and totals,as texts.
-/
namespace Go.Am.Sc
open Go.Proofs

end Go.Am.Sc

/-
 Real times,notional times,false starts,totals.
-/
namespace Go.Am.Sc

def srt (l:List Int):List Int:=l.mergeSort fun x y=>decide (x≤y)

theorem srt_perm (l:List Int):(srt l).Perm l:=List.mergeSort_perm l _
theorem srt_len (l:List Int):(srt l).length=l.length:=List.length_mergeSort l
theorem srt_sorted (l:List Int):(srt l).Pairwise (·≤·):=by
 have:=List.pairwise_mergeSort (le:=fun x y:Int=>decide (x≤y)) (fun a b c h1 h2=>by simp at *;omega) (fun a b=>by simp;omega) l
 simpa[srt] using this
theorem srt_mem {l:List Int}{x:Int}:x∈srt l↔x∈l:=(srt_perm l).mem_iff

def ins (t:Int):List Int→List Int
 | []=>[t]
 | x :: r=>if x≤t then x :: ins t r else t :: x :: r

theorem ins_perm (t:Int):∀l:List Int,(ins t l).Perm (t :: l)
 | []=>.refl _
 | x :: r=>by
  rw[ins]
  split
  ·exact((ins_perm t r).cons x).trans (.swap t x r)
  ·exact .refl _

theorem ins_sorted (t:Int):∀{l:List Int},l.Pairwise (·≤·)→(ins t l).Pairwise (·≤·)
 | [],_=>by simp[ins]
 | x :: r,h=>by
  rw[ins]
  have h1:=List.pairwise_cons.1 h
  split
  ·rename_i hx
   refine List.pairwise_cons.2 ⟨fun y hy=>?_,ins_sorted t h1.2⟩
   rcases List.mem_cons.1 ((ins_perm t r).mem_iff.1 hy) with h2 | h2
   ·omega
   ·exact h1.1 y h2
  ·rename_i hx
   refine List.pairwise_cons.2 ⟨fun y hy=>?_,h⟩
   rcases List.mem_cons.1 hy with h2 | h2
   ·omega
   ·have:=h1.1 y h2
    omega

def cd (l:List Card)(k:Nat):Card:=l.getD k default

def tmK (l:List Card)(i k:Nat):Int:=((cd l k).ln i).time
def mnK (l:List Card)(i k:Nat):Int:=((cd l k).ln i).minute
def tms (l:List Card)(i:Nat)(b:List Nat):List Int:=b.map (tmK l i)

def least (l:List Card)(i:Nat)(b:List Nat):Int:=(srt (tms l i b)).getD 0 0

variable {p:Plan} {l:List Card}

end Go.Am.Sc

/-
 Real times,notional times and totals,in the specification.
-/
namespace Go.Am.Sc
open Go.Proofs
set_option maxRecDepth 100000
set_option maxHeartbeats 4000000

attribute [local irreducible] inR allR lineOk

variable {bs:List D} {p:Plan} {c:Card} {l:List Card}

theorem app_ix {xs:List Nat}{x:Nat}(h:xs.length≤100000):D.app 1 8 (Ix xs) (.lst [In x])=some (Ix (xs++[x])):=app1_lst (enc:=In) (by omega) (Nat.le_trans (Nat.succ_le_succ h) (by decide)) (fun _=>rfl)
theorem app_is {xs:List Int}{x:Int}(h:xs.length≤100000):D.app 1 8 (Is xs) (.lst [I x])=some (Is (xs++[x])):=app1_lst (enc:=I) (by omega) (Nat.le_trans (Nat.succ_le_succ h) (by decide)) (fun _=>rfl)

theorem ix_get {L:List Nat}{i:Nat}(h:i<L.length):D.eaddr 1 (Ix L) (In i)=some (.ptr [In L[i]]):=eaddr_get h rfl
theorem is_get {L:List Int}{i:Nat}(h:i<L.length):D.eaddr 1 (Is L) (In i)=some (.ptr [I (L.getD i 0)]):=by
 have e:L.getD i 0=L[i]:=by simp[List.getD,h]
 rw[e]
 exact eaddr_get (enc:=I) h rfl

theorem e_sub {env:List D}{n:Nat}{x y z:E}{dx dy dz d:D}(hx:x.eval env=some dx)(hy:y.eval env=some dy)(hz:z.eval env=some dz)(h:D.sub n dx dy dz=some d):(E.sub n x y z).eval env=some d:=by simp only[E.eval,hx,hy,hz,Option.bind_some,h]
theorem e_lenL {env:List D}{x:E}{dx d:D}(hx:x.eval env=some dx)(h:D.lenL dx=some d):(E.lenL x).eval env=some d:=by simp only[E.eval,hx,Option.bind_some,h]

theorem all1 (o:List Int):allCells 1 (o.map I)=true:=by
 simp only[allCells,List.all_map,List.all_eq_true]
 exact fun _ _=>rfl

theorem sub_is {o:List Int}{a b:Nat}(h1:a≤b)(h2:b≤o.length):D.sub 1 (Is o) (In a) (In b)=some (Is ((o.drop a).take (b-a))):=by
 simp only[D.sub]
 rw[if_pos ⟨by omega,by omega,by simp;omega,all1 o⟩,show((a:Int)).toNat=a by omega,show((b:Int)-(a:Int)).toNat=b-a by omega]
 show some (D.lst _)=some (D.lst (List.map I _))
 rw[List.map_take,List.map_drop]

theorem app_iss {xs ys:List Int}(h:xs.length+ys.length≤100000):D.app 1 8 (Is xs) (Is ys)=some (Is (xs++ys)):=app_lst (enc:=I) (by omega) (Nat.le_trans h (by decide)) (fun _=>rfl)



end Go.Am.Sc

/-
 Championships,as texts.
-/
namespace Go.Am.Sc
open Go.Proofs

noncomputable def u8:U:=(ups [.ev (.lenL y0),
 .ev (.bin .gtr .int y3 (ki 12)),
 .chain false y4 (ups [.ev (.lenL y0),
 .ev (.bin .leq .int y5 (ki 500))]
 (.ret y6)),
 .chain true y5 (ups [.ev (.lenL y0),
 .ev (.bin .gtr .int y6 (ki 600))]
 (.ret y7))]
 (.ite y6 (ups [.call 17 y2 [] [true]]
 (.ret (.tcons y7 (.tcons y2 .tnil)))) (ups [.join 0 0 (.loop 1 [(ki 0)] (ups [.ev (.lenL y0),
 .ev (.bin .lss .int y7 y8)]
 (.ite y9 (ups [.join 2 0 (ups [.ev (.eaddr 1 y0 y7),
 .ev (.ld false 1 y2 y10),
 .ev (.lenL y11),
 .ev (.bin .gtr .int y12 (ki 45))]
 (.ite y13 (ups [.call 17 y2 [] [true]]
 (.ret (.tcons y14 (.tcons y2 .tnil)))) (.jump 2 [] []))),
 .ev (.bin .add .int y7 (ki 1))]
 (.jump 1 [y10] [])) (.jump 0 [] [])))),
 .call 31 y2 [y0,y1] [true,true,true],
 .call 32 y2 [y0,y1] [true],
 .ev (.un .not y8)]
 (.ite y9 (ups [.ev (.bin .eql .int (.tget 2 y7) (ki 2)),
 .chain false y10 (ups [.chk (.tget 0 y7),
 .ev (.lenL (.tget 0 y7)),
 .chk (.tget 1 y7),
 .ev (.lenL (.tget 1 y7)),
 .ev (.bin .add .int y11 y12),
 .ev (.bin .eql .int y13 (ki 0))]
 (.ret y14)),
 .chain false y11 (ups [.call 17 y2 [] [true]]
 (.ret y12))]
 (.ret (.tcons y12 (.tcons y2 .tnil)))) (ups [.call 33 y2 [y0,y1] [true,true],
 .ev (.bin .eql .int (.tget 2 y7) (ki 0)),
 .chain false y11 (ups [.chk (.tget 0 y7),
 .chk (.tget 0 y10),
 .call 34 y2 [(.tget 0 y7),(.tget 0 y10)] [true]]
 (.ret y12)),
 .chain false y12 (ups [.chk (.tget 1 y7),
 .chk (.tget 1 y10),
 .call 34 y2 [(.tget 1 y7),(.tget 1 y10)] [true]]
 (.ret y13)),
 .chain false y13 (ups [.call 17 y2 [] [true]]
 (.ret y14))]
 (.ret (.tcons y14 (.tcons y2 .tnil))))))))
theorem ku8:UOk Tryz.prog 8 .plain (scf true [] [] Tryz.f8) [true,true] u8:=UOk.plain Tryz.func8 (by kernel_rfl) (by kernel_rfl)

noncomputable def u32:U:=(ups [.ev (.lenL y0),
 .ev (.bin .gtr .int y3 (ki 500)),
 .chain true y4 (ups [.ev (.bin .lss .int y1 (ki 0))]
 (.ret y5))]
 (.ite y5 (.ret (.tcons (kb false) (.tcons y2 .tnil))) (ups [.join 0 0 (.loop 1 [(ki 0)] (ups [.ev (.lenL y0),
 .ev (.bin .lss .int y6 y7)]
 (.ite y8 (ups [.join 2 0 (ups [.ev (.eaddr 1 y0 y6),
 .ev (.ld false 1 y2 y9),
 .ev (.lenL y10),
 .ev (.eaddr 1 y0 (ki 0)),
 .ev (.ld false 1 y2 y12),
 .ev (.lenL y13),
 .ev (.bin .neq .int y11 y14),
 .chain true y15 (ups [.ev (.eaddr 1 y0 y6),
 .ev (.ld false 1 y2 y16),
 .call 50 y2 [y17,(ki 1),(ki 40),(ki 0),(ki 100000)] [true],
 .ev (.un .not y18)]
 (.ret y19)),
 .chain true y16 (ups [.ev (.eaddr 1 y0 y6),
 .ev (.ld false 1 y2 y17),
 .ev (.lenL y18),
 .ev (.bin .geq .int y1 y19)]
 (.ret y20))]
 (.ite y17 (.ret (.tcons (kb false) (.tcons y2 .tnil))) (.jump 2 [] []))),
 .ev (.bin .add .int y6 (ki 1))]
 (.jump 1 [y9] [])) (.jump 0 [] []))))]
 (.ret (.tcons (kb true) (.tcons y2 .tnil))))))
theorem ku32:UOk Tryz.prog 32 .plain (scf true [] [] Tryz.f32) [true,true] u32:=UOk.plain Tryz.func32 (by kernel_rfl) (by kernel_rfl)

noncomputable def u33:U:=(ups [.ev (.lenL y0),
 .ev (.rep 8 y3 (.v (.int .i64 0))),
 .join 0 1 (.loop 1 [(ki 0),y4] (ups [.ev (.lenL y0),
 .ev (.bin .lss .int y5 y7)]
 (.ite y8 (ups [.join 2 1 (ups [.ev (.eaddr 1 y0 y5),
 .ev (.ld false 1 y2 y9),
 .call 86 y2 [y10] [true],
 .join 3 6 (.loop 4 [(ki 0),y6] (ups [.ev (.lenL y11),
 .ev (.bin .sub .int y14 y1),
 .ev (.bin .lss .int y12 y15)]
 (.ite y16 (ups [.join 5 1 (ups [.ev (.idx y13 y5),
 .ev (.cell 0 (.idx y13 y5)),
 .ev (.eaddr 1 y11 y12),
 .ev (.ld false 1 y2 y19),
 .ev (.bin .add .int y18 y20),
 .ev (.idx y13 y5),
 .ev (.set y13 y5 0 y21)]
 (.jump 5 [y23] [])),
 .ev (.bin .add .int y12 (ki 1))]
 (.jump 4 [y18,y17] [])) (.jump 3 [y12,y12,y14,y15,y16,y13] []))))]
 (.jump 2 [y17] [])),
 .ev (.bin .add .int y5 (ki 1))]
 (.jump 1 [y10,y9] [])) (.jump 0 [y6] [])))),
 .join 0 1 (.loop 1 [(.const (.lst [])),(ki 0)] (ups [.ev (.lenL y0),
 .ev (.bin .lss .int y7 y8)]
 (.ite y9 (ups [.join 2 1 (ups [.join 3 6 (.loop 4 [(ki 0)] (ups [.ev (.lenL y6),
 .ev (.bin .lss .int y10 y11),
 .chain false y12 (ups [.ev (.eaddr 1 y6 y10),
 .ev (.ld false 1 y2 y13),
 .call 87 y2 [y0,y5,y7,y14] [true],
 .ev (.un .not y15)]
 (.ret y16))]
 (.ite y13 (ups [.join 5 1 (ups [.ev (.bin .add .int y10 (ki 1))]
 (.jump 5 [y14] []))]
 (.jump 4 [y14] [])) (.jump 3 [y10,y10,y11,y12,y12,y13] [])))),
 .ev (.sub 1 y6 (ki 0) y10),
 .ev (.app 1 8 (.const (.lst [])) y16),
 .ev (.lcons (.scal y7) (.const (.lst []))),
 .ev (.app 1 8 y17 y18),
 .ev (.sub 1 y6 y10 (.lenL y6)),
 .ev (.app 1 8 y19 y20)]
 (.jump 2 [y21] [])),
 .ev (.bin .add .int y7 (ki 1))]
 (.jump 1 [y10,y11] [])) (.jump 0 [y6] [])))),
 .join 0 1 (.loop 1 [(.const (.lst [])),(ki 0)] (ups [.ev (.lenL y6),
 .ev (.bin .lss .int y8 y9)]
 (.ite y10 (ups [.join 2 1 (ups [.ev (.eaddr 1 y6 y8),
 .ev (.ld false 1 y2 y11),
 .ev (.eaddr 1 y5 y12),
 .ev (.ld false 1 y2 y13),
 .ev (.lcons (.scal y14) (.const (.lst []))),
 .ev (.app 1 8 y7 y15)]
 (.jump 2 [y16] [])),
 .ev (.bin .add .int y8 (ki 1))]
 (.jump 1 [y11,y12] [])) (.jump 0 [y7] []))))]
 (.ret (.tcons (.tcons y6 (.tcons y7 .tnil)) (.tcons y2 .tnil))))
theorem ku33:UOk Tryz.prog 33 .plain (autoCfg true WRS [] [] [(11,17)] Tryz.f33) [true,true] u33:=UOk.plain Tryz.func33 (by kernel_rfl) (by kernel_rfl)

noncomputable def u34:U:=(ups [.ev (.lenL y0),
 .ev (.lenL y1),
 .ev (.bin .neq .int y3 y4)]
 (.ite y5 (.ret (.tcons (kb false) (.tcons y2 .tnil))) (ups [.join 0 0 (.loop 1 [(ki 0)] (ups [.ev (.lenL y0),
 .ev (.bin .lss .int y6 y7)]
 (.ite y8 (ups [.join 2 0 (ups [.ev (.eaddr 1 y0 y6),
 .ev (.ld false 1 y2 y9),
 .ev (.eaddr 1 y1 y6),
 .ev (.ld false 1 y2 y11),
 .ev (.bin .neq .int y10 y12)]
 (.ite y13 (.ret (.tcons (kb false) (.tcons y2 .tnil))) (.jump 2 [] []))),
 .ev (.bin .add .int y6 (ki 1))]
 (.jump 1 [y9] [])) (.jump 0 [] []))))]
 (.ret (.tcons (kb true) (.tcons y2 .tnil))))))
theorem ku34:UOk Tryz.prog 34 .plain (scf true [] [] Tryz.f34) [true,true] u34:=UOk.plain Tryz.func34 (by kernel_rfl) (by kernel_rfl)

noncomputable def u71:U:=(ups [.call 115 y2 [y0] [true],
 .call 115 y2 [y1] [true]]
 (.ite y3 (.ite y4 (.ret (.tcons (ki 0) (.tcons y2 .tnil))) (.ret (.tcons (ki (-1)) (.tcons y2 .tnil)))) (.ite y4 (.ret (.tcons (ki 1) (.tcons y2 .tnil))) (ups [.ev (.bin .lss .int y0 y1)]
 (.ite y5 (.ret (.tcons (ki (-1)) (.tcons y2 .tnil))) (ups [.ev (.bin .gtr .int y0 y1)]
 (.ite y6 (.ret (.tcons (ki 1) (.tcons y2 .tnil))) (.ret (.tcons (ki 0) (.tcons y2 .tnil))))))))))
theorem ku71:UOk Tryz.prog 71 .plain (scf true [] [] Tryz.f71) [true,true] u71:=UOk.plain Tryz.func71 (by kernel_rfl) (by kernel_rfl)

noncomputable def u74:U:=(ups [.ev (.lenL y0),
 .join 0 0 (.loop 1 [(ki 0)] (ups [.ev (.bin .lss .int y4 y3)]
 (.ite y5 (ups [.join 2 0 (ups [.ev (.eaddr 1 y0 y4),
 .ev (.ld false 1 y2 y6),
 .ev (.lenL y1),
 .ev (.bin .geq .int y4 y8)]
 (.ite y9 (.ret (.tcons (ki 1) (.tcons y2 .tnil))) (ups [.ev (.eaddr 1 y1 y4),
 .ev (.ld false 1 y2 y10),
 .call 71 y2 [y7,y11] [true],
 .ev (.bin .neq .int y12 (ki 0))]
 (.ite y13 (.ret (.tcons y12 (.tcons y2 .tnil))) (.jump 2 [] []))))),
 .ev (.bin .add .int y4 (ki 1))]
 (.jump 1 [y6] [])) (.jump 0 [] [])))),
 .ev (.lenL y0),
 .ev (.lenL y1),
 .ev (.bin .lss .int y4 y5)]
 (.ite y6 (.ret (.tcons (ki (-1)) (.tcons y2 .tnil))) (.ret (.tcons (ki 0) (.tcons y2 .tnil)))))
theorem ku74:UOk Tryz.prog 74 .plain (scf true [] [] Tryz.f74) [true,true] u74:=UOk.plain Tryz.func74 (by kernel_rfl) (by kernel_rfl)

noncomputable def u83:U:=(ups [.ev (.bin .sub .int y1 y0)]
 (.ret (.tcons y3 (.tcons y2 .tnil))))
theorem ku83:UOk Tryz.prog 83 .plain (scf true [] [] Tryz.f83) [true,true] u83:=UOk.plain Tryz.func83 (by kernel_rfl) (by kernel_rfl)

noncomputable def u84:U:=(ups [.ev (.ld false 1 y4 y2),
 .ev (.eaddr 1 y5 y1),
 .ev (.ld false 1 y4 y6),
 .ev (.ld false 1 y4 y2),
 .ev (.eaddr 1 y8 y0),
 .ev (.ld false 1 y4 y9),
 .call 71 y4 [y7,y10] [true],
 .ev (.ld false 1 y4 y3),
 .ev (.eaddr 1 y12 y1),
 .ev (.ld false 1 y4 y13),
 .ev (.ld false 1 y4 y3),
 .ev (.eaddr 1 y15 y0),
 .ev (.ld false 1 y4 y16),
 .call 74 y4 [y14,y17] [true],
 .ev (.lcons (.scal y11) (.lcons (.scal y18) (.const (.lst [])))),
 .call 85 y4 [y19] [true]]
 (.ret (.tcons y20 (.tcons y4 .tnil))))
theorem ku84:UOk Tryz.prog 84 .plain (scf true [] [] Tryz.f84) [true,true,true,true] u84:=UOk.plain Tryz.func84 (by kernel_rfl) (by kernel_rfl)

noncomputable def u85:U:=(ups [.ev (.lenL y0),
 .join 0 0 (.loop 1 [(ki 0)] (ups [.ev (.bin .lss .int y3 y2)]
 (.ite y4 (ups [.join 2 0 (ups [.ev (.eaddr 1 y0 y3),
 .ev (.ld false 1 y1 y5),
 .ev (.bin .neq .int y6 (ki 0))]
 (.ite y7 (.ret (.tcons y6 (.tcons y1 .tnil))) (.jump 2 [] []))),
 .ev (.bin .add .int y3 (ki 1))]
 (.jump 1 [y5] [])) (.jump 0 [] []))))]
 (.ret (.tcons (ki 0) (.tcons y1 .tnil))))
theorem ku85:UOk Tryz.prog 85 .plain (scf true [] [] Tryz.f85) [true] u85:=UOk.plain Tryz.func85 (by kernel_rfl) (by kernel_rfl)

noncomputable def u86:U:=(ups [.join 0 1 (.loop 1 [(.const (.lst [])),(ki 0)] (ups [.ev (.lenL y0),
 .ev (.bin .lss .int y3 y4)]
 (.ite y5 (ups [.join 2 1 (ups [.join 3 6 (.loop 4 [(ki 0)] (ups [.ev (.lenL y2),
 .ev (.bin .lss .int y6 y7),
 .chain false y8 (ups [.ev (.eaddr 1 y2 y6),
 .ev (.ld false 1 y1 y9),
 .ev (.eaddr 1 y0 y3),
 .ev (.ld false 1 y1 y11),
 .ev (.bin .geq .int y10 y12)]
 (.ret y13))]
 (.ite y9 (ups [.join 5 1 (ups [.ev (.bin .add .int y6 (ki 1))]
 (.jump 5 [y10] []))]
 (.jump 4 [y10] [])) (.jump 3 [y6,y6,y7,y8,y8,y9] [])))),
 .ev (.sub 1 y2 (ki 0) y6),
 .ev (.app 1 8 (.const (.lst [])) y12),
 .ev (.eaddr 1 y0 y3),
 .ev (.ld false 1 y1 y14),
 .ev (.lcons (.scal y15) (.const (.lst []))),
 .ev (.app 1 8 y13 y16),
 .ev (.sub 1 y2 y6 (.lenL y2)),
 .ev (.app 1 8 y17 y18)]
 (.jump 2 [y19] [])),
 .ev (.bin .add .int y3 (ki 1))]
 (.jump 1 [y6,y7] [])) (.jump 0 [y2] []))))]
 (.ret (.tcons y2 (.tcons y1 .tnil))))
theorem ku86:UOk Tryz.prog 86 .plain (scf true [] [] Tryz.f86) [true] u86:=UOk.plain Tryz.func86 (by kernel_rfl) (by kernel_rfl)

noncomputable def u87:U:=(ups [.ev (.eaddr 1 y1 y2),
 .ev (.ld false 1 y4 y5),
 .ev (.eaddr 1 y1 y3),
 .ev (.ld false 1 y4 y7),
 .ev (.bin .neq .int y6 y8)]
 (.ite y9 (ups [.ev (.eaddr 1 y1 y2),
 .ev (.ld false 1 y4 y10),
 .ev (.eaddr 1 y1 y3),
 .ev (.ld false 1 y4 y12),
 .ev (.bin .gtr .int y11 y13)]
 (.ret (.tcons y14 (.tcons y4 .tnil)))) (ups [.ev (.eaddr 1 y0 y2),
 .ev (.ld false 1 y4 y10),
 .call 86 y4 [y11] [true],
 .ev (.eaddr 1 y0 y3),
 .ev (.ld false 1 y4 y13),
 .call 86 y4 [y14] [true],
 .join 0 0 (.loop 1 [(ki 0)] (ups [.ev (.lenL y12),
 .ev (.bin .lss .int y16 y17)]
 (.ite y18 (ups [.join 2 0 (ups [.ev (.eaddr 1 y12 y16),
 .ev (.ld false 1 y4 y19),
 .ev (.eaddr 1 y15 y16),
 .ev (.ld false 1 y4 y21),
 .ev (.bin .neq .int y20 y22)]
 (.ite y23 (ups [.ev (.eaddr 1 y12 y16),
 .ev (.ld false 1 y4 y24),
 .ev (.eaddr 1 y15 y16),
 .ev (.ld false 1 y4 y26),
 .ev (.bin .gtr .int y25 y27)]
 (.ret (.tcons y28 (.tcons y4 .tnil)))) (.jump 2 [] []))),
 .ev (.bin .add .int y16 (ki 1))]
 (.jump 1 [y19] [])) (.jump 0 [] [])))),
 .ev (.bin .lss .int y2 y3)]
 (.ret (.tcons y16 (.tcons y4 .tnil))))))
theorem ku87:UOk Tryz.prog 87 .plain (scf true [] [] Tryz.f87) [true,true,true,true] u87:=UOk.plain Tryz.func87 (by kernel_rfl) (by kernel_rfl)

noncomputable def u115:U:=(ups [.ev (.bin .neq .int y0 y0)]
 (.ret (.tcons y2 (.tcons y1 .tnil))))
theorem ku115:UOk Tryz.prog 115 .plain (scf true [] [] Tryz.f115) [true] u115:=UOk.plain Tryz.func115 (by kernel_rfl) (by kernel_rfl)

noncomputable def u31:U:=(ups [.ev (.lenL y0),
 .ev (.bin .gtr .int y3 (ki 500)),
 .chain true y4 (ups [.ev (.bin .lss .int y1 (ki 0))]
 (.ret y5))]
 (.ite y5 (.ret (.tcons (.tcons (.const (.lst [])) (.tcons (.const (.lst [])) (.tcons (ki 2) .tnil))) (.tcons y2 .tnil))) (ups [.ev (.lenL y0),
 .join 0 0 (.loop 1 [(ki 0)] (ups [.ev (.bin .lss .int y7 y6)]
 (.ite y8 (ups [.join 2 0 (ups [.ev (.eaddr 1 y0 y7),
 .ev (.ld false 1 y2 y9),
 .ev (.lenL y10),
 .ev (.eaddr 1 y0 (ki 0)),
 .ev (.ld false 1 y2 y12),
 .ev (.lenL y13),
 .ev (.bin .neq .int y11 y14),
 .chain true y15 (ups [.ev (.lenL y10),
 .ev (.bin .geq .int y1 y16)]
 (.ret y17)),
 .chain true y16 (ups [.call 47 y2 [y10,(ki 1),(ki 40),(ki 100000)] [true],
 .ev (.un .not y17)]
 (.ret y18))]
 (.ite y17 (.ret (.tcons (.tcons (.const (.lst [])) (.tcons (.const (.lst [])) (.tcons (ki 2) .tnil))) (.tcons y2 .tnil))) (.jump 2 [] []))),
 .ev (.bin .add .int y7 (ki 1))]
 (.jump 1 [y9] [])) (.jump 0 [] [])))),
 .ev (.lenL y0),
 .ev (.rep 8 y7 (.v (.int .i64 0))),
 .ev (.lenL y0),
 .ev (.rep 24 y9 (.lst [])),
 .ev (.lenL y0),
 .join 0 2 (.loop 1 [(.const .snil),(ki 0),(.newb 1000000000 1 (.newb 1000000000 1 (.newv 1000000000 1 (.newv 1000000000 1 y2 y8) y10) (.cons (.fstsl y2 y8) .nil)) (.cons (.fstsl (.newv 1000000000 1 y2 y8) y10) .nil))] (ups [.ev (.bin .lss .int y13 y11)]
 (.ite y15 (ups [.join 2 2 (ups [.ev (.eaddr 1 y0 y13),
 .ev (.ld false 1 y14 y16),
 .ev (.lcons (.scal y13) (.const (.lst []))),
 .ev (.apph 3 1 8 y14 y12 y18),
 .ev (.ld false 1 y19 (.fstid (.newb 1000000000 1 (.newv 1000000000 1 (.newv 1000000000 1 y2 y8) y10) (.cons (.fstsl y2 y8) .nil)))),
 .wcall 82 y19 [y17] [true],
 .ev (.eaddr 1 y20 y13),
 .ev (.sto 1 y22 y23 y21),
 .ev (.m4 .same (.ld false 1 y19 (.fstid (.newb 1000000000 1 (.newv 1000000000 1 (.newv 1000000000 1 y2 y8) y10) (.cons (.fstsl y2 y8) .nil)))) (.ld false 1 y22 (.fstid (.newb 1000000000 1 (.newv 1000000000 1 (.newv 1000000000 1 y2 y8) y10) (.cons (.fstsl y2 y8) .nil)))) .nil .nil),
 .ev (.ld false 1 y24 (.fstid (.newb 1000000000 1 (.newv 1000000000 1 (.newv 1000000000 1 y2 y8) y10) (.cons (.fstsl y2 y8) .nil)))),
 .ev (.eaddr 1 y26 y13),
 .ev (.ld false 1 y24 y27),
 .wcall 68 y24 [y28,(.const (.fn 83 [] []))] [],
 .ev (.ld false 1 y30 (.fstid (.newb 1000000000 1 (.newv 1000000000 1 (.newv 1000000000 1 y2 y8) y10) (.cons (.fstsl y2 y8) .nil)))),
 .ev (.eaddr 1 y31 y13),
 .ev (.ld false 1 y30 y32),
 .ev (.lenL y17),
 .ev (.bin .sub .int y34 y1),
 .ev (.sub 1 y33 (ki 0) y35),
 .ev (.lenL y36),
 .join 3 3 (.loop 4 [(ki 0),y30] (ups [.ev (.bin .lss .int y38 y37)]
 (.ite y40 (ups [.join 5 1 (ups [.ev (.eaddr 1 y36 y38),
 .ev (.ld false 1 y39 y41),
 .ev (.ld false 1 y39 (.fstid (.newv 1000000000 1 (.newv 1000000000 1 y2 y8) y10))),
 .ev (.eaddr 1 y43 y13),
 .ev (.ld false 1 y39 y44),
 .ev (.bin .add .int y45 y42),
 .ev (.eaddr 1 y43 y13),
 .ev (.sto 1 y39 y47 y46)]
 (.jump 5 [y48] [])),
 .ev (.bin .add .int y38 (ki 1))]
 (.jump 4 [y42,y41] [])) (.jump 3 [y38,y40,y39] []))))]
 (.jump 2 [(.apps y14 y12 y18),y40] [(.apps y14 y12 y18),y21])),
 .ev (.bin .add .int y13 (ki 1))]
 (.jump 1 [y16,y18,y17] [])) (.jump 0 [y12,y14] [])))),
 .ev (.mkfn 84 .tnil (.tcons (.fstid (.newv 1000000000 1 (.newv 1000000000 1 y2 y8) y10)) (.tcons (.fstid (.newb 1000000000 1 (.newv 1000000000 1 (.newv 1000000000 1 y2 y8) y10) (.cons (.fstsl y2 y8) .nil))) .tnil))),
 .wcall 76 y13 [y12,y14] [],
 .ev (.lenL y12),
 .join 0 1 (.loop 1 [(.const (.lst [])),(ki 0)] (ups [.ev (.bin .lss .int y19 y17)]
 (.ite y20 (ups [.join 2 1 (ups [.ev (.eaddr 1 y12 y19),
 .ev (.ld false 1 y16 y21),
 .ev (.ld false 1 y16 (.fstid (.newv 1000000000 1 (.newv 1000000000 1 y2 y8) y10))),
 .ev (.eaddr 1 y23 y22),
 .ev (.ld false 1 y16 y24),
 .ev (.lcons (.scal y25) (.const (.lst []))),
 .ev (.app 1 8 y18 y26)]
 (.jump 2 [y27] [])),
 .ev (.bin .add .int y19 (ki 1))]
 (.jump 1 [y21,y22] [])) (.jump 0 [y18] []))))]
 (.ret (.tcons (.tcons y12 (.tcons y18 (.tcons (ki 0) .tnil))) (.tcons y16 .tnil))))))
theorem ku31:UOk Tryz.prog 31 .plain (scg [] [11] false [(10,1000053),(10,1000056),(10,1000009),(10,1000010)] Tryz.f31) [true,true] u31:=UOk.plain Tryz.func31 (by kernel_rfl) (by kernel_rfl)

end Go.Am.Sc

/-
 Championships: falling points,totals,the order.
-/
namespace Go.Am.Sc

def fall (l:List Int):List Int:=(srt (l.map fun x=>-x)).map fun x=>-x

theorem fall_perm (l:List Int):(fall l).Perm l:=by
 have:=(srt_perm (l.map fun x=>-x)).map fun x:Int=>-x
 simpa[fall,List.map_map,Function.comp_def] using this
theorem fall_len (l:List Int):(fall l).length=l.length:=(fall_perm l).length_eq
theorem fall_sorted (l:List Int):(fall l).Pairwise (·≥·):=by
 rw[fall,List.pairwise_map]
 exact(srt_sorted _).imp fun h=>by omega
theorem fall_mem {l:List Int}{x:Int}:x∈fall l↔x∈l:=(fall_perm l).mem_iff

theorem fall_unique {a b:List Int}(ha:a.Pairwise (·≥·))(hb:b.Pairwise (·≥·))(h:a.Perm b):a=b:=h.eq_of_pairwise (fun x y _ _ h1 h2=>by omega) ha hb

def insD (t:Int):List Int→List Int
 | []=>[t]
 | x :: r=>if x≥t then x :: insD t r else t :: x :: r

theorem insD_perm (t:Int):∀l:List Int,(insD t l).Perm (t :: l)
 | []=>.refl _
 | x :: r=>by
  rw[insD]
  split
  ·exact((insD_perm t r).cons x).trans (.swap t x r)
  ·exact .refl _

theorem insD_sorted (t:Int):∀{l:List Int},l.Pairwise (·≥·)→(insD t l).Pairwise (·≥·)
 | [],_=>by simp[insD]
 | x :: r,h=>by
  rw[insD]
  have h1:=List.pairwise_cons.1 h
  split
  ·rename_i hx
   refine List.pairwise_cons.2 ⟨fun y hy=>?_,insD_sorted t h1.2⟩
   rcases List.mem_cons.1 ((insD_perm t r).mem_iff.1 hy) with h2 | h2
   ·omega
   ·exact h1.1 y h2
  ·rename_i hx
   refine List.pairwise_cons.2 ⟨fun y hy=>?_,h⟩
   rcases List.mem_cons.1 hy with h2 | h2
   ·omega
   ·have:=h1.1 y h2
    omega

theorem insD_at (t:Int):∀{l:List Int} {k:Nat},k≤l.length→(∀j (h:j<k) (h2:j<l.length),l[j]≥t)→(∀h:k<l.length,¬l[k]≥t)→insD t l=l.take k++[t]++l.drop k
 | [],k,hk,_,_=>by simp[insD]
 | x :: r,0,_,_,h3=>by
  have:¬x≥t:=h3 (by simp)
  rw[insD,if_neg this]
  simp
 | x :: r,k+1,hk,h2,h3=>by
  have h0:x≥t:=h2 0 (by omega) (by simp)
  have:=insD_at t (l:=r) (k:=k) (by simpa using hk) (fun j h h'=>by have:=h2 (j+1) (by omega) (by simpa using h');rwa [List.getElem_cons_succ] at this) (fun h=>by have:=h3 (by simpa using h);rwa [List.getElem_cons_succ] at this)
  simp[insD,h0,this]

def insDL:List Int→List Int→List Int
 | o,[]=>o
 | o,t :: r=>insDL (insD t o) r

theorem insDL_perm:∀(o l:List Int),(insDL o l).Perm (o++l)
 | o,[]=>by simp[insDL]
 | o,t :: r=>by
  rw[insDL]
  refine(insDL_perm (insD t o) r).trans (((insD_perm t o).append_right r).trans ?_)
  exact List.perm_middle.symm

theorem insDL_sorted:∀{o:List Int} (l:List Int),o.Pairwise (·≥·)→(insDL o l).Pairwise (·≥·)
 | o,[],h=>h
 | o,t :: r,h=>insDL_sorted r (insD_sorted t h)

theorem insDL_fall (l:List Int):insDL [] l=fall l:=fall_unique (insDL_sorted l .nil) (fall_sorted l) ((insDL_perm [] l).trans (fall_perm l).symm)

theorem insDL_snoc:∀(o l:List Int) (t:Int),insDL o (l++[t])=insD t (insDL o l)
 | o,[],t=>rfl
 | o,x :: r,t=>by
  rw[List.cons_append,insDL,insDL_snoc,insDL]

theorem insDL_length (l:List Int):(insDL [] l).length=l.length:=by simpa using(insDL_perm [] l).length_eq

def seasonOk (pts:List (List Int))(drop:Int):Bool:=
 (decide ((pts.length:Int)≤500)&&decide (0≤drop))&&pts.all fun l=>decide ((l.length:Int)=(pts.getD 0 []).length)&&(allR l 1 40 0 100000&&decide (drop<l.length))

def cmpL:List Int→List Int→Int
 | [],[]=>0
 | [],_ :: _=>-1
 | _ :: _,[]=>1
 | x :: xs,y :: ys=>if x<y then -1 else if y<x then 1 else cmpL xs ys

def cmp1 (x y:Int):Int:=if x<y then -1 else if y<x then 1 else 0

variable (pts:List (List Int)) (drop:Int)

def pt (i:Nat):List Int:=pts.getD i []
def totC (i:Nat):Int:=((fall (pt pts i)).take (((pt pts i).length:Int)-drop).toNat).foldl (·+·) 0

def aheadB (a b:Nat):Bool:=
 if totC pts drop a≠totC pts drop b then decide (totC pts drop a > totC pts drop b)
 else if cmpL (fall (pt pts a)) (fall (pt pts b))≠0 then decide (cmpL (fall (pt pts a)) (fall (pt pts b)) > 0)
 else decide (a<b)

def cmpC (a b:Nat):Int:=
 if cmp1 (totC pts drop b) (totC pts drop a)≠0 then cmp1 (totC pts drop b) (totC pts drop a) else cmpL (fall (pt pts b)) (fall (pt pts a))

end Go.Am.Sc

/-
 Championships: the small functions,and falling points.
-/
namespace Go.Am.Sc
open Go.Proofs
set_option maxRecDepth 100000
set_option maxHeartbeats 4000000

attribute [local irreducible] inR allR

variable {bs:List D}

theorem c115 (x:Int):FSpecR Tryz.prog 115 (.st bs) [I x] (B false):=by
 refine ku115.R rfl rfl ?_
 unfold u115
 simp only[ups_cons,ups_nil,List.cons_append,List.nil_append]
 repeat' (first|(apply u_ev;rfl;simp only[sbe];rfl)|(apply u_ret;rfl;first|exact rfl|(refine retB ?_)|(refine retI ?_)|(refine retD ?_)))
 simp

theorem c71 (x y:Int):FSpecR Tryz.prog 71 (.st bs) [I x,I y] (I (cmp1 x y)):=by
 refine ku71.R rfl rfl ?_
 unfold u71
 simp only[ups_cons,ups_nil,List.cons_append,List.nil_append]
 repeat' (first|(apply u_iteF;rfl;exact rfl)|(apply u_ev;rfl;simp only[sbe];rfl)|(apply u_call;rfl;rfl;exact c115 _;rfl;simp only[sbe];rfl)|(apply u_ite;rfl;all_goals (intro hz;(try simp only[sbs] at hz);first|(exact absurd hz (by decide))|(exfalso;omega)|skip))|(apply u_ret;rfl;first|exact rfl|(refine retB ?_)|(refine retI ?_)|(refine retD ?_)))
 all_goals (unfold cmp1;first | (rw[if_pos (by omega)];done) | (rw[if_neg (by omega),if_pos (by omega)];done) | (rw[if_neg (by omega),if_neg (by omega)];done))

theorem c83 {x y:Int}(hx:0≤x∧x≤100000)(hy:0≤y∧y≤100000):FSpecR Tryz.prog 83 (.st bs) [I x,I y] (I (y-x)):=by
 refine ku83.R rfl rfl ?_
 unfold u83
 simp only[ups_cons,ups_nil,List.cons_append,List.nil_append]
 repeat' (first|(apply u_sub;rfl;rfl;omega;simp only[sbe];rfl)|exact u_ret rfl rfl)

theorem cmpL_drop:∀{xs ys:List Int} {i:Nat},(∀k (h:k<i) (h1:k<xs.length) (h2:k<ys.length),xs[k]=ys[k])→i≤xs.length→i≤ys.length→cmpL xs ys=cmpL (xs.drop i) (ys.drop i)
 | xs,ys,0,_,_,_=>rfl
 | [],_,i+1,_,h1,_=>absurd h1 (by simp)
 | _ :: _,[],i+1,_,_,h2=>absurd h2 (by simp)
 | x :: xs,y :: ys,i+1,h,h1,h2=>by
  have h0:=h 0 (by omega) (by simp) (by simp)
  simp only[List.getElem_cons_zero] at h0
  rw[cmpL,if_neg (by omega),if_neg (by omega),List.drop_succ_cons,List.drop_succ_cons]
  exact cmpL_drop (fun k hk a b=>by have:=h (k+1) (by omega) (by simpa using a) (by simpa using b);simpa using this) (by simpa using h1) (by simpa using h2)

theorem c74 {xs ys:List Int}(hL:xs.length≤1000):FSpecR Tryz.prog 74 (.st bs) [Is xs,Is ys] (I (cmpL xs ys)):=by
 refine ku74.R rfl rfl ?_
 unfold u74
 simp only[ups_cons,ups_nil,List.cons_append,List.nil_append]
 repeat' (first|(apply u_lenL;rfl;exact lenL_map;simp only[sbe];rfl)|refine u_join ?_)
 refine u_range (fun i=>[In i]) (fun i=>i≤ys.length∧∀k (h:k<i) (h1:k<xs.length) (h2:k<ys.length),xs[k]=ys[k]) xs.length rfl (fun _=>rfl) ⟨Nat.zero_le _,fun k h=>absurd h (Nat.not_lt_zero _)⟩ (fun i hi hJ R hR=>?_) (fun hJ R=>?_)
 ·have hli:decide ((i:Int)<(xs.length:Int))=true:=by simp;omega
  have hx:xs.drop i=xs[i] :: xs.drop (i+1):=List.drop_eq_getElem_cons hi
  rcases Nat.lt_or_ge i ys.length with h2 | h2
  ·have hy:ys.drop i=ys[i] :: ys.drop (i+1):=List.drop_eq_getElem_cons h2
   have hf:decide ((i:Int)≥(ys.length:Int))=false:=by simp;omega
   have h71:=c71 (bs:=bs) xs[i] ys[i]
   by_cases he:xs[i]=ys[i]
   ·have h0:cmp1 xs[i] ys[i]=0:=by rw[cmp1,if_neg (by omega),if_neg (by omega)]
    rw[h0] at h71
    repeat' (first|(apply nrm;simp only[sbe];rfl)|(apply u_iteT;rfl;exact hli)|(apply u_iteF;rfl;(·first|exact hf|exact rfl))|(apply u_eaddr;rfl;rfl;(·first|exact eaddr_get hi rfl|exact eaddr_get h2 rfl);simp only[sbe];rfl)|(apply u_lenL;rfl;exact lenL_map;simp only[sbe];rfl)|(apply u_inc;rfl;omega;simp only[sbe];rfl)|(apply u_ev;rfl;simp only[sbe];rfl)|(apply u_call;rfl;rfl;exact h71;rfl;simp only[sbe];rfl)|refine u_join ?_|(apply u_jump;rfl;rfl)|refine at_jump ?_|refine kj rfl ?_)
    refine hR ⟨h2,fun k hk a b=>?_⟩
    rcases Nat.lt_or_ge k i with h3 | h3
    ·exact hJ.2 k h3 a b
    ·have e:k=i:=by omega
     subst e
     exact he
   ·have h0:cmpL xs ys=cmp1 xs[i] ys[i]:=by
     rw[cmpL_drop hJ.2 (by omega) (by omega),hx,hy,cmpL,cmp1]
     split
     ·rfl
     ·split
      ·rfl
      ·omega
    have hne:cmp1 xs[i] ys[i]≠0:=by
     unfold cmp1
     split
     ·omega
     ·split <;> omega
    have ht:(cmp1 xs[i] ys[i] != 0)=true:=by simpa using hne
    rw[h0]
    repeat' (first|(apply nrm;simp only[sbe];rfl)|(apply u_iteT;rfl;(·first|exact hli|exact ht))|(apply u_iteF;rfl;exact hf)|(apply u_eaddr;rfl;rfl;(·first|exact eaddr_get hi rfl|exact eaddr_get h2 rfl);simp only[sbe];rfl)|(apply u_lenL;rfl;exact lenL_map;simp only[sbe];rfl)|(apply u_ev;rfl;simp only[sbe];rfl)|(apply u_call;rfl;rfl;exact h71;rfl;simp only[sbe];rfl)|refine u_join ?_|(apply u_ret;rfl;first|exact rfl|(refine retB ?_)|(refine retI ?_)|(refine retD ?_)))
  ·have ht:decide ((i:Int)≥(ys.length:Int))=true:=by simp;omega
   have hy:ys.drop i=[]:=List.drop_eq_nil_of_le h2
   rw[cmpL_drop hJ.2 (by omega) hJ.1,hx,hy,cmpL]
   repeat' (first|(apply nrm;simp only[sbe];rfl)|(apply u_iteT;rfl;(·first|exact hli|exact ht))|(apply u_eaddr;rfl;rfl;exact eaddr_get hi rfl;simp only[sbe];rfl)|(apply u_lenL;rfl;exact lenL_map;simp only[sbe];rfl)|(apply u_ev;rfl;simp only[sbe];rfl)|refine u_join ?_|(apply u_ret;rfl;first|exact rfl|(refine retB ?_)|(refine retI ?_)|(refine retD ?_)))
 ·have hlf:decide ((xs.length:Int)<(xs.length:Int))=false:=by simp
  have hx:xs.drop xs.length=[]:=List.drop_eq_nil_of_le (Nat.le_refl _)
  rw[cmpL_drop hJ.2 (Nat.le_refl _) hJ.1,hx]
  rcases Nat.lt_or_ge xs.length ys.length with h2 | h2
  ·rw[List.drop_eq_getElem_cons h2,cmpL]
   repeat' (first|(apply nrm;simp only[sbe];rfl)|(apply u_iteF;rfl;exact hlf)|(apply u_lenL;rfl;exact lenL_map;simp only[sbe];rfl)|(apply u_ev;rfl;simp only[sbe];rfl)|(apply u_jump;rfl;rfl)|refine at_jump ?_|(refine over_jump (by decide) ?_)|refine kj rfl ?_|(apply u_ite;rfl;all_goals (intro hz;(try simp only[sbs] at hz);first|(exact absurd hz (by decide))|(exfalso;omega)|skip))|exact u_ret rfl rfl)
   all_goals (try omega)
  ·rw[List.drop_eq_nil_of_le h2,cmpL]
   repeat' (first|(apply nrm;simp only[sbe];rfl)|(apply u_iteF;rfl;exact hlf)|(apply u_lenL;rfl;exact lenL_map;simp only[sbe];rfl)|(apply u_ev;rfl;simp only[sbe];rfl)|(apply u_jump;rfl;rfl)|refine at_jump ?_|(refine over_jump (by decide) ?_)|refine kj rfl ?_|(apply u_ite;rfl;all_goals (intro hz;(try simp only[sbs] at hz);first|(exact absurd hz (by decide))|(exfalso;omega)|skip))|exact u_ret rfl rfl)
   all_goals (try omega)

theorem c85 (x y:Int):FSpecR Tryz.prog 85 (.st bs) [Is [x,y]] (I (if x≠0 then x else y)):=by
 have hl:D.lenL (Is [x,y])=some (I 2):=rfl
 refine ku85.R rfl rfl ?_
 unfold u85
 simp only[ups_cons,ups_nil,List.cons_append,List.nil_append]
 repeat' (first|(apply u_lenL;rfl;exact hl;simp only[sbe];rfl)|refine u_join ?_)
 refine u_range (fun i=>[In i]) (fun i=>0<i→x=0∧(1<i→y=0)) 2 rfl (fun _=>rfl) (fun h=>absurd h (by omega)) (fun i hi hJ R hR=>?_) (fun hJ R=>?_)
 ·have hli:decide ((i:Int)<2)=true:=by simp;omega
  obtain rfl | rfl:i=0∨i=1:=by omega
  ·have he:D.eaddr 1 (Is [x,y]) (In 0)=some (.ptr [I x]):=eaddr_get (enc:=I) (xs:=[x,y]) (i:=0) (by simp) rfl
   by_cases hx:x=0
   ·have hf:(x != 0)=false:=by simp[hx]
    repeat' (first|(apply nrm;simp only[sbe];rfl)|(apply u_iteT;rfl;exact hli)|(apply u_iteF;rfl;exact hf)|(apply u_eaddr;rfl;rfl;exact he;simp only[sbe];rfl)|(apply u_inc;rfl;omega;simp only[sbe];rfl)|(apply u_ev;rfl;simp only[sbe];rfl)|refine u_join ?_|(apply u_jump;rfl;rfl)|refine at_jump ?_|refine kj rfl ?_)
    exact hR fun _=>⟨hx,fun h=>absurd h (by omega)⟩
   ·have ht:(x != 0)=true:=by simp[hx]
    rw[if_pos hx]
    repeat' (first|(apply nrm;simp only[sbe];rfl)|(apply u_iteT;rfl;(·first|exact hli|exact ht))|(apply u_eaddr;rfl;rfl;exact he;simp only[sbe];rfl)|(apply u_ev;rfl;simp only[sbe];rfl)|refine u_join ?_|(apply u_ret;rfl;first|exact rfl|(refine retB ?_)|(refine retI ?_)|(refine retD ?_)))
  ·have hx:=(hJ (by omega)).1
   have he:D.eaddr 1 (Is [x,y]) (In 1)=some (.ptr [I y]):=eaddr_get (enc:=I) (xs:=[x,y]) (i:=1) (by simp) rfl
   rw[if_neg (by omega)]
   by_cases hy:y=0
   ·have hf:(y != 0)=false:=by simp[hy]
    repeat' (first|(apply nrm;simp only[sbe];rfl)|(apply u_iteT;rfl;exact hli)|(apply u_iteF;rfl;exact hf)|(apply u_eaddr;rfl;rfl;exact he;simp only[sbe];rfl)|(apply u_inc;rfl;omega;simp only[sbe];rfl)|(apply u_ev;rfl;simp only[sbe];rfl)|refine u_join ?_|(apply u_jump;rfl;rfl)|refine at_jump ?_|refine kj rfl ?_)
    exact hR fun _=>⟨hx,fun _=>hy⟩
   ·have ht:(y != 0)=true:=by simp[hy]
    repeat' (first|(apply nrm;simp only[sbe];rfl)|(apply u_iteT;rfl;(·first|exact hli|exact ht))|(apply u_eaddr;rfl;rfl;exact he;simp only[sbe];rfl)|(apply u_ev;rfl;simp only[sbe];rfl)|refine u_join ?_|(apply u_ret;rfl;first|exact rfl|(refine retB ?_)|(refine retI ?_)|(refine retD ?_)))
 ·have hlf:decide (((2:Nat):Int)<2)=false:=rfl
  have hx:=hJ (by omega)
  rw[if_neg (by omega)]
  repeat' (first|(apply nrm;simp only[sbe];rfl)|(apply u_iteF;rfl;exact hlf)|(apply u_ev;rfl;simp only[sbe];rfl)|(apply u_jump;rfl;rfl)|refine at_jump ?_|(refine over_jump (by decide) ?_)|refine kj rfl ?_|(apply u_ret;rfl;first|exact rfl|(refine retB ?_)|(refine retI ?_)|(refine retD ?_)))
  have:=hx.2 (by omega)
  omega

theorem c34 {xs ys:List Int}(hL:xs.length≤maxLen):FSpecR Tryz.prog 34 (.st bs) [Is xs,Is ys] (B (decide (xs=ys))):=by
 have hL':xs.length≤9223372036854775807:=hL
 refine ku34.R rfl rfl ?_
 unfold u34
 simp only[ups_cons,ups_nil,List.cons_append,List.nil_append]
 by_cases hl:xs.length=ys.length
 ·have hf:((xs.length:Int) != (ys.length:Int))=false:=by simp[hl]
  repeat' (first|(apply u_iteF;rfl;exact hf)|(apply u_lenL;rfl;exact lenL_map;simp only[sbe];rfl)|(apply u_ev;rfl;simp only[sbe];rfl)|refine u_join ?_)
  refine u_range (fun i=>[In i]) (fun i=>∀k (h:k<i) (h1:k<xs.length) (h2:k<ys.length),xs[k]=ys[k]) xs.length rfl (fun _=>rfl) (fun k h=>absurd h (Nat.not_lt_zero _)) (fun i hi hJ R hR=>?_) (fun hJ R=>?_)
  ·have hli:decide ((i:Int)<(xs.length:Int))=true:=by simp;omega
   have h2:i<ys.length:=by omega
   by_cases he:xs[i]=ys[i]
   ·have hf:(xs[i] != ys[i])=false:=by simp[he]
    repeat' (first|(apply nrm;simp only[sbe];rfl)|(apply u_iteT;rfl;exact hli)|(apply u_iteF;rfl;exact hf)|(apply u_eaddr;rfl;rfl;(·first|exact eaddr_get hi rfl|exact eaddr_get h2 rfl);simp only[sbe];rfl)|(apply u_lenL;rfl;exact lenL_map;simp only[sbe];rfl)|(apply u_add;rfl;rfl;omega;simp only[sbe];rfl)|(apply u_ev;rfl;simp only[sbe];rfl)|refine u_join ?_|(apply u_jump;rfl;rfl)|refine at_jump ?_|refine kj rfl ?_)
    refine hR fun k hk a b=>?_
    rcases Nat.lt_or_ge k i with h3 | h3
    ·exact hJ k h3 a b
    ·have e:k=i:=by omega
     subst e
     exact he
   ·have ht:(xs[i] != ys[i])=true:=by simp[he]
    have hne:xs≠ys:=fun e=>he (by subst e;rfl)
    repeat' (first|(apply nrm;simp only[sbe];rfl)|(apply u_iteT;rfl;(·first|exact hli|exact ht))|(apply u_eaddr;rfl;rfl;(·first|exact eaddr_get hi rfl|exact eaddr_get h2 rfl);simp only[sbe];rfl)|(apply u_lenL;rfl;exact lenL_map;simp only[sbe];rfl)|(apply u_ev;rfl;simp only[sbe];rfl)|refine u_join ?_|(apply u_ret;rfl;first|exact rfl|(refine retB ?_)|(refine retI ?_)|(refine retD ?_)))
    simp[hne]
  ·have hlf:decide ((xs.length:Int)<(xs.length:Int))=false:=by simp
   have he:xs=ys:=List.ext_getElem hl fun k h1 h2=>hJ k h1 h1 h2
   repeat' (first|(apply nrm;simp only[sbe];rfl)|(apply u_iteF;rfl;exact hlf)|(apply u_lenL;rfl;exact lenL_map;simp only[sbe];rfl)|(apply u_ev;rfl;simp only[sbe];rfl)|(apply u_jump;rfl;rfl)|refine at_jump ?_|(refine over_jump (by decide) ?_)|refine kj rfl ?_|(apply u_ret;rfl;first|exact rfl|(refine retB ?_)|(refine retI ?_)|(refine retD ?_)))
   simp[he]
 ·have ht:((xs.length:Int) != (ys.length:Int))=true:=by simp;omega
  have hne:xs≠ys:=fun e=>hl (by rw[e])
  repeat' (first|(apply u_iteT;rfl;exact ht)|(apply u_lenL;rfl;exact lenL_map;simp only[sbe];rfl)|(apply u_ev;rfl;simp only[sbe];rfl)|(apply u_ret;rfl;first|exact rfl|(refine retB ?_)|(refine retI ?_)|(refine retD ?_)))
  simp[hne]

end Go.Am.Sc

/-
 Championships,in the specification.
-/
namespace Go.Am.Sc
open Go.Proofs
set_option maxRecDepth 100000
set_option maxHeartbeats 4000000

attribute [local irreducible] inR allR

variable {bs:List D} {pts:List (List Int)} {drop:Int}

abbrev Pts (l:List (List Int)):D:=.lst (l.map Is)

theorem pt_get {i:Nat}(h:i<pts.length):D.eaddr 1 (Pts pts) (In i)=some (.ptr [Is (pt pts i)]):=by
 have e:pt pts i=pts[i]:=by simp[pt,List.getD,h]
 rw[e]
 exact eaddr_get (enc:=Is) h rfl



theorem c86 {l:List Int}(hL:l.length≤1000):FSpecR Tryz.prog 86 (.st bs) [Is l] (Is (fall l)):=by
 refine ku86.R rfl rfl ?_
 unfold u86
 simp only[ups_cons,ups_nil,List.cons_append,List.nil_append]
 repeat' ((with_reducible refine u_join ?_))
 refine u_range (fun k=>[Is (insDL [] (l.take k)),In k]) (fun _=>True) l.length rfl (fun _=>rfl) trivial (fun k hk _ R hR=>?_) (fun _ R=>?_)
 ·have hlk:decide ((k:Int)<(l.length:Int))=true:=by simp;omega
  have hR:=hR trivial
  have e:l.take (k+1)=l.take k++[l[k]]:=by rw[List.take_add_one,List.getElem?_eq_getElem hk];rfl
  rw[e,insDL_snoc] at hR
  have hlen:(insDL [] (l.take k)).length=k:=by rw[insDL_length,List.length_take];omega
  generalize insDL [] (l.take k)=o at hR hlen ⊢
  repeat' (first|(apply nrm;simp only[sbe];rfl)|(apply u_iteT;rfl;exact hlk)|(apply u_lenL;rfl;exact lenL_map;simp only[sbe];rfl)|(apply u_ev;rfl;simp only[sbe];rfl)|refine u_join ?_)
  refine u_range (fun j=>[In j]) (fun j=>∀m (h:m<j) (h2:m<o.length),o[m]≥l[k]) o.length rfl (fun _=>rfl) (fun m h=>absurd h (Nat.not_lt_zero _)) (fun j hj hJ R2 hR2=>?_) (fun hJ R2=>?_)
  ·have hlj:decide ((j:Int)<(o.length:Int))=true:=by simp;omega
   have hoj:o.getD j 0=o[j]:=by simp[List.getD,hj]
   by_cases hle:o[j]≥l[k]
   ·have ht:(decide ((j:Int)<(o.length:Int))&&decide (o.getD j 0≥l[k]))=true:=by
     rw[hlj,Bool.true_and,hoj]
     simpa using hle
    repeat' (first|(apply nrm;simp only[sbe];rfl)|(apply u_iteT;rfl;exact ht)|(apply u_eaddr;rfl;rfl;(·first|exact is_get hj|exact eaddr_get hk rfl);simp only[sbe];rfl)|(apply u_lenL;rfl;exact lenL_map;simp only[sbe];rfl)|(apply u_inc;rfl;omega;simp only[sbe];rfl)|(apply u_ev;rfl;simp only[sbe];rfl)|(apply u_and;rfl)|refine u_join ?_|(apply u_jump;rfl;rfl)|refine at_jump ?_|refine kj rfl ?_|exact u_ret rfl rfl|(intro hz;(try simp only[sbs] at hz)))
    refine hR2 fun m hm h2=>?_
    rcases Nat.lt_or_ge m j with h3 | h3
    ·exact hJ m h3 h2
    ·have e:m=j:=by omega
     subst e
     exact hle
   ·have hf:(decide ((j:Int)<(o.length:Int))&&decide (o.getD j 0≥l[k]))=false:=by
     rw[hlj,Bool.true_and,hoj]
     simpa using hle
    rw[insD_at _ (by omega) hJ (fun _=>hle)] at hR
    have hs1:D.sub 1 (Is o) (I 0) (In j)=some (Is (o.take j)):=by
     have:=sub_is (o:=o) (a:=0) (b:=j) (by omega) (by omega)
     rw[List.drop_zero,Nat.sub_zero] at this
     exact this
    have hs2:D.sub 1 (Is o) (In j) (I o.length)=some (Is (o.drop j)):=by
     have:=sub_is (o:=o) (a:=j) (b:=o.length) (by omega) (by omega)
     rwa [List.take_of_length_le (by simp)] at this
    have ha1:D.app 1 8 (.lst []) (Is (o.take j))=some (Is (o.take j)):=app_iss (xs:=[]) (by simp;omega)
    have ha2:=app_is (xs:=o.take j) (x:=l[k]) (by simp;omega)
    have ha3:=app_iss (xs:=o.take j++[l[k]]) (ys:=o.drop j) (by simp;omega)
    repeat' (first|(apply nrm;simp only[sbe];rfl)|(apply u_iteF;rfl;exact hf)|(apply u_eaddr;rfl;rfl;(·first|exact is_get hj|exact eaddr_get hk rfl);simp only[sbe];rfl)|(apply u_app;rfl;rfl;(·first|exact ha1|exact ha2|exact ha3);simp only[sbe];rfl)|(apply u_subl;rfl;rfl;rfl;exact hs1;simp only[sbe];rfl)|(apply u_lenL;rfl;exact lenL_map;simp only[sbe];rfl)|(apply u_inc;rfl;omega;simp only[sbe];rfl)|(apply u_ev;(·exact e_sub rfl rfl (e_lenL rfl lenL_map) hs2);simp only[sbe];rfl)|(apply u_ev;rfl;simp only[sbe];rfl)|(apply u_and;rfl)|(apply u_jump;rfl;rfl)|refine at_jump ?_|(refine over_jump (by decide) ?_)|refine kj rfl ?_|exact u_ret rfl rfl|(intro hz;(try simp only[sbs] at hz)))
    exact hR
  ·have hf:decide ((o.length:Int)<(o.length:Int))=false:=by simp
   rw[insD_at _ (Nat.le_refl _) hJ (fun h=>absurd h (by omega))] at hR
   have hs1:D.sub 1 (Is o) (I 0) (In o.length)=some (Is (o.take o.length)):=by
    have:=sub_is (o:=o) (a:=0) (b:=o.length) (by omega) (by omega)
    rw[List.drop_zero,Nat.sub_zero] at this
    exact this
   have hs2:D.sub 1 (Is o) (In o.length) (I o.length)=some (Is (o.drop o.length)):=by
    have:=sub_is (o:=o) (a:=o.length) (b:=o.length) (by omega) (by omega)
    rwa [List.take_of_length_le (by simp)] at this
   have ha1:D.app 1 8 (.lst []) (Is (o.take o.length))=some (Is (o.take o.length)):=app_iss (xs:=[]) (by simp;omega)
   have ha2:=app_is (xs:=o.take o.length) (x:=l[k]) (by simp;omega)
   have ha3:=app_iss (xs:=o.take o.length++[l[k]]) (ys:=o.drop o.length) (by simp;omega)
   repeat' (first|(apply nrm;simp only[sbe];rfl)|(apply u_andF;rfl;exact hf)|(apply u_iteF;rfl;exact rfl)|(apply u_eaddr;rfl;rfl;exact eaddr_get hk rfl;simp only[sbe];rfl)|(apply u_app;rfl;rfl;(·first|exact ha1|exact ha2|exact ha3);simp only[sbe];rfl)|(apply u_subl;rfl;rfl;rfl;exact hs1;simp only[sbe];rfl)|(apply u_lenL;rfl;exact lenL_map;simp only[sbe];rfl)|(apply u_inc;rfl;omega;simp only[sbe];rfl)|(apply u_ev;(·exact e_sub rfl rfl (e_lenL rfl lenL_map) hs2);simp only[sbe];rfl)|(apply u_ev;rfl;simp only[sbe];rfl)|(apply u_jump;rfl;rfl)|refine at_jump ?_|(refine over_jump (by decide) ?_)|refine kj rfl ?_)
   exact hR
 ·have hlf:decide ((l.length:Int)<(l.length:Int))=false:=by simp
  repeat' (first|(apply nrm;simp only[sbe];rfl)|(apply u_iteF;rfl;exact hlf)|(apply u_lenL;rfl;exact lenL_map;simp only[sbe];rfl)|(apply u_ev;rfl;simp only[sbe];rfl)|(apply u_jump;rfl;rfl)|refine at_jump ?_|(refine over_jump (by decide) ?_)|refine kj rfl ?_|(apply u_ret;rfl;first|exact rfl|(refine retB ?_)|(refine retI ?_)|(refine retD ?_)))
  rw[List.take_length,insDL_fall]

theorem pt_mem {i:Nat}(h:i<pts.length):pt pts i∈pts:=by
 have e:pt pts i=pts[i]:=by simp[pt,List.getD,h]
 rw[e]
 exact List.getElem_mem h

structure SeaOk (pts:List (List Int))(drop:Int):Prop where
 len:pts.length≤500
 dr:0≤drop
 each:∀i,i<pts.length→(pt pts i).length=(pt pts 0).length∧1≤(pt pts i).length∧(pt pts i).length≤40∧drop<(pt pts i).length∧∀x,x∈pt pts i→0≤x∧x≤100000

theorem seaOk (h:seasonOk pts drop=true):SeaOk pts drop:=by
 simp only[seasonOk,Bool.and_eq_true,decide_eq_true_eq,allR] at h
 obtain⟨⟨h1,h2⟩,h3⟩:=h
 refine⟨by omega,h2,fun i hi=>?_⟩
 have h4:=List.all_eq_true.1 h3 _ (pt_mem hi)
 simp only[Bool.and_eq_true,decide_eq_true_eq] at h4
 obtain⟨h5,⟨h6,h7⟩,h8⟩:=h4
 have h7:=inR_t h7
 exact⟨by unfold pt at h5 ⊢;omega,by omega,by omega,h8,fun x hx=>inR_t (List.all_eq_true.1 h6 x hx)⟩

def seaB (pts:List (List Int))(drop:Int)(l:List Int):Bool:=decide ((l.length:Int)=(pts.getD 0 []).length)&&(allR l 1 40 0 100000&&decide (drop<l.length))

theorem c32 (hp:TmsOk pts):FSpecR Tryz.prog 32 (.st bs) [Pts pts,I drop] (B (seasonOk pts drop)):=by
 have hL:=hp.2
 refine ku32.R rfl rfl ?_
 unfold u32
 simp only[ups_cons,ups_nil,List.cons_append,List.nil_append]
 repeat' (first|(apply nrm;simp only[sbe];rfl)|(apply u_lenL;rfl;exact lenL_map;simp only[sbe];rfl)|(apply u_ev;rfl;simp only[sbe];rfl)|(apply u_or;rfl)|refine u_join ?_|(apply u_ite;rfl;all_goals (intro hz;(try simp only[sbs] at hz);first|(exact absurd hz (by decide))|(exfalso;omega)|skip))|exact u_ret rfl rfl|(apply u_ret;rfl;first|exact rfl|(refine retB ?_)|(refine retI ?_)|(refine retD ?_))|(intro hz;(try simp only[sbs] at hz)))
 ·symm
  rw[Bool.eq_false_iff]
  intro h
  simp only[seasonOk,Bool.and_eq_true,decide_eq_true_eq] at h
  omega
 ·refine u_range (fun i=>[In i]) (fun i=>∀k,k<i→seaB pts drop (pt pts k)=true) pts.length rfl (fun _=>rfl) (fun k h=>absurd h (Nat.not_lt_zero _)) (fun i hi hJ R hR=>?_) (fun hJ R=>?_)
  ·have hli:decide ((i:Int)<(pts.length:Int))=true:=by simp;omega
   have h50:=c50 (bs:=bs) (l:=pt pts i) (least:=1) (most:=40) (lo:=0) (hi:=100000) (hp.1 _ (pt_mem hi)).2
   have h0:D.eaddr 1 (Pts pts) (I 0)=some (.ptr [Is (pt pts 0)]):=pt_get (i:=0) (by omega)
   have hz0:pt pts 0=pts.getD 0 []:=rfl
   have hv:(!(decide (((pt pts i).length:Int)=((pt pts 0).length:Int))))=(((pt pts i).length:Int) != ((pt pts 0).length:Int)):=by
    rw[Bool.eq_iff_iff];simp
   have he:((((pt pts i).length:Int) != ((pt pts 0).length:Int))||!allR (pt pts i) 1 40 0 100000||decide (drop≥((pt pts i).length:Int)))=!seaB pts drop (pt pts i):=by
    rw[←hv,seaB,←hz0,Bool.eq_iff_iff]
    simp only[Bool.or_eq_true,Bool.not_eq_true',Bool.and_eq_false_iff,decide_eq_true_eq,decide_eq_false_iff_not,Bool.or_assoc]
    constructor <;> intro h <;> rcases h with h | h | h
    ·exact .inl h
    ·exact .inr (.inl h)
    ·exact .inr (.inr (by omega))
    ·exact .inl h
    ·exact .inr (.inl h)
    ·exact .inr (.inr (by omega))
   cases hb:seaB pts drop (pt pts i)
   ·rw[hb] at he
    repeat' (first|(apply nrm;simp only[sbe];rfl)|(apply u_iteT;rfl;(·first|exact hli|exact he))|(apply u_eaddr;rfl;rfl;(·first|exact pt_get hi|exact h0);simp only[sbe];rfl)|(apply u_lenL;rfl;exact lenL_map;simp only[sbe];rfl)|(apply u_ev;rfl;simp only[sbe];rfl)|(apply u_call;rfl;rfl;exact h50;rfl;simp only[sbe];rfl)|(apply u_or;rfl)|refine u_join ?_|exact u_ret rfl rfl|(apply u_ret;rfl;first|exact rfl|(refine retB ?_)|(refine retI ?_)|(refine retD ?_))|(intro hz;(try simp only[sbs] at hz)))
    symm
    rw[seasonOk,Bool.and_eq_false_iff]
    exact .inr (List.all_eq_false.2 ⟨_,pt_mem hi,by simpa[seaB] using hb⟩)
   ·rw[hb] at he
    repeat' (first|(apply nrm;simp only[sbe];rfl)|(apply u_iteT;rfl;exact hli)|(apply u_iteF;rfl;exact he)|(apply u_eaddr;rfl;rfl;(·first|exact pt_get hi|exact h0);simp only[sbe];rfl)|(apply u_lenL;rfl;exact lenL_map;simp only[sbe];rfl)|(apply u_inc;rfl;omega;simp only[sbe];rfl)|(apply u_ev;rfl;simp only[sbe];rfl)|(apply u_call;rfl;rfl;exact h50;rfl;simp only[sbe];rfl)|(apply u_or;rfl)|refine u_join ?_|(apply u_jump;rfl;rfl)|refine at_jump ?_|refine kj rfl ?_|exact u_ret rfl rfl|(intro hz;(try simp only[sbs] at hz)))
    refine hR fun k hk=>?_
    rcases Nat.lt_or_ge k i with h3 | h3
    ·exact hJ k h3
    ·rw[show k=i by omega]
     exact hb
  ·have hlf:decide ((pts.length:Int)<(pts.length:Int))=false:=by simp
   repeat' (first|(apply nrm;simp only[sbe];rfl)|(apply u_iteF;rfl;exact hlf)|(apply u_lenL;rfl;exact lenL_map;simp only[sbe];rfl)|(apply u_ev;rfl;simp only[sbe];rfl)|(apply u_jump;rfl;rfl)|refine at_jump ?_|(refine over_jump (by decide) ?_)|refine kj rfl ?_|(apply u_ret;rfl;first|exact rfl|(refine retB ?_)|(refine retI ?_)|(refine retD ?_)))
   symm
   simp only[seasonOk,Bool.and_eq_true,decide_eq_true_eq,List.all_eq_true]
   refine⟨by omega,fun l hl=>?_⟩
   obtain⟨k,hk,rfl⟩:=List.mem_iff_getElem.1 hl
   have:=hJ k hk
   have e:pt pts k=pts[k]:=by simp[pt,List.getD,hk]
   rw[e] at this
   simpa[seaB] using this

end Go.Am.Sc
