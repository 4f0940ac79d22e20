/-
  Several texts, one behind the other.
-/
import Derived.Test.YthkepocejfghcaaSeLentoScAct
set_option linter.unusedSimpArgs false
set_option linter.unusedVariables false
/-
 Due minutes,lateness,and where a car is out.
-/
namespace Go.Am.Sc

def Card.st (c:Card)(k:Nat):Int:=c.starts.getD k 0

def dueA (p:Plan)(c:Card)(i:Nat):Int:=
 if(i != 0&&(p.it (i-1)).leg==(p.it i).leg)=true then(c.ln (i-1)).minute+(p.it i).target else c.st (p.it i).leg.toNat+(p.it i).target

def ctl (p:Plan)(c:Card)(i:Nat):Bool:=(p.it i).kind==1&&(c.ln i).mark != 2

def lateN (p:Plan)(c:Card)(i:Nat):Int:=if ctl p c i=true then max 0 ((c.ln i).minute-dueA p c i) else 0
def earlyN (p:Plan)(c:Card)(i:Nat):Int:=if(ctl p c i&&!(p.it i).free)=true then max 0 (dueA p c i-(c.ln i).minute) else 0

variable {p:Plan} {c:Card}

structure CdOk (p:Plan)(c:Card):Prop where
 cls:0≤c.cls∧c.cls<p.classes
 stl:(c.starts.length:Int)=p.legs
 st:∀k,k<c.starts.length→0≤c.st k∧c.st k≤100000
 len:c.lines.length=p.n
 ln:∀i,i<p.n→lineOk (p.it i) (c.ln i)=true

theorem CdOk.minute (h:CdOk p c){i:Nat}(hi:i<p.n):0≤(c.ln i).minute∧(c.ln i).minute≤100000:=by
 have:=h.ln i hi
 simp only[lineOk,Bool.and_eq_true] at this
 exact inR_t this.1

theorem CdOk.time (h:CdOk p c){i:Nat}(hi:i<p.n):0≤(c.ln i).time∧(c.ln i).time≤36000000:=by
 have:=h.ln i hi
 simp only[lineOk,Bool.and_eq_true] at this
 exact inR_t this.2.1

theorem CdOk.mark (h:CdOk p c){i:Nat}(hi:i<p.n):(c.ln i).mark=0∨(c.ln i).mark=1∨(c.ln i).mark=2:=by
 have:=h.ln i hi
 simp only[lineOk,Bool.and_eq_true,Bool.or_eq_true,beq_iff_eq] at this
 omega

theorem Plan.ok_kind (h:p.ok=true){i:Nat}(hi:i<p.n):((p.it i).kind=1∧0≤(p.it i).target∧(p.it i).target≤1440)∨((p.it i).kind=2∧(p.it i).target=0∧(p.it i).free=false):=by
 have:=Plan.ok_itOk (Plan.ok_parts h).2.1 hi
 simp only[Plan.itOk,Bool.and_eq_true,Bool.or_eq_true,beq_iff_eq,Bool.not_eq_true'] at this
 rcases this.2.2 with⟨h1,h2⟩ | ⟨h1,h2,h3⟩
 ·exact .inl ⟨h1,inR_t h2⟩
 ·exact .inr ⟨h1,h2,h3⟩

theorem Plan.ok_mono (h : p.ok = true) : ∀ {i k : Nat}, i ≤ k → k < p.n → (p.it i).leg ≤ (p.it k).leg
  | i, 0, h1, _ => by obtain rfl : i = 0 := by omega
                      omega
  | i, k + 1, h1, h2 => by
    rcases Nat.lt_or_ge k i with h3 | h3
    · obtain rfl : i = k + 1 := by omega
      omega
    · have ih := Plan.ok_mono h h3 (by omega)
      have := Plan.ok_itOk (Plan.ok_parts h).2.1 h2
      simp only [Plan.itOk, Bool.and_eq_true, Bool.or_eq_true, beq_iff_eq, Nat.add_sub_cancel] at this
      rcases this.1 with h4 | h4
      · omega
      · have := inR_t h4
        omega

theorem CdOk.stAt (hp:p.ok=true)(h:CdOk p c){i:Nat}(hi:i<p.n):(p.it i).leg.toNat<c.starts.length∧0≤c.st (p.it i).leg.toNat∧c.st (p.it i).leg.toNat≤100000:=by
 have h1:=Plan.ok_leg hp hi
 have h2:=Plan.ok_mono hp (i:=i) (k:=p.n-1) (by omega) (by omega)
 have h3:=h.stl
 unfold Plan.legs at h3
 have h4:(p.it i).leg.toNat<c.starts.length:=by omega
 exact⟨h4,h.st _ h4⟩

theorem CdOk.due (hp:p.ok=true)(h:CdOk p c){i:Nat}(hi:i<p.n):0≤dueA p c i∧dueA p c i≤101440:=by
 have h1:=Plan.ok_kind hp hi
 have h2:=h.stAt hp hi
 have h3:=h.minute (i:=i-1) (by omega)
 unfold dueA
 split <;> omega

theorem CdOk.late (hp:p.ok=true)(h:CdOk p c){i:Nat}(hi:i<p.n):0≤lateN p c i∧lateN p c i≤100000:=by
 have h1:=h.due hp hi
 have h2:=h.minute hi
 unfold lateN
 split <;> omega

theorem CdOk.early (hp:p.ok=true)(h:CdOk p c){i:Nat}(hi:i<p.n):0≤earlyN p c i∧earlyN p c i≤101440:=by
 have h1:=h.due hp hi
 have h2:=h.minute hi
 unfold earlyN
 split <;> omega

end Go.Am.Sc

/-
 Real times,notional times,false starts,totals.
-/
namespace Go.Am.Sc

def srt (l:List Int):List Int:=l.mergeSort fun x y=>decide (x≤y)

theorem srt_perm (l:List Int):(srt l).Perm l:=List.mergeSort_perm l _
theorem srt_len (l:List Int):(srt l).length=l.length:=List.length_mergeSort l
theorem srt_sorted (l:List Int):(srt l).Pairwise (·≤·):=by
 have:=List.pairwise_mergeSort (le:=fun x y:Int=>decide (x≤y)) (fun a b c h1 h2=>by simp at *;omega) (fun a b=>by simp;omega) l
 simpa[srt] using this
theorem srt_mem {l:List Int}{x:Int}:x∈srt l↔x∈l:=(srt_perm l).mem_iff

def ins (t:Int):List Int→List Int
 | []=>[t]
 | x :: r=>if x≤t then x :: ins t r else t :: x :: r

theorem ins_perm (t:Int):∀l:List Int,(ins t l).Perm (t :: l)
 | []=>.refl _
 | x :: r=>by
  rw[ins]
  split
  ·exact((ins_perm t r).cons x).trans (.swap t x r)
  ·exact .refl _

theorem ins_sorted (t:Int):∀{l:List Int},l.Pairwise (·≤·)→(ins t l).Pairwise (·≤·)
 | [],_=>by simp[ins]
 | x :: r,h=>by
  rw[ins]
  have h1:=List.pairwise_cons.1 h
  split
  ·rename_i hx
   refine List.pairwise_cons.2 ⟨fun y hy=>?_,ins_sorted t h1.2⟩
   rcases List.mem_cons.1 ((ins_perm t r).mem_iff.1 hy) with h2 | h2
   ·omega
   ·exact h1.1 y h2
  ·rename_i hx
   refine List.pairwise_cons.2 ⟨fun y hy=>?_,h⟩
   rcases List.mem_cons.1 hy with h2 | h2
   ·omega
   ·have:=h1.1 y h2
    omega

def cd (l:List Card)(k:Nat):Card:=l.getD k default

def tmK (l:List Card)(i k:Nat):Int:=((cd l k).ln i).time
def mnK (l:List Card)(i k:Nat):Int:=((cd l k).ln i).minute
def tms (l:List Card)(i:Nat)(b:List Nat):List Int:=b.map (tmK l i)

def least (l:List Card)(i:Nat)(b:List Nat):Int:=(srt (tms l i b)).getD 0 0

variable {p:Plan} {l:List Card}

theorem Plan.ok_more (hp:p.ok=true):(1≤p.notional∧p.notional≤4)∧(100≤p.percent∧p.percent≤1000)∧(-1≤p.power∧p.power<p.n)∧(0≤p.power→(p.it p.power.toNat).kind=2):=by
 have h:=(Plan.ok_parts hp).2.2.2.1
 simp only[Plan.moreOk,Bool.and_eq_true,Bool.or_eq_true,decide_eq_true_eq,beq_iff_eq] at h
 obtain⟨⟨h1,h2⟩,h3,h4,h5⟩:=h
 have h4:=inR_t h4
 exact⟨⟨h1,h2⟩,inR_t h3,by omega,fun h=>by omega⟩

end Go.Am.Sc

/-
 Championships: falling points,totals,the order.
-/
namespace Go.Am.Sc

def fall (l:List Int):List Int:=(srt (l.map fun x=>-x)).map fun x=>-x

theorem fall_perm (l:List Int):(fall l).Perm l:=by
 have:=(srt_perm (l.map fun x=>-x)).map fun x:Int=>-x
 simpa[fall,List.map_map,Function.comp_def] using this
theorem fall_len (l:List Int):(fall l).length=l.length:=(fall_perm l).length_eq
theorem fall_sorted (l:List Int):(fall l).Pairwise (·≥·):=by
 rw[fall,List.pairwise_map]
 exact(srt_sorted _).imp fun h=>by omega
theorem fall_mem {l:List Int}{x:Int}:x∈fall l↔x∈l:=(fall_perm l).mem_iff

theorem fall_unique {a b:List Int}(ha:a.Pairwise (·≥·))(hb:b.Pairwise (·≥·))(h:a.Perm b):a=b:=h.eq_of_pairwise (fun x y _ _ h1 h2=>by omega) ha hb

def seasonOk (pts:List (List Int))(drop:Int):Bool:=
 (decide ((pts.length:Int)≤500)&&decide (0≤drop))&&pts.all fun l=>decide ((l.length:Int)=(pts.getD 0 []).length)&&(allR l 1 40 0 100000&&decide (drop<l.length))

def cmpL:List Int→List Int→Int
 | [],[]=>0
 | [],_ :: _=>-1
 | _ :: _,[]=>1
 | x :: xs,y :: ys=>if x<y then -1 else if y<x then 1 else cmpL xs ys

def cmp1 (x y:Int):Int:=if x<y then -1 else if y<x then 1 else 0

variable (pts:List (List Int)) (drop:Int)

def pt (i:Nat):List Int:=pts.getD i []
def totC (i:Nat):Int:=((fall (pt pts i)).take (((pt pts i).length:Int)-drop).toNat).foldl (·+·) 0

def aheadB (a b:Nat):Bool:=
 if totC pts drop a≠totC pts drop b then decide (totC pts drop a > totC pts drop b)
 else if cmpL (fall (pt pts a)) (fall (pt pts b))≠0 then decide (cmpL (fall (pt pts a)) (fall (pt pts b)) > 0)
 else decide (a<b)

def cmpC (a b:Nat):Int:=
 if cmp1 (totC pts drop b) (totC pts drop a)≠0 then cmp1 (totC pts drop b) (totC pts drop a) else cmpL (fall (pt pts b)) (fall (pt pts a))

end Go.Am.Sc
