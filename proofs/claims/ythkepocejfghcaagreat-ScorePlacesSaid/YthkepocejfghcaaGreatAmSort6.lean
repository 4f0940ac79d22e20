/-
 Stable sorting of at most twenty numbers that grow: one insertion.
-/
import Derived.Test.YthkepocejfghcaaGreatAmSort2toAmSort5
set_option linter.unusedSimpArgs false
set_option linter.unusedVariables false
namespace Go.Am.jy
set_option maxRecDepth 100000
set_option maxHeartbeats 4000000

variable {P:Program} {bs:List D} {b:Nat} {e:TypeId} {f108 f122 f128 f129:FuncId} {Hh E5 BV:cz} {g:FuncId} {us cs:List D} {c:Int→Int→Int} {dom:Int→Prop}

theorem aol (LA:cm P f108 .plain Hh [true,true] (MR f122)) (VL:cm P f122 .plain E5 [true,true,true] (MQ f128 f129)) (h128:cm P f128 .plain BV [true,true,true,true] MS)
  (hb:b<bs.length) (hO:Ord c dom) (hc:Fq P bs b e g us cs c dom) {xs:List Int} {n:Nat} (hn:xs.length=n) (hL:n≤20) (hd:∀z,z∈xs→dom z) (ha:xs.Pairwise (·< ·)) :
  bk P f108 (.st (Row bs b e xs)) [.sl b 0 n,.fn g us cs] (.bh []) (.st (Row bs b e (so c xs))):=by
 have h1:bk P f128 (.st (Row bs b e xs)) [.sl b 0 n,J 0,J n,.fn g us cs] (.bh []) (.st (Row bs b e (so c xs))):=by
  have h:=X7 h128 hb hO hc (e:=e) (T:=[]) (L:=xs) (S:=[]) (n:=n) (by simpa using hn) (by omega) hd ha
  simp only[List.nil_append,List.append_nil,List.length_nil,Nat.zero_add] at h
  rw[hn] at h
  exact h
 have hst:bk P f122 (.st (Row bs b e xs)) [.sl b 0 n,J n,.fn g us cs] (.bh []) (.st (Row bs b e (so c xs))):=by
  refine VL.W rfl ?_
  unfold MQ
  simp only[aC,aG,List.cons_append,List.nil_append]
  have hlt:decide ((20:Int)<(n:Int))=false:=by simp;omega
  rcases Nat.lt_or_ge n 20 with h | h
  ·have hf:decide ((20:Int)≤(n:Int))=false:=by simp;omega
   repeat' ((with_reducible refine au ?_))
   refine bf (fun _=>[J 0,J 20,.st (Row bs b e xs)]) (fun _=>True) 0 rfl (fun _=>rfl) trivial (fun i hi=>absurd hi (by omega)) (fun _ R=>?_)
   repeat' (first|(apply bp;simp only[ai];rfl)|(apply aK;rfl;exact hf)|(apply aD;rfl;simp only[ai];rfl)|(apply eZ;rfl;rfl;exact h1;rfl;simp only[ai];rfl)|refine au ?_|(apply av;rfl;rfl)|refine Qav ?_|(refine aB (by decide) ?_)|refine kj rfl ?_)
   refine bf (fun _=>[J 20,J 0,J 20,.st (Row bs b e (so c xs))]) (fun _=>True) 0 rfl (fun _=>rfl) trivial (fun i hi=>absurd hi (by omega)) (fun _ R=>?_)
   repeat' (first|(apply bp;simp only[ai];rfl)|(apply aK;rfl;exact hlt)|(apply aD;rfl;simp only[ai];rfl)|(apply av;rfl;rfl)|refine Qav ?_|(refine aB (by decide) ?_)|refine kj rfl ?_|exact aq rfl rfl)
  ·have aa9:n=20:=by omega
   have h2:bk P f128 (.st (Row bs b e (so c xs))) [.sl b 0 n,J 20,J n,.fn g us cs] (.bh []) (.st (Row bs b e (so c xs))):=by
    have h:=X7 h128 hb hO hc (e:=e) (T:=so c xs) (L:=[]) (S:=[]) (n:=n) (by simpa[kW] using hn) (by omega) (fun _ h=>by simp at h) .nil
    simp only[List.append_nil,List.length_nil,Nat.add_zero,kW,C_,hn,aa9] at h ⊢
    exact h
   have ht:decide (((20:Nat):Int)≤(n:Int))=true:=by simp;omega
   have hf:decide (((40:Nat):Int)≤(n:Int))=false:=by simp;omega
   have h1':bk P f128 (.st (Row bs b e xs)) [.sl b 0 n,J 0,J 20,.fn g us cs] (.bh []) (.st (Row bs b e (so c xs))):=by
    rw[aa9] at h1
    rw[aa9]
    exact h1
   repeat' ((with_reducible refine au ?_))
   refine bf (fun i=>match i with | 0=>[J 0,J 20,.st (Row bs b e xs)] | _=>[J 20,J 40,.st (Row bs b e (so c xs))]) (fun _=>True) 1 rfl (fun i=>by cases i <;> rfl) trivial (fun i hi _ R hR=>?_) (fun _ R=>?_)
   ·have hR:=hR trivial
    cases i with
    | succ i=>omega
    | zero=>
     repeat' (first|(apply bp;simp only[ai];rfl)|(apply aH;rfl;exact ht)|(apply bM;rfl;rfl;omega;simp only[ai];rfl)|(apply aD;rfl;simp only[ai];rfl)|(apply eZ;rfl;rfl;exact h1';rfl;simp only[ai];rfl)|refine au ?_|(apply av;rfl;rfl)|refine Qav ?_|refine kj rfl ?_)
     exact hR
   ·repeat' (first|(apply bp;simp only[ai];rfl)|(apply aK;rfl;exact hf)|(apply aD;rfl;simp only[ai];rfl)|(apply eZ;rfl;rfl;exact h2;rfl;simp only[ai];rfl)|refine au ?_|(apply av;rfl;rfl)|refine Qav ?_|(refine aB (by decide) ?_)|refine kj rfl ?_)
    refine bf (fun _=>[J 20,J 20,J 40,.st (Row bs b e (so c xs))]) (fun _=>True) 0 rfl (fun _=>rfl) trivial (fun i hi=>absurd hi (by omega)) (fun _ R=>?_)
    repeat' (first|(apply bp;simp only[ai];rfl)|(apply aK;rfl;exact hlt)|(apply aD;rfl;simp only[ai];rfl)|(apply av;rfl;rfl)|refine Qav ?_|(refine aB (by decide) ?_)|refine kj rfl ?_|exact aq rfl rfl)
 refine LA.W rfl ?_
 unfold MR
 simp only[aC,aG,List.cons_append,List.nil_append]
 repeat' (first|(apply aD;rfl;simp only[ai];rfl)|(apply eZ;rfl;rfl;exact hst;rfl;simp only[ai];rfl)|exact aq rfl rfl)

end Go.Am.jy
