/-
 Lists in the store: a part of one is appended to another.
-/
import Derived.Test.YtjnipnanfjglpaaGreatDoorAmFntoAmTabK
set_option linter.unusedSimpArgs false
set_option linter.unusedVariables false
namespace Go.Am

section
variable {α:Type} {bs:List D} {e:TypeId} {sz:Nat} {enc:α→List D} {s:D} {xs ys:List α}

theorem rU (hsz:∀x,(enc x).length=sz):∀{xs:List α} {i:Nat},(xs.flatMap enc).drop (i*sz)=(xs.drop i).flatMap enc
 | xs,0=>by simp
 | [],i+1=>by simp
 | x :: xs,i+1=>by
  rw[List.flatMap_cons,List.drop_succ_cons,List.drop_append,hsz,List.drop_eq_nil_of_le (by rw[hsz,Nat.succ_mul];omega),A0r,show(i+1)*sz-sz=i*sz by rw[Nat.succ_mul];omega,rU hsz]

theorem rT (hsz:∀x,(enc x).length=sz):∀{xs:List α} {i:Nat},(xs.flatMap enc).take (i*sz)=(xs.take i).flatMap enc
 | xs,0=>by simp
 | [],i+1=>by simp
 | x :: xs,i+1=>by
  rw[List.flatMap_cons,List.take_succ_cons,List.flatMap_cons,List.take_append,hsz,List.take_of_length_le (by rw[hsz,Nat.succ_mul];omega),show(i+1)*sz-sz=i*sz by rw[Nat.succ_mul];omega,rT hsz]

theorem tO:∀{n:Nat} {cs:List D},n*sz≤cs.length→bI ((chunks sz n cs).map .agg)=cs.take (n*sz)∧bM sz ((chunks sz n cs).map .agg)=true∧((chunks sz n cs).map D.agg).length=n
 | 0,cs,_=>by simp[chunks,bI,bM]
 | n+1,cs,h=>by
  rw[Nat.succ_mul] at h
  obtain⟨h1,h2,h3⟩:=tO (n:=n) (cs:=cs.drop sz) (by rw[List.length_drop];omega)
  refine⟨?_,?_,?_⟩
  ·rw[chunks,List.map_cons]
   simp only[bI,List.flatMap_cons,D.cells] at h1 ⊢
   rw[h1,Nat.succ_mul,Nat.add_comm,List.take_add]
  ·simp only[chunks,List.map_cons,bM,List.all_cons,D.cells] at h2 ⊢
   rw[h2,B0s,Nat.min_eq_left (by omega)]
   simp
  ·simp only[chunks,List.map_cons,List.length_cons,h3]

def QL (bs:List D)(sz:Nat)(enc:α→List D)(y:D)(ys:List α):Prop:=∃es,D.Dj (.st bs) sz y=some es∧bI es=ys.flatMap enc∧es.length=ys.length∧bM sz es=true∧D.cnt y=some ys.length

theorem QL.a_ {d:α→D}(hd:∀x,(d x).cells=enc x)(hsz:∀x,(enc x).length=sz)(ys:List α):QL bs sz enc (.a_ (ys.map d)) ys:=by
 refine⟨_,rfl,?_,by simp,?_,by simp[D.cnt]⟩
 ·simp only[bI,List.flatMap_map,hd]
 ·simp[bM,hd,hsz]

theorem lu.part (h:lu bs e sz enc s xs)(hsz:∀x,(enc x).length=sz)(h0:0<sz){lo hi:Nat}(h1:lo≤hi)(h2:hi≤xs.length) :
  ∃y,D.sub sz s (.v (.int .i64 lo)) (.v (.int .i64 hi))=some y∧∀bs',(∀b,s.KZ=some b→bs'[b]? = bs[b]?)→QL bs' sz enc y ((xs.drop lo).take (hi-lo)):=by
 rcases h with⟨rfl,rfl⟩ | ⟨b,rfl,hb⟩
 ·have e1:hi=0:=by simpa using h2
  have e2:lo=0:=by omega
  subst e1 e2
  exact⟨.cO,rfl,fun bs' _=>⟨[],rfl,rfl,rfl,rfl,rfl⟩⟩
 ·by_cases hlt:lo<hi∨lo=0
  ·refine⟨.sl b (0+lo*sz) (hi-lo),?_,fun bs' hk=>?_⟩
   ·simp only[D.sub]
    rw[if_pos ⟨by omega,by omega,by omega,h0⟩,if_pos (by omega)]
    simp only[Int.toNat_natCast]
    rw[show((hi:Int)-(lo:Int)).toNat=hi-lo by omega]
   ·have hb':bs'[b]? = some (.bh e sz (xs.flatMap enc)):=by rw[hk b rfl];exact hb
    have hl:=eF hsz (xs:=xs)
    by_cases hz:hi-lo=0
    ·refine⟨[],?_,?_,?_,rfl,?_⟩
     ·simp only[D.Dj,if_pos hz]
     ·rw[hz];rfl
     ·rw[hz];rfl
     ·rw[hz];rfl
    ·have hfit:lo*sz+(hi-lo)*sz≤xs.length*sz:=by
      rw[←Nat.add_mul]
      exact Nat.mul_le_mul_right _ (by omega)
     obtain⟨c1,c2,c3⟩:=tO (sz:=sz) (n:=hi-lo) (cs:=(xs.flatMap enc).drop (lo*sz)) (by rw[List.length_drop,hl];omega)
     have hlen:((xs.drop lo).take (hi-lo)).length=hi-lo:=by rw[B0s,List.length_drop];omega
     refine⟨_,?_,?_,?_,c2,?_⟩
     ·simp only[D.Dj,if_neg hz,D.dJ,hb',A0d,B0k]
      rw[if_pos (by rw[hl];exact hfit)]
     ·rw[c1,rU hsz,rT hsz]
     ·rw[c3,hlen]
     ·rw[hlen];rfl
  ·refine⟨.a_ [],?_,fun bs' _=>?_⟩
   ·simp only[D.sub]
    rw[if_pos ⟨by omega,by omega,by omega,h0⟩,if_neg (by omega)]
   ·have hz:hi-lo=0:=by omega
    rw[hz]
    exact⟨[],rfl,rfl,rfl,rfl,rfl⟩

theorem lu.app (h:lu bs e sz enc s xs)(hsz:∀x,(enc x).length=sz){bytes:Nat}{y:D}(hy:QL bs sz enc y ys)(ho:∀x,(enc x).all (·.one)=true)(hb:(xs.length+ys.length)*bytes≤140737488355328)(hm:xs.length+ys.length≤maxLen) :
  ∃bs' s',D.fC e sz bytes (.st bs) s y=some (.st bs')∧D.apps (.st bs) s y=some s'∧lu bs' e sz enc s' (xs++ys)∧bs.length≤bs'.length∧(∀k,k<bs.length→s.KZ≠some k→bs'[k]? = bs[k]?)∧∀k,s'.KZ=some k→bs.length≤k∨s.KZ=some k:=by
 obtain⟨es,h1,h2,h3,h4,h5⟩:=hy
 have hall:(bI es).all (·.one)=true:=by
  rw[h2,A0z]
  intro d hd
  obtain⟨x,_,hx⟩:=List.mem_flatMap.1 hd
  exact A0z.1 (ho x) d hx
 by_cases hn:ys=[]
 ·subst hn
  have he:es=[]:=A0w h3
  subst he
  rw[List.append_nil]
  rcases h with⟨rfl,rfl⟩ | ⟨i,rfl,hi⟩
  ·refine⟨bs,.cO,?_,?_,.inl ⟨rfl,rfl⟩,A0m _,fun _ _ _=>rfl,fun k hk=>by cases hk⟩
   ·simp only[D.fC,h1,if_true]
   ·simp only[D.apps,h5,List.length_nil,if_true]
  ·refine⟨bs,.sl i 0 xs.length,?_,?_,.inr ⟨i,rfl,hi⟩,A0m _,fun _ _ _=>rfl,fun k hk=>.inr hk⟩
   ·simp only[D.fC,h1,if_true]
   ·simp only[D.apps,h5,List.length_nil,if_true]
 ·have hne:es≠[]:=fun e=>hn (A0w (by rw[←h3,e];rfl))
  have hlen:ys.length≠0:=fun e=>hn (A0w e)
  rcases h with⟨rfl,rfl⟩ | ⟨i,rfl,hi⟩
  ·refine⟨bs++[.bh e sz (bI es)],.sl bs.length 0 ys.length,?_,?_,.inr ⟨bs.length,by simp,by simp[h2]⟩,by simp,fun k hk _=>by rw[A0j hk],fun k hk=>.inl (by cases hk;exact A0m _)⟩
   ·simp only[D.fC,h1,if_neg hne]
    rw[if_pos ⟨by rw[h3];simpa using hb,by rw[h3];simpa using hm,h4,hall⟩]
   ·simp only[D.apps,h5,if_neg hlen]
  ·have uX:=(A0a.1 hi).1
   refine⟨bs.set i (.aM [])++[.bh e sz (xs.flatMap enc++bI es)],.sl bs.length 0 (xs.length+ys.length),?_,?_,.inr ⟨bs.length,by simp,?_⟩,by simp,fun k hk yX=>?_,fun k hk=>.inl (by cases hk;exact A0m _)⟩
   ·simp only[D.fC,h1,if_neg hne,D.dJ,hi,A0d]
    rw[if_pos ⟨trivial,trivial,trivial,eF hsz,by rw[h3];exact hb,by rw[h3];exact hm,h4,hall⟩]
   ·simp only[D.apps,h5,if_neg hlen]
   ·rw[A0l (by simp)]
    simp[h2]
   ·rw[A0j (by simpa using hk),B0l (fun e'=>yX (by rw[e'];rfl))]

end

end Go.Am
