/-
 Lists in the store: a part of one is appended to another.
-/
import Derived.Test.YtcofohnmkmknbaaGreatDoorAmFntoAmTabK
set_option linter.unusedSimpArgs false
set_option linter.unusedVariables false
namespace Go.Am

section
variable {α:Type} {bs:List D} {e:TypeId} {sz:Nat} {enc:α→List D} {s:D} {xs ys:List α}

theorem EH (hsz:∀x,(enc x).length=sz):∀{xs:List α} {i:Nat},(xs.flatMap enc).drop (i*sz)=(xs.drop i).flatMap enc
 | xs,0=>by simp
 | [],i+1=>by simp
 | x :: xs,i+1=>by
  rw[List.flatMap_cons,List.drop_succ_cons,List.drop_append,hsz,List.drop_eq_nil_of_le (by rw[hsz,Nat.succ_mul];omega),List.nil_append,show(i+1)*sz-sz=i*sz by rw[Nat.succ_mul];omega,EH hsz]

theorem EG (hsz:∀x,(enc x).length=sz):∀{xs:List α} {i:Nat},(xs.flatMap enc).take (i*sz)=(xs.take i).flatMap enc
 | xs,0=>by simp
 | [],i+1=>by simp
 | x :: xs,i+1=>by
  rw[List.flatMap_cons,List.take_succ_cons,List.flatMap_cons,List.take_append,hsz,List.take_of_length_le (by rw[hsz,Nat.succ_mul];omega),show(i+1)*sz-sz=i*sz by rw[Nat.succ_mul];omega,EG hsz]

theorem zx:∀{n:Nat} {cs:List D},n*sz≤cs.length→Qrj ((chunks sz n cs).map .agg)=cs.take (n*sz)∧bK sz ((chunks sz n cs).map .agg)=true∧((chunks sz n cs).map D.agg).length=n
 | 0,cs,_=>by simp[chunks,Qrj,bK]
 | n+1,cs,h=>by
  rw[Nat.succ_mul] at h
  obtain⟨h1,h2,h3⟩:=zx (n:=n) (cs:=cs.drop sz) (by rw[List.length_drop];omega)
  refine⟨?_,?_,?_⟩
  ·rw[chunks,List.map_cons]
   simp only[Qrj,List.flatMap_cons,D.cells] at h1 ⊢
   rw[h1,Nat.succ_mul,Nat.add_comm,List.take_add]
  ·simp only[chunks,List.map_cons,bK,List.all_cons,D.cells] at h2 ⊢
   rw[h2,List.length_take,Nat.min_eq_left (by omega)]
   simp
  ·simp only[chunks,List.map_cons,List.length_cons,h3]

def YX (bs:List D)(sz:Nat)(enc:α→List D)(y:D)(ys:List α):Prop:=∃es,D.JN (.st bs) sz y=some es∧Qrj es=ys.flatMap enc∧es.length=ys.length∧bK sz es=true∧D.cnt y=some ys.length

theorem YX.bq {d:α→D}(hd:∀x,(d x).cells=enc x)(hsz:∀x,(enc x).length=sz)(ys:List α):YX bs sz enc (.bq (ys.map d)) ys:=by
 refine⟨_,rfl,?_,by simp,?_,by simp[D.cnt]⟩
 ·simp only[Qrj,List.flatMap_map,hd]
 ·simp[bK,hd,hsz]

theorem o5.part (h:o5 bs e sz enc s xs)(hsz:∀x,(enc x).length=sz)(h0:0<sz){lo hi:Nat}(h1:lo≤hi)(h2:hi≤xs.length) :
  ∃y,D.sub sz s (.v (.int .i64 lo)) (.v (.int .i64 hi))=some y∧∀bs',(∀b,s.SX=some b→bs'[b]? = bs[b]?)→YX bs' sz enc y ((xs.drop lo).take (hi-lo)):=by
 rcases h with⟨rfl,rfl⟩ | ⟨b,rfl,hb⟩
 ·have e1:hi=0:=by simpa using h2
  have e2:lo=0:=by omega
  subst e1 e2
  exact⟨.cq,rfl,fun bs' _=>⟨[],rfl,rfl,rfl,rfl,rfl⟩⟩
 ·by_cases hlt:lo<hi∨lo=0
  ·refine⟨.sl b (0+lo*sz) (hi-lo),?_,fun bs' hk=>?_⟩
   ·simp only[D.sub]
    rw[if_pos ⟨by omega,by omega,by omega,h0⟩,if_pos (by omega)]
    simp only[Int.toNat_natCast]
    rw[show((hi:Int)-(lo:Int)).toNat=hi-lo by omega]
   ·have hb':bs'[b]? = some (.aE e sz (xs.flatMap enc)):=by rw[hk b rfl];exact hb
    have hl:=h_ hsz (xs:=xs)
    by_cases hz:hi-lo=0
    ·refine⟨[],?_,?_,?_,rfl,?_⟩
     ·simp only[D.JN,if_pos hz]
     ·rw[hz];rfl
     ·rw[hz];rfl
     ·rw[hz];rfl
    ·have hfit:lo*sz+(hi-lo)*sz≤xs.length*sz:=by
      rw[←Nat.add_mul]
      exact Nat.mul_le_mul_right _ (by omega)
     obtain⟨c1,c2,c3⟩:=zx (sz:=sz) (n:=hi-lo) (cs:=(xs.flatMap enc).drop (lo*sz)) (by rw[List.length_drop,hl];omega)
     have hlen:((xs.drop lo).take (hi-lo)).length=hi-lo:=by rw[List.length_take,List.length_drop];omega
     refine⟨_,?_,?_,?_,c2,?_⟩
     ·simp only[D.JN,if_neg hz,D.gF,hb',Option.bind_some,Nat.zero_add]
      rw[if_pos (by rw[hl];exact hfit)]
     ·rw[c1,EH hsz,EG hsz]
     ·rw[c3,hlen]
     ·rw[hlen];rfl
  ·refine⟨.bq [],?_,fun bs' _=>?_⟩
   ·simp only[D.sub]
    rw[if_pos ⟨by omega,by omega,by omega,h0⟩,if_neg (by omega)]
   ·have hz:hi-lo=0:=by omega
    rw[hz]
    exact⟨[],rfl,rfl,rfl,rfl,rfl⟩

theorem o5.app (h:o5 bs e sz enc s xs)(hsz:∀x,(enc x).length=sz){bytes:Nat}{y:D}(hy:YX bs sz enc y ys)(ho:∀x,(enc x).all (·.one)=true)(hb:(xs.length+ys.length)*bytes≤140737488355328)(hm:xs.length+ys.length≤maxLen) :
  ∃bs' s',D.fU e sz bytes (.st bs) s y=some (.st bs')∧D.apps (.st bs) s y=some s'∧o5 bs' e sz enc s' (xs++ys)∧bs.length≤bs'.length∧(∀k,k<bs.length→s.SX≠some k→bs'[k]? = bs[k]?)∧∀k,s'.SX=some k→bs.length≤k∨s.SX=some k:=by
 obtain⟨es,h1,h2,h3,h4,h5⟩:=hy
 have hall:(Qrj es).all (·.one)=true:=by
  rw[h2,List.all_eq_true]
  intro d hd
  obtain⟨x,_,hx⟩:=List.mem_flatMap.1 hd
  exact List.all_eq_true.1 (ho x) d hx
 by_cases hn:ys=[]
 ·subst hn
  have he:es=[]:=List.eq_nil_of_length_eq_zero h3
  subst he
  rw[List.append_nil]
  rcases h with⟨rfl,rfl⟩ | ⟨i,rfl,hi⟩
  ·refine⟨bs,.cq,?_,?_,.inl ⟨rfl,rfl⟩,Nat.le_refl _,fun _ _ _=>rfl,fun k hk=>by cases hk⟩
   ·simp only[D.fU,h1,if_true]
   ·simp only[D.apps,h5,List.length_nil,if_true]
  ·refine⟨bs,.sl i 0 xs.length,?_,?_,.inr ⟨i,rfl,hi⟩,Nat.le_refl _,fun _ _ _=>rfl,fun k hk=>.inr hk⟩
   ·simp only[D.fU,h1,if_true]
   ·simp only[D.apps,h5,List.length_nil,if_true]
 ·have hne:es≠[]:=fun e=>hn (List.eq_nil_of_length_eq_zero (by rw[←h3,e];rfl))
  have hlen:ys.length≠0:=fun e=>hn (List.eq_nil_of_length_eq_zero e)
  rcases h with⟨rfl,rfl⟩ | ⟨i,rfl,hi⟩
  ·refine⟨bs++[.aE e sz (Qrj es)],.sl bs.length 0 ys.length,?_,?_,.inr ⟨bs.length,by simp,by simp[h2]⟩,by simp,fun k hk _=>by rw[List.getElem?_append_left hk],fun k hk=>.inl (by cases hk;exact Nat.le_refl _)⟩
   ·simp only[D.fU,h1,if_neg hne]
    rw[if_pos ⟨by rw[h3];simpa using hb,by rw[h3];simpa using hm,h4,hall⟩]
   ·simp only[D.apps,h5,if_neg hlen]
  ·have mU:=(List.getElem?_eq_some_iff.1 hi).1
   refine⟨bs.set i (.bh [])++[.aE e sz (xs.flatMap enc++Qrj es)],.sl bs.length 0 (xs.length+ys.length),?_,?_,.inr ⟨bs.length,by simp,?_⟩,by simp,fun k hk Va=>?_,fun k hk=>.inl (by cases hk;exact Nat.le_refl _)⟩
   ·simp only[D.fU,h1,if_neg hne,D.gF,hi,Option.bind_some]
    rw[if_pos ⟨trivial,trivial,trivial,h_ hsz,by rw[h3];exact hb,by rw[h3];exact hm,h4,hall⟩]
   ·simp only[D.apps,h5,if_neg hlen]
   ·rw[List.getElem?_append_right (by simp)]
    simp[h2]
   ·rw[List.getElem?_append_left (by simpa using hk),List.getElem?_set_ne (fun e'=>Va (by rw[e'];rfl))]

end

end Go.Am
