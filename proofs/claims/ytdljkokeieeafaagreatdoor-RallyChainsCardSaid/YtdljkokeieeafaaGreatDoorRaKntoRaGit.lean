/-
  Several texts, one behind the other.
-/
import Derived.Test.YtdljkokeieeafaaGreatDoorAmFntoAmTabK
import Derived.Test.YtdljkokeieeafaaGreatDoorRaKnW0toRaKnW3
import Derived.Test.YtdljkokeieeafaaGreatDoorRaKnW4
import Derived.Test.YtdljkokeieeafaaGreatDoorRaCA
import Derived.Test.YtdljkokeieeafaaGreatDoorRaCB
import Derived.Test.YtdljkokeieeafaaGreatDoorRaCktoRaD
import Derived.Test.YtdljkokeieeafaaGreatDoorRaBasetoRaC6
import Derived.Test.YtdljkokeieeafaaGreatDoorRaTab3toRaTab4
import Derived.Test.YtdljkokeieeafaaGreatDoorRows
import Derived.ProofKit
import Derived.Stop.Joined
set_option linter.unusedSimpArgs false
set_option linter.unusedVariables false
/-
  The chapter's examples, part by part.
-/
namespace Go.Am.Ra
open Go.Proofs
set_option maxRecDepth 100000
def fKn : Fact := ⟨6, [], b true⟩
noncomputable def fKn_t : Tab := [e42, e17, e19, e24, e88, e111, e140, e165, e168, e169, e170, e171, e232, e233, e234, e235, e282, e283, e20, e90, e91, e85w, e86w, e36, e85, e89, e37, e6]
theorem fKn_o : ∀ e, e ∈ fKn_t → EntOk Tryz.prog e := by
  intro e he
  simp only [fKn_t, List.mem_cons, List.not_mem_nil, or_false] at he
  rcases he with rfl | rfl | rfl | rfl | rfl | rfl | rfl | rfl | rfl | rfl | rfl | rfl | rfl | rfl | rfl | rfl | rfl | rfl | rfl | rfl | rfl | rfl | rfl | rfl | rfl | rfl | rfl | rfl
  · exact ok42
  · exact ok17
  · exact ok19
  · exact ok24
  · exact ok88
  · exact ok111
  · exact ok140
  · exact ok165
  · exact ok168
  · exact ok169
  · exact ok170
  · exact ok171
  · exact ok232
  · exact ok233
  · exact ok234
  · exact ok235
  · exact ok282
  · exact ok283
  · exact ok20
  · exact ok90
  · exact ok91
  · exact ok85w
  · exact ok86w
  · exact ok36
  · exact ok85
  · exact ok89
  · exact ok37
  · exact ok6
theorem fKn_k : (fKn : Fact).ok Tryz.prog b0 := fact_of (l := []) trivial ((factOrc_ok (b0 := b0) (l := [fCk, fCA, fCB, fD9, fD10, fD11, fD12, fD13, fD14, fD15, fD16, fD17]) ⟨fCk_k, fCA_k, fCB_k, fD9_k, fD10_k, fD11_k, fD12_k, fD13_k, fD14_k, fD15_k, fD16_k, fD17_k, trivial⟩).or (wfactOrc_ok (l := [fKnW0, fKnW1, fKnW2, fKnW3, fKnW4]) ⟨fKnW0_k, fKnW1_k, fKnW2_k, fKnW3_k, fKnW4_k, trivial⟩)) fKn 200 40 (by kernel_rfl) b0_ok (by kernel_rfl) fKn_o (by kernel_rfl)

end Go.Am.Ra

/-
 The law RallyChains,as a function.
-/
namespace Go.Am.Ra
open Go.Proofs
set_option maxRecDepth 100000
set_option maxHeartbeats 4000000

variable {bs:List D}

def dnv (p:Nat→Bool)(n:Nat):Nat→Int
 | 0=>-1
 | i+1=>if p (n-1-i)=true then((n-1-i:Nat):Int) else dnv p n i

theorem dnv_no {p:Nat→Bool}{n:Nat}:∀{i:Nat},i≤n→(∀k,n-i≤k→k<n→p k=false)→dnv p n i=-1
 | 0,_,_=>rfl
 | i+1,h,hk=>by
  rw[dnv,hk (n-1-i) (by omega) (by omega)]
  simp only[Bool.false_eq_true,if_false]
  exact dnv_no (by omega) fun k h1 h2=>hk k (by omega) h2

theorem dnv_at {p:Nat→Bool}{n j:Nat}(hj:j<n)(hp:p j=true):∀{i:Nat},i≤n→n-i≤j→(∀k,n-i≤k→k<j→p k=false)→dnv p n i=j
 | 0,_,h1,_=>by omega
 | i+1,h,h1,hk=>by
  rw[dnv]
  by_cases he:n-1-i=j
  ·rw[he,hp];simp
  ·rw[hk (n-1-i) (by omega) (by omega)]
   simp only[Bool.false_eq_true,if_false]
   exact dnv_at hj hp (by omega) (by omega) fun k h2 h3=>hk k (by omega) h3

theorem least_or (p:Nat→Bool):∀n:Nat,(∀k,k<n→p k=false)∨∃j,j<n∧p j=true∧∀k,k<j→p k=false
 | 0=>.inl fun k h=>absurd h (Nat.not_lt_zero _)
 | n+1=>by
  rcases least_or p n with h | ⟨j,h1,h2,h3⟩
  ·cases hp:p n
   ·left
    intro k hk
    rcases Nat.lt_or_ge k n with h4 | h4
    ·exact h k h4
    ·have:k=n:=by omega
     subst this
     exact hp
   ·exact .inr ⟨n,by omega,hp,h⟩
  ·exact .inr ⟨j,by omega,h2,h3⟩

theorem dnv_fst1 (p:Nat→Bool)(n:Nat):dnv p n n=fst1 p n:=by
 rcases least_or p n with h | ⟨j,h1,h2,h3⟩
 ·rw[dnv_no (Nat.le_refl _) fun k _ hk=>h k hk,fst1_no h]
 ·rw[dnv_at h1 h2 (Nat.le_refl _) (by omega) fun k _ hk=>h3 k hk,fst1_at h2 h3 h1]

def dnw (p:Nat→Bool)(n:Nat)(v:Int):Nat→Int
 | 0=>v
 | i+1=>if p (n-1-i)=true then((n-1-i:Nat):Int) else dnw p n v i

theorem dnw_eq (p:Nat→Bool)(n:Nat)(v:Int):∀i,i≤n→dnw p n v i=if dnv p n i≥0 then dnv p n i else v
 | 0,_=>by simp[dnw,dnv]
 | i+1,h=>by
  rw[dnw,dnv,dnw_eq p n v i (by omega)]
  cases p (n-1-i)
  ·simp
  ·simp only[if_true]
   rw[if_pos (by omega)]

theorem lines_short {l:List ByteArray}{m:Int}(h:shortB l m=true):(∀s,s∈l→s.size≤maxLen)∧(l.length:Int)≤m:=by
 unfold shortB at h
 rw[Bool.and_eq_true,List.all_eq_true,decide_eq_true_eq] at h
 refine⟨fun s hs=>?_,h.2⟩
 have:=h.1 s hs
 rw[decide_eq_true_eq] at this
 unfold maxLen
 omega

def dni (x:Int):Nat→Int
 | 0=>x
 | i+1=>dni x i-1

theorem dni_eq (x:Int):∀i,dni x i=x-i
 | 0=>by simp[dni]
 | i+1=>by rw[dni,dni_eq x i];omega

theorem neS_at (x y:ByteArray):Am.D.bin .neq .str (St x) (St y)=some (Bo (!(x.toList==y.toList))):=rfl


theorem c3 {l:List ByteArray}{a b:List Ent}(hl:l.length≤maxLen)(ha0:a.length≤maxLen)(hb0:b.length≤maxLen):FSpecW Tryz.prog 3 (.st (b0++bs)) [Ss l,Es a,Es b] (Bo true) (.st (b0++bs)):=by
 have hl':l.length≤9223372036854775807:=hl
 have ha':a.length≤9223372036854775807:=ha0
 have hb':b.length≤9223372036854775807:=hb0
 refine ku3.W rfl ?_
 unfold u3
 simp only[ups_cons,ups_nil,List.cons_append,List.nil_append]
 by_cases hq:(((!shortB l 30)||decide ((a.length:Int) > 30))||decide ((b.length:Int) > 30))=true
 ·repeat' (first|(apply nrm;simp only[sbe];rfl)|(apply u_iteT;rfl;exact hq)|(apply u_lenL;rfl;exact lenL_map;simp only[sbe];rfl)|(apply u_ev;rfl;simp only[sbe];rfl)|(apply u_call;rfl;rfl;(·first|exact c5 hl|exact fKn_k bs);rfl;simp only[sbe];rfl)|(apply u_or;rfl)|exact u_ret rfl rfl|(intro hz;(try simp only[sbs] at hz)))
 ·have hq':(((!shortB l 30)||decide ((a.length:Int) > 30))||decide ((b.length:Int) > 30))=false:=by simpa using hq
  have hsl:shortB l 30=true:=by
   cases h:shortB l 30
   ·rw[h] at hq;simp at hq
   ·rfl
  have ha:(a.length:Int)≤30:=by
   rw[hsl] at hq';simp at hq';omega
  have hb:(b.length:Int)≤30:=by
   rw[hsl] at hq';simp at hq';omega
  obtain⟨hS,hL⟩:=lines_short hsl
  repeat' (first|(apply nrm;simp only[sbe];rfl)|(apply u_iteF;rfl;exact hq')|(apply u_lenL;rfl;exact lenL_map;simp only[sbe];rfl)|(apply u_ev;rfl;simp only[sbe];rfl)|(apply u_call;rfl;rfl;exact c5 hl;rfl;simp only[sbe];rfl)|(apply u_or;rfl)|refine u_join ?_|exact u_ret rfl rfl|(intro hz;(try simp only[sbs] at hz)))
  refine u_range (fun i=>[Ss ((a.take i).map Prod.fst),I i]) (fun _=>True) a.length rfl (fun _=>rfl) trivial (fun i hi _ R hR=>?_) (fun _ R=>?_)
  ·have hli:decide ((i:Int)<((a.map Ent.d).length:Int))=true:=by simp;omega
   have hap:Am.D.app 1 16 (Ss ((a.take i).map Prod.fst)) (.lst [St a[i].1])=some (Ss ((a.take i).map Prod.fst++[a[i].1])):=app_lst (enc:=St) (ys:=[a[i].1]) (by simp;omega) (by unfold maxLen;simp;omega) (fun _=>rfl)
   repeat' (first|(apply nrm;simp only[sbe];rfl)|(apply u_chk;rfl)|(apply u_eaddr;rfl;rfl;exact eaddr_get hi rfl;simp only[sbe];rfl)|(apply u_app;rfl;rfl;exact hap;simp only[sbe];rfl)|(apply u_lenL;rfl;exact lenL_map;simp only[sbe];rfl)|(apply u_inc;rfl;omega;simp only[sbe];rfl)|(apply u_ev;rfl;simp only[sbe];rfl)|refine u_join ?_|(apply u_jump;rfl;rfl)|refine at_jump ?_|refine kj rfl ?_|(apply u_ite;rfl;all_goals (intro hz;(try simp only[sbs] at hz);first|(exact absurd hz (by decide))|(exfalso;omega)|skip)))
   have:=hR trivial
   simp only[take_map hi] at this
   exact this
  ·have hlf:decide ((a.length:Int)<((a.map Ent.d).length:Int))=false:=by simp
   rw[List.take_of_length_le (Nat.le_refl _)]
   have h5:=c5 (bs:=b0++bs) (l:=a.map Prod.fst) (most:=30) (by simp;omega)
   by_cases hs2:shortB (a.map Prod.fst) 30=true
   ·obtain⟨hS2,hL2⟩:=lines_short hs2
    rw[hs2] at h5
    have h8:=c8 (bs:=bs) (l:=l) (by omega) hS
    have h9:=c9 (bs:=b0++bs) (l:=l) (by omega) hS
    have h7:=c7 (bs:=b0++bs) (l:=outs l l.length) (m:=outs l l.length) (by rw[outs_len];exact hl) (by rw[outs_len];exact hl) rfl
    have h9b:=c9 (bs:=b0++bs) (l:=a.map Prod.fst) (by simp;omega) hS2
    rw[List.length_map] at h9b
    have ho:(outs (a.map Prod.fst) a.length).length=a.length:=outs_len _ _
    have h10:=c10 (bs:=bs) (a:=a) (by omega) (fun e he=>hS2 e.1 (List.mem_map.2 ⟨e,he,rfl⟩))
    have h11:=c11 (bs:=b0++bs) (a:=a) (b:=b) (by omega) (by omega)
    have h11b:=c11 (bs:=b0++bs) (a:=b) (b:=a) (by omega) (by omega)
    rw[partsR_comm b a] at h11b
    repeat' (first|(apply nrm;simp only[sbe];rfl)|(apply u_iteF;rfl;exact rfl)|(apply u_lenL;rfl;exact lenL_map;simp only[sbe];rfl)|(apply u_sub;rfl;rfl;omega;simp only[sbe];rfl)|(apply u_ev;rfl;simp only[sbe];rfl)|(apply u_call;rfl;rfl;(·first|exact h5|exact h8|exact h9|exact h7|exact h9b);rfl;simp only[sbe];rfl)|refine u_join ?_|(apply u_jump;rfl;rfl)|refine at_jump ?_|(refine over_jump (by decide) ?_)|refine kj rfl ?_|(apply u_ite;rfl;all_goals (intro hz;(try simp only[sbs] at hz);first|(exact absurd hz (by decide))|(exfalso;omega)|skip)))
    refine u_range (fun i=>[I (dnv (wrongE a) a.length i),I (dni ((a.length:Int)-1) i)]) (fun _=>True) a.length rfl (fun _=>rfl) trivial (fun i hi _ R1 hR1=>?_) (fun _ R1=>?_)
    ·have hidx:dni ((a.length:Int)-1) i=((a.length-1-i:Nat):Int):=by rw[dni_eq];omega
     have hk:a.length-1-i<a.length:=by omega
     have hkc:a.length-1-i<(outs (a.map Prod.fst) a.length).length:=by omega
     have hge:decide (((a.length-1-i:Nat):Int)≥0)=true:=by simp
     have hw:wrongE a (a.length-1-i)=!(a[a.length-1-i].2.toList==((outs (a.map Prod.fst) a.length)[a.length-1-i]).toList):=by
      unfold wrongE
      rw[List.getElem?_eq_getElem hk,List.getElem?_eq_getElem hkc]
     have hne:=neS_at a[a.length-1-i].2 ((outs (a.map Prod.fst) a.length)[a.length-1-i])
     rw[←hw] at hne
     have h6:=hR1 trivial
     simp only[dni,dnv,hidx] at h6
     simp only[hidx]
     cases hP:wrongE a (a.length-1-i)
     ·rw[hP] at hne h6
      repeat' (first|(apply nrm;simp only[sbe];rfl)|(apply u_iteT;rfl;exact hge)|(apply u_chk;rfl)|(apply u_eaddr;rfl;rfl;(·first|exact eaddr_get hk rfl|exact eaddr_get hkc rfl);simp only[sbe];rfl)|(apply u_bin;rfl;rfl;exact hne;simp only[sbe];rfl)|(apply u_sub;rfl;rfl;omega;simp only[sbe];rfl)|(apply u_ev;rfl;simp only[sbe];rfl)|refine u_join ?_|(apply u_jump;rfl;rfl)|refine at_jump ?_|refine kj rfl ?_|(apply u_phi;rfl;(·intro hz;rfl);(·intro hz;rfl);rfl;(·simp only[sbe,List.zipWith_cons_cons,List.zipWith_nil_left,selD];rfl)))
      exact h6
     ·rw[hP] at hne h6
      repeat' (first|(apply nrm;simp only[sbe];rfl)|(apply u_iteT;rfl;exact hge)|(apply u_chk;rfl)|(apply u_eaddr;rfl;rfl;(·first|exact eaddr_get hk rfl|exact eaddr_get hkc rfl);simp only[sbe];rfl)|(apply u_bin;rfl;rfl;exact hne;simp only[sbe];rfl)|(apply u_sub;rfl;rfl;omega;simp only[sbe];rfl)|(apply u_ev;rfl;simp only[sbe];rfl)|refine u_join ?_|(apply u_jump;rfl;rfl)|refine at_jump ?_|refine kj rfl ?_|(apply u_phi;rfl;(·intro hz;rfl);(·intro hz;rfl);rfl;(·simp only[sbe,List.zipWith_cons_cons,List.zipWith_nil_left,selD];rfl)))
      exact h6
    ·have hidx:dni ((a.length:Int)-1) a.length=-1:=by rw[dni_eq];omega
     simp only[hidx,dnv_fst1]
     have hmm:=mm_at a.length b.length
     by_cases he:a.length=b.length
     ·have hq:(!((a.length:Int)==(b.length:Int)))=false:=by simp[he]
      repeat' (first|(apply nrm;simp only[sbe];rfl)|(apply u_iteF;rfl;(·first|exact rfl|exact hq))|(apply u_mm;rfl;rfl;exact hmm;simp only[sbe];rfl)|(apply u_lenL;rfl;exact lenL_map;simp only[sbe];rfl)|(apply u_sub;rfl;rfl;omega;simp only[sbe];rfl)|(apply u_ev;rfl;simp only[sbe];rfl)|refine u_join ?_|(apply u_jump;rfl;rfl)|refine at_jump ?_|(refine over_jump (by decide) ?_)|refine kj rfl ?_)
      refine u_range (fun i=>[I (dnw (diffE a b) (min a.length b.length) (-1) i),I (dni (((min a.length b.length:Nat):Int)-1) i)]) (fun _=>True) (min a.length b.length) rfl (fun _=>rfl) trivial (fun i hi _ R2 hR2=>?_) (fun _ R2=>?_)
      ·have hix:dni (((min a.length b.length:Nat):Int)-1) i=((min a.length b.length-1-i:Nat):Int):=by rw[dni_eq];omega
       have hka:min a.length b.length-1-i<a.length:=by omega
       have hkb:min a.length b.length-1-i<b.length:=by omega
       have hge2:decide (((min a.length b.length-1-i:Nat):Int)≥0)=true:=by simp
       have hne:=neq_at a[min a.length b.length-1-i] b[min a.length b.length-1-i]
       rw[←diffE_at hka hkb] at hne
       have h6:=hR2 trivial
       simp only[dni,dnw,hix] at h6
       simp only[hix]
       cases hP:diffE a b (min a.length b.length-1-i)
       ·rw[hP] at hne h6
        repeat' (first|(apply nrm;simp only[sbe];rfl)|(apply u_iteT;rfl;exact hge2)|(apply u_eaddr;rfl;rfl;(·first|exact eaddr_get hka rfl|exact eaddr_get hkb rfl);simp only[sbe];rfl)|(apply u_bin;rfl;rfl;exact hne;simp only[sbe];rfl)|(apply u_sub;rfl;rfl;omega;simp only[sbe];rfl)|(apply u_ev;rfl;simp only[sbe];rfl)|refine u_join ?_|(apply u_jump;rfl;rfl)|refine at_jump ?_|refine kj rfl ?_|(apply u_phi;rfl;(·intro hz;rfl);(·intro hz;rfl);rfl;(·simp only[sbe,List.zipWith_cons_cons,List.zipWith_nil_left,selD];rfl)))
        exact h6
       ·rw[hP] at hne h6
        repeat' (first|(apply nrm;simp only[sbe];rfl)|(apply u_iteT;rfl;exact hge2)|(apply u_eaddr;rfl;rfl;(·first|exact eaddr_get hka rfl|exact eaddr_get hkb rfl);simp only[sbe];rfl)|(apply u_bin;rfl;rfl;exact hne;simp only[sbe];rfl)|(apply u_sub;rfl;rfl;omega;simp only[sbe];rfl)|(apply u_ev;rfl;simp only[sbe];rfl)|refine u_join ?_|(apply u_jump;rfl;rfl)|refine at_jump ?_|refine kj rfl ?_|(apply u_phi;rfl;(·intro hz;rfl);(·intro hz;rfl);rfl;(·simp only[sbe,List.zipWith_cons_cons,List.zipWith_nil_left,selD];rfl)))
        exact h6
      ·have hix:dni (((min a.length b.length:Nat):Int)-1) (min a.length b.length)=-1:=by rw[dni_eq];omega
       have hv:dnw (diffE a b) (min a.length b.length) (-1) (min a.length b.length)=partsR a b:=by
        rw[dnw_eq _ _ _ _ (Nat.le_refl _),dnv_fst1,partsR]
        simp only[he,if_true,if_false]
       simp only[hix,hv]
       repeat' (first|(apply nrm;simp only[sbe];rfl)|(apply u_iteF;rfl;exact rfl)|(apply u_ev;rfl;simp only[sbe];rfl)|(apply u_call;rfl;rfl;(·first|exact h10|exact h11|exact h11b|exact fKn_k bs);rfl;simp only[sbe];rfl)|(apply u_and;rfl)|(apply u_jump;rfl;rfl)|refine at_jump ?_|(refine over_jump (by decide) ?_)|refine kj rfl ?_|exact u_ret rfl rfl|(apply u_ret;rfl;first|exact rfl|(refine retB ?_)|(refine retI ?_)|(refine retD ?_))|(intro hz;(try simp only[sbs] at hz)))
       simp
     ·have hq:(!((a.length:Int)==(b.length:Int)))=true:=by simp;omega
      repeat' (first|(apply nrm;simp only[sbe];rfl)|(apply u_iteT;rfl;exact hq)|(apply u_iteF;rfl;exact rfl)|(apply u_mm;rfl;rfl;exact hmm;simp only[sbe];rfl)|(apply u_lenL;rfl;exact lenL_map;simp only[sbe];rfl)|(apply u_sub;rfl;rfl;omega;simp only[sbe];rfl)|(apply u_ev;rfl;simp only[sbe];rfl)|refine u_join ?_|(apply u_jump;rfl;rfl)|refine at_jump ?_|(refine over_jump (by decide) ?_)|refine kj rfl ?_)
      refine u_range (fun i=>[I (dnw (diffE a b) (min a.length b.length) ((min a.length b.length:Nat):Int) i),I (dni (((min a.length b.length:Nat):Int)-1) i)]) (fun _=>True) (min a.length b.length) rfl (fun _=>rfl) trivial (fun i hi _ R2 hR2=>?_) (fun _ R2=>?_)
      ·have hix:dni (((min a.length b.length:Nat):Int)-1) i=((min a.length b.length-1-i:Nat):Int):=by rw[dni_eq];omega
       have hka:min a.length b.length-1-i<a.length:=by omega
       have hkb:min a.length b.length-1-i<b.length:=by omega
       have hge2:decide (((min a.length b.length-1-i:Nat):Int)≥0)=true:=by simp
       have hne:=neq_at a[min a.length b.length-1-i] b[min a.length b.length-1-i]
       rw[←diffE_at hka hkb] at hne
       have h6:=hR2 trivial
       simp only[dni,dnw,hix] at h6
       simp only[hix]
       cases hP:diffE a b (min a.length b.length-1-i)
       ·rw[hP] at hne h6
        repeat' (first|(apply nrm;simp only[sbe];rfl)|(apply u_iteT;rfl;exact hge2)|(apply u_eaddr;rfl;rfl;(·first|exact eaddr_get hka rfl|exact eaddr_get hkb rfl);simp only[sbe];rfl)|(apply u_bin;rfl;rfl;exact hne;simp only[sbe];rfl)|(apply u_sub;rfl;rfl;omega;simp only[sbe];rfl)|(apply u_ev;rfl;simp only[sbe];rfl)|refine u_join ?_|(apply u_jump;rfl;rfl)|refine at_jump ?_|refine kj rfl ?_|(apply u_phi;rfl;(·intro hz;rfl);(·intro hz;rfl);rfl;(·simp only[sbe,List.zipWith_cons_cons,List.zipWith_nil_left,selD];rfl)))
        exact h6
       ·rw[hP] at hne h6
        repeat' (first|(apply nrm;simp only[sbe];rfl)|(apply u_iteT;rfl;exact hge2)|(apply u_eaddr;rfl;rfl;(·first|exact eaddr_get hka rfl|exact eaddr_get hkb rfl);simp only[sbe];rfl)|(apply u_bin;rfl;rfl;exact hne;simp only[sbe];rfl)|(apply u_sub;rfl;rfl;omega;simp only[sbe];rfl)|(apply u_ev;rfl;simp only[sbe];rfl)|refine u_join ?_|(apply u_jump;rfl;rfl)|refine at_jump ?_|refine kj rfl ?_|(apply u_phi;rfl;(·intro hz;rfl);(·intro hz;rfl);rfl;(·simp only[sbe,List.zipWith_cons_cons,List.zipWith_nil_left,selD];rfl)))
        exact h6
      ·have hix:dni (((min a.length b.length:Nat):Int)-1) (min a.length b.length)=-1:=by rw[dni_eq];omega
       have hv:dnw (diffE a b) (min a.length b.length) ((min a.length b.length:Nat):Int) (min a.length b.length)=partsR a b:=by
        rw[dnw_eq _ _ _ _ (Nat.le_refl _),dnv_fst1,partsR]
        simp only[he,if_true,if_false]
       simp only[hix,hv]
       repeat' (first|(apply nrm;simp only[sbe];rfl)|(apply u_iteF;rfl;exact rfl)|(apply u_ev;rfl;simp only[sbe];rfl)|(apply u_call;rfl;rfl;(·first|exact h10|exact h11|exact h11b|exact fKn_k bs);rfl;simp only[sbe];rfl)|(apply u_and;rfl)|(apply u_jump;rfl;rfl)|refine at_jump ?_|(refine over_jump (by decide) ?_)|refine kj rfl ?_|exact u_ret rfl rfl|(apply u_ret;rfl;first|exact rfl|(refine retB ?_)|(refine retI ?_)|(refine retD ?_))|(intro hz;(try simp only[sbs] at hz)))
       simp
   ·have hs2':shortB (a.map Prod.fst) 30=false:=by simpa using hs2
    rw[hs2'] at h5
    repeat' (first|(apply nrm;simp only[sbe];rfl)|(apply u_lenL;rfl;exact lenL_map;simp only[sbe];rfl)|(apply u_ev;rfl;simp only[sbe];rfl)|(apply u_call;rfl;rfl;(·first|exact h5|exact fKn_k bs);rfl;simp only[sbe];rfl)|(apply u_jump;rfl;rfl)|refine at_jump ?_|(refine over_jump (by decide) ?_)|refine kj rfl ?_|(apply u_ite;rfl;all_goals (intro hz;(try simp only[sbs] at hz);first|(exact absurd hz (by decide))|(exfalso;omega)|skip))|exact u_ret rfl rfl)

end Go.Am.Ra

/-
  The row of a law fits the program: closed facts.
-/
namespace Go.Proofs.YtdljkokeieeafaaGreatDoor
theorem n0 : (Rows.rallyChainsRow.wf (OpenSpec.ofChange Rows.rallyChainsSpec)) = true := by kernel_rfl
theorem n1 : (laidOutB Tryz.prog) = true := by kernel_rfl
theorem n2 : (mapsRowed Tryz.prog) = true := by kernel_rfl
theorem n3 : (Tryz.f3.params.all (Tryz.prog.readableRec ·)) = true := by kernel_rfl
theorem n4 : (namedTie Tryz.prog Rows.rallyChainsRow.named Rows.rallyChainsSpec.vars) = true := by kernel_rfl
theorem n5 : ((Rows.rallyChainsRow.stops == [])) = true := by kernel_rfl
theorem n6 : ((Tryz.prog.stops == [])) = true := by kernel_rfl
theorem n7 : ((Rows.rallyChainsRow.knobs == [])) = true := by kernel_rfl
theorem n8 : ((Tryz.prog.stopKnobs == [])) = true := by kernel_rfl
theorem n13 : ((Rows.rallyChainsRow.maps == (Tryz.f3.params.toList ++ Rows.rallyChainsSpec.plain.varTypes Tryz.prog).any (Tryz.prog.mapsRec ·))) = true := by kernel_rfl
theorem n14 : ((Rows.rallyChainsRow.ifaces == (Tryz.f3.params.toList ++ Rows.rallyChainsSpec.plain.varTypes Tryz.prog).any (Tryz.prog.ifacesRec ·))) = true := by kernel_rfl
theorem n15 : ((Rows.rallyChainsRow.mapsOut == Tryz.prog.mapsAmong Tryz.f3.resultTypes.toList)) = true := by kernel_rfl
theorem n16 : ((Rows.rallyChainsRow.loops == (Tryz.f3.params.toList ++ Rows.rallyChainsSpec.plain.varTypes Tryz.prog).any (Tryz.prog.loopsFrom ·))) = true := by kernel_rfl
theorem n17 : ((Rows.rallyChainsRow.wideKeys == (Tryz.f3.params.toList ++ Rows.rallyChainsSpec.plain.varTypes Tryz.prog ++ Tryz.f3.resultTypes.toList).any (Tryz.prog.wideKeysFrom ·))) = true := by kernel_rfl
theorem n18 : (Rows.rallyChainsSpec.vars.all (Tryz.prog.varReadable ·)) = true := by kernel_rfl
theorem n19 : (Tryz.f3.resultTypes.all (fun t => Tryz.prog.readableRec t && decide (t < Tryz.prog.types.size))) = true := by kernel_rfl
theorem n20 : ((Rows.rallyChainsRow.ifacesOut == Tryz.f3.resultTypes.toList.any (Tryz.prog.ifacesRec ·))) = true := by kernel_rfl
theorem n21 : ((Rows.rallyChainsRow.loopsOut == Tryz.f3.resultTypes.toList.any (Tryz.prog.loopsFrom ·))) = true := by kernel_rfl
theorem n23 : (Rows.rallyChainsRow.shortTexts.isNone) = true := by kernel_rfl
theorem n24 : (Tryz.prog.stopsHeard) = true := by kernel_rfl
theorem n25 : (Tryz.prog.mayEnter) = true := by kernel_rfl
theorem n26 : ((Rows.rallyChainsRow.lifted == Tryz.prog.liftsFinal)) = true := by kernel_rfl
theorem n27 : ((Tryz.prog.make == some Rows.rallyChainsRow.make)) = true := by kernel_rfl
theorem n28 : ((Rows.rallyChainsRow.kinds == (if Rows.rallyChainsRow.domain.isEmpty then [] else Tryz.f3.params.toList.map fun t => match Tryz.prog.underlying t with | some (.int k) => some k | _ => none))) = true := by kernel_rfl
theorem n29 : ((Rows.rallyChainsRow.pinned == Rows.rallyChainsRow.pinnedBy)) = true := by kernel_rfl
theorem n30 : ((Rows.rallyChainsRow.veiled == (Tryz.f3.params.toList ++ Rows.rallyChainsSpec.plain.varTypes Tryz.prog ++ Tryz.f3.resultTypes.toList).any (Tryz.prog.veiledRec ·))) = true := by kernel_rfl
theorem n31 : (Rows.rallyChainsRow.veiledFits Tryz.prog Tryz.f3.params.toList (Tryz.f3.params.toList ++ Rows.rallyChainsSpec.plain.varTypes Tryz.prog ++ Tryz.f3.resultTypes.toList)) = true := by kernel_rfl
theorem n_named : Tryz.pinned.checked.prog.funcNamed Rows.rallyChainsRow.func = some 3 := by kernel_rfl
theorem n_inst : Tryz.f3.isInstance Tryz.pinned.checked.prog Rows.rallyChainsRow.origin Rows.rallyChainsRow.targs := of_decide_eq_true (by kernel_rfl)
end Go.Proofs.YtdljkokeieeafaaGreatDoor

/-
  The row of a law fits the program: closed facts.
-/
namespace Go.Proofs.YtdljkokeieeafaaGreatDoor
theorem n9 : ((Rows.rallyChainsRow.inPlace == Tryz.prog.inPlace 3)) = true := by kernel_rfl
end Go.Proofs.YtdljkokeieeafaaGreatDoor

/-
  The row of a law fits the program: closed facts.
-/
namespace Go.Proofs.YtdljkokeieeafaaGreatDoor
theorem n10 : ((Rows.rallyChainsRow.unfollowed == Tryz.prog.unfollowed 3)) = true := by kernel_rfl
theorem n11 : ((Rows.rallyChainsRow.recurses == Tryz.prog.recurses 3)) = true := by kernel_rfl
end Go.Proofs.YtdljkokeieeafaaGreatDoor

/-
  The row of a law fits the program: closed facts.
-/
namespace Go.Proofs.YtdljkokeieeafaaGreatDoor
theorem n12 : ((Rows.rallyChainsRow.named == Tryz.prog.varsNamed 3)) = true := by kernel_rfl
theorem n22 : ((Rows.rallyChainsRow.plainKeys == Tryz.prog.plainKeys)) = true := by kernel_rfl
end Go.Proofs.YtdljkokeieeafaaGreatDoor

/-
  The row of a law fits the program: closed facts.
-/
namespace Go.Proofs.YtdljkokeieeafaaGreatDoor
theorem andI {a b : Bool} (h : a = true) (k : b = true) : (a && b) = true := by rw [h, k]; rfl
set_option maxRecDepth 100000 in
theorem fits : joinedFacts Tryz.pinned.checked.prog 3 Tryz.f3 Rows.rallyChainsSpec Rows.rallyChainsRow = true := by
  show joinedFacts Tryz.prog 3 Tryz.f3 Rows.rallyChainsSpec Rows.rallyChainsRow = true
  unfold joinedFacts
  exact (andI (andI (andI (andI (andI (andI (andI (andI (andI (andI (andI (andI (andI (andI (andI (andI (andI (andI (andI (andI (andI (andI (andI (andI (andI (andI (andI (andI (andI (andI (andI n0 n1) n2) n3) n4) n5) n6) n7) n8) n9) n10) n11) n12) n13) n14) n15) n16) n17) n18) n19) n20) n21) n22) n23) n24) n25) n26) n27) n28) n29) n30) n31)
end Go.Proofs.YtdljkokeieeafaaGreatDoor
