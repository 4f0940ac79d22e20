/-
  Several texts, one behind the other.
-/
import Derived.Test.YtgebemgmpfpjbaaWrE9toWrR5
import Derived.Test.YtgebemgmpfpjbaaAmApp
import Derived.Test.YtgebemgmpfpjbaaWrU1toWrE1
set_option linter.unusedSimpArgs false
set_option linter.unusedVariables false
/-
 The specification's log.
-/
namespace Go.Am.Wr
open Go.Proofs
set_option maxRecDepth 100000
set_option maxHeartbeats 4000000

attribute [local irreducible] inR

def posR (r:Rep):List Rep→Nat
 | []=>0
 | x :: xs=>if before x r=true then posR r xs+1 else 0

theorem posR_le (r:Rep):∀o:List Rep,posR r o≤o.length
 | []=>Nat.le_refl _
 | x :: xs=>by
  have:=posR_le r xs
  unfold posR
  split <;> simp <;> omega

theorem posR_lt (r:Rep):∀{o:List Rep} {k:Nat} (h:k<posR r o),before (o[k]'(Nat.lt_of_lt_of_le h (posR_le r o))) r=true
 | [],k,h=>absurd h (Nat.not_lt_zero _)
 | x :: xs,k,h=>by
  unfold posR at h
  split at h
  ·rename_i hb
   cases k with
   | zero=>exact hb
   | succ k=>exact posR_lt r (o:=xs) (by omega)
  ·omega

theorem posR_at (r:Rep):∀{o:List Rep} (h:posR r o<o.length),before o[posR r o] r=false
 | [],h=>absurd h (Nat.not_lt_zero _)
 | x :: xs,h=>by
  by_cases hb:before x r=true
  ·have e:posR r (x :: xs)=posR r xs+1:=by rw[posR,if_pos hb]
   have hl:posR r xs<xs.length:=by rw[e] at h;simpa using h
   simp only[e,List.getElem_cons_succ]
   exact posR_at r hl
  ·have e:posR r (x :: xs)=0:=by rw[posR,if_neg hb]
   simp only[e,List.getElem_cons_zero]
   simpa using hb

theorem ins_same (r:Rep):∀{o:List Rep} (h:posR r o<o.length),key o[posR r o]=key r→ins r o=o.set (posR r o) (setA o[posR r o] (min o[posR r o].arrived r.arrived))
 | [],h,_=>absurd h (Nat.not_lt_zero _)
 | x :: xs,h,hk=>by
  by_cases hb:before x r=true
  ·have e:posR r (x :: xs)=posR r xs+1:=by rw[posR,if_pos hb]
   have hl:posR r xs<xs.length:=by rw[e] at h;simpa using h
   simp only[e,List.getElem_cons_succ] at hk ⊢
   rw[ins,if_pos hb,List.set_cons_succ,ins_same r hl hk]
  ·have e:posR r (x :: xs)=0:=by rw[posR,if_neg hb]
   simp only[e,List.getElem_cons_zero] at hk ⊢
   rw[ins,if_neg hb,if_pos hk,List.set_cons_zero]

theorem ins_new (r:Rep):∀{o:List Rep},(∀h:posR r o<o.length,key o[posR r o]≠key r)→ins r o=o.take (posR r o)++[r]++o.drop (posR r o)
 | [],_=>rfl
 | x :: xs,hk=>by
  by_cases hb:before x r=true
  ·have e:posR r (x :: xs)=posR r xs+1:=by rw[posR,if_pos hb]
   rw[ins,if_pos hb,e,List.take_succ_cons,List.drop_succ_cons]
   rw[ins_new r (o:=xs) fun h=>by
    have:=hk (by rw[e];simpa using h)
    simpa only[e,List.getElem_cons_succ] using this]
   rfl
  ·have e:posR r (x :: xs)=0:=by rw[posR,if_neg hb]
   have:=hk (by rw[e];simp)
   simp only[e,List.getElem_cons_zero] at this
   rw[ins,if_neg hb,if_neg this,e]
   rfl

theorem ins_len (r:Rep):∀o:List Rep,(ins r o).length≤o.length+1
 | []=>by simp[ins]
 | x :: xs=>by
  have:=ins_len r xs
  unfold ins
  split
  ·simp;omega
  ·split <;> simp

theorem log_lenN (l:List Rep):(logR l).length≤l.length:=by
 have h:∀(l o:List Rep),(l.foldl (fun o r=>ins r o) o).length≤o.length+l.length:=by
  intro l
  induction l with
  | nil=>intro o;simp
  | cons r l ih=>
   intro o
   have h1:=ih (ins r o)
   have h2:=ins_len r o
   simp only[List.foldl_cons,List.length_cons]
   omega
 simpa[logR] using h l []

theorem rcs_one (r:Rep):r.cs.all (·.one)=true:=rfl

theorem e_sub {env:List D}{n:Nat}{x y z:E}{dx dy dz d:D}(hx:x.eval env=some dx)(hy:y.eval env=some dy)(hz:z.eval env=some dz)(h:D.sub n dx dy dz=some d):(E.sub n x y z).eval env=some d:=by simp only[E.eval,hx,hy,hz,Option.bind_some,h]
theorem e_lenL {env:List D}{x:E}{dx d:D}(hx:x.eval env=some dx)(h:D.lenL dx=some d):(E.lenL x).eval env=some d:=by simp only[E.eval,hx,Option.bind_some,h]

def StepA (o:List Rep)(r:Rep)(s:D)(bs:List D)(s':D)(bs':List D):Prop:=∃(b:Nat) (h:posR r o<o.length),key o[posR r o]=key r∧s=.sl b 0 o.length∧s'=s∧bs'=bs.set b (.blk 45 7 ((o.set (posR r o) (setA o[posR r o] (min o[posR r o].arrived r.arrived))).flatMap Rep.cs))
def StepB (o:List Rep)(r:Rep)(s:D)(bs:List D)(s':D)(bs':List D):Prop:=(∀h:posR r o<o.length,key o[posR r o]≠key r)∧∃y1 b1 s1 b2 s2 y3,D.sub 7 s (I 0) (In (posR r o))=some y1∧D.apph 45 7 56 (.st bs) .snil y1=some (.st b1)∧D.apps (.st bs) .snil y1=some s1 ∧
 D.apph 45 7 56 (.st b1) s1 (.lst [r.d])=some (.st b2)∧D.apps (.st b1) s1 (.lst [r.d])=some s2∧D.sub 7 s (In (posR r o)) (In o.length)=some y3∧D.apph 45 7 56 (.st b2) s2 y3=some (.st bs')∧D.apps (.st b2) s2 y3=some s'

theorem step_ex {o:List Rep}{s:D}{bs:List D}(hs:SlOf bs 45 7 Rep.cs s o)(hL:o.length≤1000000)(r:Rep):∃s' bs',(StepA o r s bs s' bs'∨StepB o r s bs s' bs')∧SlOf bs' 45 7 Rep.cs s' (ins r o):=by
 by_cases hk:∃h:posR r o<o.length,key o[posR r o]=key r
 ·obtain⟨h,hk⟩:=hk
  rcases hs with⟨rfl,_⟩ | ⟨b,rfl,hb⟩
  ·exact absurd h (Nat.not_lt_zero _)
  ·refine⟨_,_,.inl ⟨b,h,hk,rfl,rfl,rfl⟩,.inr ⟨b,?_,?_⟩⟩
   ·rw[ins_same r h hk,List.length_set]
   ·rw[ins_same r h hk,List.getElem?_set_self (List.getElem?_eq_some_iff.1 hb).1]
 ·have hk':∀h:posR r o<o.length,key o[posR r o]≠key r:=fun h e=>hk ⟨h,e⟩
  have hp:=posR_le r o
  obtain⟨y1,q1,q2⟩:=hs.part (fun _=>rfl) (by omega) (lo:=0) (hi:=posR r o) (by omega) hp
  obtain⟨y3,q3,q4⟩:=hs.part (fun _=>rfl) (by omega) (lo:=posR r o) (hi:=o.length) hp (Nat.le_refl _)
  have e1:(o.drop 0).take (posR r o-0)=o.take (posR r o):=by simp
  have e3:(o.drop (posR r o)).take (o.length-posR r o)=o.drop (posR r o):=by rw[←List.length_drop,List.take_length]
  rw[e1] at q2
  rw[e3] at q4
  have hlt:(o.take (posR r o)).length=posR r o:=by rw[List.length_take];omega
  obtain⟨b1,s1,a1,p1,w1,l1,k1,n1⟩:=SlOf.app (e:=45) (sz:=7) (enc:=Rep.cs) (bs:=bs) (s:=.snil) (xs:=[]) (.inl ⟨rfl,rfl⟩) (fun _=>rfl) (bytes:=56) (q2 bs fun _ _=>rfl) rcs_one (by rw[hlt];simp;omega) (by rw[hlt];simp[maxLen];omega)
  obtain⟨b2,s2,a2,p2,w2,l2,k2,n2⟩:=w1.app (fun _=>rfl) (bytes:=56) (y:=.lst [r.d]) (ys:=[r]) (AsOf.lst (sz:=7) (enc:=Rep.cs) (d:=Rep.d) (fun _=>rfl) (fun _=>rfl) [r]) rcs_one (by simp[hlt];omega) (by simp[hlt,maxLen];omega)
  have hold:∀b,s.sid=some b→b2[b]? = bs[b]?:=fun b hb=>by
   have hbl:b<bs.length:=by
    rcases hs with⟨_,rfl⟩ | ⟨i,rfl,hi⟩
    ·cases hb
    ·cases hb
     exact(List.getElem?_eq_some_iff.1 hi).1
   rw[k2 b (by omega) (fun e=>by rcases n1 b e with h | h <;> first | omega | cases h),k1 b hbl (by simp[D.sid])]
  obtain⟨b3,s3,a3,p3,w3,_⟩:=w2.app (fun _=>rfl) (bytes:=56) (q4 b2 hold) rcs_one (by simp;omega) (by simp[maxLen];omega)
  refine⟨s3,b3,.inr ⟨hk',y1,b1,s1,b2,s2,y3,q1,a1,p1,a2,p2,q3,a3,p3⟩,?_⟩
  rw[ins_new r hk']
  exact w3

theorem c22raw (l:List Rep)(hL:l.length≤1000000):∃s bs',FSpecW Try.prog 22 (.st []) [.lst (l.map Rep.d)] s (.st bs')∧SlOf bs' 45 7 Rep.cs s (logR l):=by
 obtain⟨g,hg0,hgI,hgR⟩:=seqOf (N:=l.length) (s0:=[D.snil]) (J:=fun k st=>SlOf st.tail 45 7 Rep.cs (st.headD .snil) (logR (l.take k))) (R:=fun k st st'=>∀hk:k<l.length,StepA (logR (l.take k)) l[k] (st.headD .snil) st.tail (st'.headD .snil) st'.tail∨StepB (logR (l.take k)) l[k] (st.headD .snil) st.tail (st'.headD .snil) st'.tail) (.inl ⟨by simp[logR],rfl⟩) (fun k st hk hJ=>by
  have hle:=log_lenN (l.take k)
  rw[List.length_take] at hle
  obtain⟨s',bs',h1,h2⟩:=step_ex hJ (by omega) l[k]
  refine⟨s' :: bs',fun _=>h1,?_⟩
  rw[List.take_succ_eq_append_getElem hk,log_snoc]
  exact h2)
 have hend:=hgI _ (Nat.le_refl l.length)
 rw[List.take_length] at hend
 refine⟨_,_,?_,hend⟩
 refine ku22.W rfl ?_
 unfold u22
 simp only[ups_cons,ups_nil,List.cons_append,List.nil_append]
 repeat' ((with_reducible refine u_join ?_))
 refine u_range (fun i=>[(g i).headD .snil,In i,.st (g i).tail]) (fun _=>True) l.length (by rw[hg0];rfl) (fun _=>rfl) trivial (fun i hi _ R hR=>?_) (fun _ R=>?_)
 ·have hli:decide ((i:Int)<(l.length:Int))=true:=by simp;omega
  have hI:=hgI i (by omega)
  have hRr:=hgR i hi hi
  have hol:=log_lenN (l.take i)
  rw[List.length_take] at hol
  have her:D.eaddr 7 (.lst (l.map Rep.d)) (In i)=some (.ptr l[i].cs):=eaddr_get hi rfl
  generalize(g i).headD .snil=s at hI hRr ⊢
  generalize(g i).tail=bs at hI hRr ⊢
  generalize(g (i+1)).headD .snil=s' at hRr hR
  generalize(g (i+1)).tail=bs' at hRr hR
  generalize l[i]=r at hRr her
  generalize logR (l.take i)=o at hI hRr hol
  have hp:=posR_le r o
  have hlen:=hI.len
  repeat' (first|(apply nrm;simp only[sbe];rfl)|(apply u_iteT;rfl;exact hli)|(apply u_lenL;rfl;exact lenL_map;simp only[sbe];rfl)|(apply u_ev;rfl;simp only[sbe];rfl)|refine u_join ?_)
  refine u_range (fun k=>[In k]) (fun _=>True) (posR r o) rfl (fun _=>rfl) trivial (fun k hk _ R' hR'=>?_) (fun _ R'=>?_)
  ·have hko:k<o.length:=by omega
   have hlk:decide ((k:Int)<(o.length:Int))=true:=by simp;omega
   have h61:=c61 (bs:=bs) o[k] r
   rw[posR_lt r hk] at h61
   obtain⟨b,rfl,hb⟩:=hI.get hko
   have hld:D.ld true 7 (.st bs) (.loc b (k*7))=some o[k].d:=ld_el hb (fun _=>rfl) (List.getElem?_eq_getElem hko)
   have hc:(decide ((k:Int)<(o.length:Int))&&true)=true:=by rw[hlk];rfl
   repeat' (first|(apply nrm;simp only[sbe];rfl)|(apply u_iteT;rfl;exact hc)|(apply u_ld;rfl;rfl;exact hld;simp only[sbe];rfl)|(apply u_eaddr;rfl;rfl;(·first|exact eaddr_sl hko|exact her);simp only[sbe];rfl)|(apply u_lenL;rfl;exact hlen;simp only[sbe];rfl)|(apply u_inc;rfl;omega;simp only[sbe];rfl)|(apply u_ev;rfl;simp only[sbe];rfl)|(apply u_call;rfl;rfl;exact h61;rfl;simp only[sbe];rfl)|(apply u_and;rfl)|refine u_join ?_|(apply u_jump;rfl;rfl)|refine at_jump ?_|refine kj rfl ?_|exact u_ret rfl rfl|(intro hz;(try simp only[sbs] at hz)))
   exact hR' trivial
  ·rcases hRr with⟨b,h,hk,rfl,rfl,rfl⟩ | ⟨hk,y1,b1,s1,b2,s2,y3,q1,a1,p1,a2,p2,q3,a3,p3⟩
   ·have hlk:decide ((posR r o:Int)<(o.length:Int))=true:=by simp;omega
    have h61:=c61 (bs:=bs) o[posR r o] r
    rw[posR_at r h] at h61
    have h62:=c62 (bs:=bs) o[posR r o] r
    rw[decide_eq_true hk] at h62
    obtain⟨b',hb',hb⟩:=hI.get h
    cases hb'
    have hx:=List.getElem?_eq_getElem h
    have hld:D.ld true 7 (.st bs) (.loc b (posR r o*7))=some o[posR r o].d:=ld_el hb (fun _=>rfl) hx
    have hla:D.ld false 1 (.st bs) (.loc b (posR r o*7+6))=some (I o[posR r o].arrived):=ld_elc hb (fun _=>rfl) hx rfl
    have hmm:D.mm false (I o[posR r o].arrived) (I r.arrived)=some (I (min o[posR r o].arrived r.arrived)):=mm_min _ _
    have hst:=sto_el (o:=6) (x':=setA o[posR r o] (min o[posR r o].arrived r.arrived)) (d:=I (min o[posR r o].arrived r.arrived)) hb (fun _=>rfl) hx (by omega) rfl rfl
    have hc1:(decide ((posR r o:Int)<(o.length:Int))&&false)=false:=by simp
    have hc2:(decide ((posR r o:Int)<(o.length:Int))&&true)=true:=by rw[hlk];rfl
    repeat' (first|(apply nrm;simp only[sbe];rfl)|(apply u_iteT;rfl;exact hc2)|(apply u_iteF;rfl;exact hc1)|(apply u_chk;rfl)|(apply u_ld;rfl;rfl;(·first|exact hld|exact hla);simp only[sbe];rfl)|(apply u_eaddr;rfl;rfl;(·first|exact eaddr_sl h|exact her);simp only[sbe];rfl)|(apply u_lenL;rfl;exact hlen;simp only[sbe];rfl)|(apply u_sto;rfl;rfl;rfl;exact hst;simp only[sbe];rfl)|(apply u_mm;rfl;rfl;exact hmm;simp only[sbe];rfl)|(apply u_inc;rfl;omega;simp only[sbe];rfl)|(apply u_ev;rfl;simp only[sbe];rfl)|(apply u_call;rfl;rfl;(·first|exact h61|exact h62);rfl;simp only[sbe];rfl)|(apply u_and;rfl)|(apply u_jump;rfl;rfl)|refine at_jump ?_|(refine over_jump (by decide) ?_)|refine kj rfl ?_|exact u_ret rfl rfl|(intro hz;(try simp only[sbs] at hz)))
    exact hR trivial
   ·have hss:D.same (.agg (List.take 7 r.cs)) (.agg (List.take 7 r.cs))=true:=by simp[Rep.cs,D.same,D.sames,Value.same]
    by_cases h:posR r o<o.length
    ·have hlk:decide ((posR r o:Int)<(o.length:Int))=true:=by simp;omega
     have h61:=c61 (bs:=bs) o[posR r o] r
     rw[posR_at r h] at h61
     have h62:=c62 (bs:=bs) o[posR r o] r
     rw[decide_eq_false (hk h)] at h62
     obtain⟨b,rfl,hb⟩:=hI.get h
     have hx:=List.getElem?_eq_getElem h
     have hld:D.ld true 7 (.st bs) (.loc b (posR r o*7))=some o[posR r o].d:=ld_el hb (fun _=>rfl) hx
     have hc1:(decide ((posR r o:Int)<(o.length:Int))&&false)=false:=by simp
     repeat' (first|(apply nrm;simp only[sbe];rfl)|(apply u_iteF;rfl;exact hc1)|(apply u_same;exact e_ld' rfl rfl rfl;exact e_ld' rfl rfl rfl;exact hss;simp only[sbe];rfl)|(apply u_ld;rfl;rfl;exact hld;simp only[sbe];rfl)|(apply u_eaddr;rfl;rfl;(·first|exact eaddr_sl h|exact her);simp only[sbe];rfl)|(apply u_lenL;rfl;exact hlen;simp only[sbe];rfl)|(apply u_subl;rfl;rfl;rfl;exact q1;simp only[sbe];rfl)|(apply u_inc;rfl;omega;simp only[sbe];rfl)|(apply u_ev;(·first|exact e_sub rfl rfl (e_lenL rfl hlen) q3|exact e_apph rfl rfl rfl a1|exact e_apph rfl (ev_apps rfl rfl rfl p1) rfl a2|exact e_apph rfl (ev_apps rfl (ev_apps rfl rfl rfl p1) rfl p2) rfl a3);simp only[sbe];rfl)|(apply u_ev;rfl;simp only[sbe];rfl)|(apply u_call;rfl;rfl;(·first|exact h61|exact h62);rfl;simp only[sbe];rfl)|(apply u_and;rfl)|(apply u_jump;rfl;(·exact evC (ev_apps rfl (ev_apps rfl (ev_apps rfl rfl rfl p1) rfl p2) rfl p3) (evC rfl rfl)))|(apply u_jump;rfl;rfl)|refine at_jump ?_|(refine over_jump (by decide) ?_)|refine kj rfl ?_|exact u_ret rfl rfl|(intro hz;(try simp only[sbs] at hz)))
     exact hR trivial
    ·have hc1:decide ((posR r o:Int)<(o.length:Int))=false:=by simp;omega
     repeat' (first|(apply nrm;simp only[sbe];rfl)|(apply u_andF;rfl;exact hc1)|(apply u_same;exact e_ld' rfl rfl rfl;exact e_ld' rfl rfl rfl;exact hss;simp only[sbe];rfl)|(apply u_eaddr;rfl;rfl;exact her;simp only[sbe];rfl)|(apply u_lenL;rfl;exact hlen;simp only[sbe];rfl)|(apply u_subl;rfl;rfl;rfl;exact q1;simp only[sbe];rfl)|(apply u_inc;rfl;omega;simp only[sbe];rfl)|(apply u_ev;(·first|exact e_sub rfl rfl (e_lenL rfl hlen) q3|exact e_apph rfl rfl rfl a1|exact e_apph rfl (ev_apps rfl rfl rfl p1) rfl a2|exact e_apph rfl (ev_apps rfl (ev_apps rfl rfl rfl p1) rfl p2) rfl a3);simp only[sbe];rfl)|(apply u_ev;rfl;simp only[sbe];rfl)|(apply u_jump;rfl;(·exact evC (ev_apps rfl (ev_apps rfl (ev_apps rfl rfl rfl p1) rfl p2) rfl p3) (evC rfl rfl)))|(apply u_jump;rfl;rfl)|refine at_jump ?_|(refine over_jump (by decide) ?_)|refine kj rfl ?_|(apply u_ite;rfl;all_goals (intro hz;(try simp only[sbs] at hz);first|(exact absurd hz (by decide))|(exfalso;omega)|skip)))
     exact hR trivial
 ·have hli:decide ((l.length:Int)<(l.length:Int))=false:=by simp
  repeat' (first|(apply nrm;simp only[sbe];rfl)|(apply u_iteF;rfl;exact hli)|(apply u_lenL;rfl;exact lenL_map;simp only[sbe];rfl)|(apply u_ev;rfl;simp only[sbe];rfl)|(apply u_jump;rfl;rfl)|refine at_jump ?_|(refine over_jump (by decide) ?_)|refine kj rfl ?_|exact u_ret rfl rfl)

theorem c22 {l:List Rep}{bs:List D}(hL:l.length≤1000000):FSpecR Try.prog 22 (.st bs) [.lst (l.map Rep.d)] (.lst ((logR l).map Rep.d)):=by
 obtain⟨s,b1,h1,hs⟩:=c22raw l hL
 have n1:=noid_reps l
 have n2:=noid_reps (logR l)
 have key:∃b2,FSpecW Try.prog 22 (.st []) [.lst (l.map Rep.d)] (.lst ((logR l).map Rep.d)) (.st b2):=by
  rcases hs with⟨h2,rfl⟩ | ⟨b,rfl,hb⟩
  ·rw[h2]
   exact⟨b1,FSpecW.frzNil h1⟩
  ·exact⟨_,FSpecW.frz (sz:=7) h1 hb (by rw[flat_length (enc:=Rep.cs) (sz:=7) (fun _=>rfl)]) (es:=(logR l).map Rep.d) (by simp) (fun i x hx=>by
    rw[List.getElem?_map] at hx
    obtain⟨r,hr,rfl⟩:=Option.map_eq_some_iff.1 hx
    refine⟨rfl,fun q c hc=>?_⟩
    obtain⟨t,ht⟩:=flat_drop (enc:=Rep.cs) (sz:=7) (fun _=>rfl) hr
    have hc':r.cs[q]? = some c:=hc
    rw[←List.getElem?_drop,ht,List.getElem?_append_left (List.getElem?_eq_some_iff.1 hc').1]
    exact hc')⟩
 obtain⟨b2,h2⟩:=key
 exact FSpecWO.localize h2 (by simp only[noids,n1,Bool.and_self]) n2 bs

end Go.Am.Wr

/-
 The laws of what is known,of quarrels,of stretches.
-/
namespace Go.Am.Wr
open Go.Proofs
set_option maxRecDepth 100000
set_option maxHeartbeats 4000000

attribute [local irreducible] inR

variable {bs:List D} {n j:Nat} {x:Pla}

theorem Lg.wok (h:Lg bs j x.f x.s x.l n)(hl:x.l.length≤25):WOk n x.f x.s (logR x.l) where
 fok:=h.fok
 pl:=h.pl
 cars:=h.cars
 ord:=ord_log _
 right r hr:=h.right r ((mem_log r).1 hr).1
 len:=by
  have h1:=log_len (rs:=x.l) rfl
  have h2:=fold_len x.l []
  simp at h2
  omega

theorem ev2W {env:List D}{x0 x1:E}{d0 d1:D}(a:x0.eval env=some d0)(b:x1.eval env=some d1)(h0:d0.noid=true)(h1:d1.noid=true):evalAll env [E.m4 .noids x0 .nil .nil .nil,E.m4 .noids x1 .nil .nil .nil]=some [d0,d1]:=evNc a h0 (evNc b h1 evN0)

theorem quL_len {ss:List Src}{least:List Int}{W:List Rep}(L R:List Nat):(quL ss least W L R).length≤L.length*R.length:=by
 unfold quL
 induction L with
 | nil=>simp
 | cons i L ih=>
  rw[List.flatMap_cons,List.length_append,List.length_map,List.length_cons,Nat.succ_mul]
  have:=List.length_filter_le (quH ss least W i) R
  omega

end Go.Am.Wr

/-
 The law of narrowing.
-/
namespace Go.Am.Wr
open Go.Proofs
set_option maxRecDepth 100000
set_option maxHeartbeats 4000000

attribute [local irreducible] inR

variable {bs:List D} {n j:Nat} {x:Pla}

theorem ea_knN {f:Fld}{ss:List Src}{l:List Rep}{p:Nat}(h:p<n):D.eaddr 6 (.lst ((knR ss f.least n l).map Kn.d)) (In p)=some (.ptr (knAt ss f.least n l p).cs):=by
 have:=ea_kn (f:=f) (ss:=ss) (n:=n) (l:=l) (place:=(p:Int)) (by omega)
 rwa [Int.toNat_natCast] at this

theorem fresh_of {W:List Rep}{r:Rep}(hk:r.kind=1)(h:∀i (hi:i<W.length),(W[i].source==r.source&&(W[i].number==r.number||W[i].kind==4))=false):Fresh W r where
 kind:=hk
 num x hx hs:=by
  obtain⟨i,hi,rfl⟩:=List.mem_iff_getElem.1 hx
  have:=h i hi
  rw[hs] at this
  simp at this
  exact this

theorem narrower {f:Fld}{ss:List Src}{W:List Rep}{r:Rep}(ho:Ord W)(hl:Low W)(hF:Fresh W r)(hB:∀y,y∈W→y.number≤1000000000)(t car:Int)(p:Nat) :
  (decide ((knAt ss f.least n (ofCar (ins r W) t car) p).low<(knAt ss f.least n (ofCar W t car) p).low)||decide ((knAt ss f.least n (ofCar (ins r W) t car) p).high > (knAt ss f.least n (ofCar W t car) p).high)||((knAt ss f.least n (ofCar W t car) p).passed&&!(knAt ss f.least n (ofCar (ins r W) t car) p).passed))=false:=by
 have hsub:=car_ins ho hl hF hB t car
 have h1:=lowF_mono (least:=f.least) (fun q=>low0_mono (ss:=ss) hsub q) p
 have h2:=highF_mono (least:=f.least) (fun q=>high0_mono (ss:=ss) hsub q) (n-1) (n-1-p)
 have h3:=passed_mono hsub p
 unfold knAt
 simp only[Bool.or_eq_false_iff,decide_eq_false_iff_not,Bool.and_eq_false_iff,Bool.not_eq_false']
 refine⟨⟨by omega,by omega⟩,?_⟩
 cases hp:passedB (ofCar W t car) p
 ·exact .inl rfl
 ·exact .inr (h3 hp)

theorem c10 (hx:x.Ok)(r:Rep)(car m l:Int):∃h',FSpecWO Try.prog 10 (.st []) [x.d,r.d,I car,I m,I l] (.ret (B true)) h':=by
 have h27:=c27 (bs:=[]) hx.places
 have hn:=noid_pla x
 cases hf:fineB x
 ·rw[hf] at h27
  obtain⟨b1,h17,_⟩:=knownOK (bs:=[]) rfl
  refine⟨.st b1,ku10.W rfl ?_⟩
  unfold u10
  simp only[ups_cons,ups_nil,List.cons_append,List.nil_append]
  repeat' (first|(apply nrm;simp only[sbe];rfl)|(apply u_orT;rfl;exact rfl)|(apply u_iteT;rfl;exact rfl)|(apply u_chk;rfl)|(apply u_ev;rfl;simp only[sbe];rfl)|(apply u_call;rfl;exact evN1 rfl hn;exact h27;rfl;simp only[sbe];rfl)|(apply u_wcall;rfl;rfl;exact h17;rfl;simp only[sbe];rfl)|exact u_ret rfl rfl)
 ·rw[hf] at h27
  obtain⟨b1,j,h28,L1,g1,_⟩:=c28 hf (bs:=[]) rfl
  have hpl:=L1.pl
  have hnl:=L1.fok.lo
  have hnh:=L1.fok.hi
  have hsl:=L1.srcs
  have h40:=c40 (bs:=[]) (f:=x.f) (ss:=x.s) (by omega) (by omega) r
  cases hc:(!true||!rightB x.f x.s r||r.kind != 1||decide (car<1)||decide (car > x.f.cars)||decide (m<0)||decide (l<m)||decide (l > 1000000000000))
  ·obtain⟨⟨⟨⟨⟨⟨q1,q2⟩,q3⟩,q4⟩,q5⟩,q6⟩,q7⟩:((((((rightB x.f x.s r=true∧r.kind=1)∧1≤car)∧car≤x.f.cars)∧0≤m)∧m≤l)∧l≤1000000000000):=by simpa using hc
   have hm:=chk_of (car:=car) (t:=m) hpl hnl (by omega)
   have hlt:=chk_of (car:=car) (t:=l) hpl hnl (by omega)
   obtain⟨b2,h29,g2⟩:=c29 L1 hm
   have L2:=L1.keep g2
   obtain⟨b3,h29',g3⟩:=c29 L2 hlt
   have L3:=L2.keep g3
   have hl:=(fit_of (by unfold fineB at hf;simp only[Bool.and_eq_true] at hf;exact hf.1.1)).l
   have hW:=L1.wok hl
   have h22:=c22 (bs:=[]) (l:=x.l) (by omega)
   have h32:=c32W (bs:=[]) hW 1000000000000
   have hnx:=noid_reps x.l
   obtain⟨N,hN⟩:∃N,N=x.f.places.toNat:=⟨_,rfl⟩
   rw[←hN] at hpl hnl hnh h29 h29' hW
   have hkl:∀L,(knR x.s x.f.least N L).length=N:=fun L=>by simp[knR]
   have hlog:logR (x.l++[r])=ins r (logR x.l):=log_snoc x.l r
   have hlen:((x.l++[r]).foldl put []).length≤5000:=by
    have:=fold_len (x.l++[r]) []
    simp at this ⊢
    omega
   obtain⟨b4,h21,L4,g4⟩:=addL L3 (l:=[r]) (by simp) (fun y hy=>by rw[List.mem_singleton] at hy;rw[hy];exact q1) hlen
   obtain⟨b5,h29'',g5⟩:=c29 L4 hm
   obtain⟨b6,h17,_⟩:=knownOK (L4.keep g5).ny
   obtain⟨b7,h17',_⟩:=knownOK L3.ny
   rw[hlog,←hN] at h29''
   have hord:=hW.ord
   have hlow:=hW.low
   have hWl:=hW.len
   have hM:∀y,y∈logR x.l→y.arrived≤1000000000000:=fun y hy=>(right_bd (hW.right y hy)).2.2.1.2
   have hB:∀y,y∈logR x.l→y.number≤1000000000:=fun y hy=>(right_bd (hW.right y hy)).2.1.2
   obtain⟨W,hWW⟩:∃W,W=logR x.l:=⟨_,rfl⟩
   rw[←hWW] at h22 h29 h29' h29'' h32 hord hlow hM hB hWl
   obtain⟨A,hA⟩:∃A,A=idxP W 1000000000000:=⟨_,rfl⟩
   have hcl1:((0:Int) != 0||(0:Int) != 0||(((knR x.s x.f.least N (ofCar W m car)).length:Nat):Int) != x.f.places||(((knR x.s x.f.least N (ofCar W l car)).length:Nat):Int) != x.f.places)=false:=by
    rw[hkl,hkl,hpl];simp
   have hcl2:((0:Int) != 0||(((knR x.s x.f.least N (ofCar (ins r W) m car)).length:Nat):Int) != x.f.places)=false:=by
    rw[hkl,hpl];simp
   have hall:A.length=W.length→∀y,y∈W→pB W 1000000000000 y=true:=fun e y hy=>by
    obtain⟨i,hi,rfl⟩:=List.mem_iff_getElem.1 hy
    rw[hA] at e
    unfold idxP at e
    have h2:(List.range W.length).filter (fun i=>pB W 1000000000000 (rAt W i))=List.range W.length:=List.filter_eq_self.2 (List.length_filter_eq_length_iff.1 (by rw[e,List.length_range]))
    have h3:=List.filter_eq_self.1 h2 i (by simpa using hi)
    rwa [rAt_get hi] at h3
   have hstay:A.length=W.length→∀p,(passedB (ofCar W m car) p&&!passedB (ofCar W l car) p)=false:=fun e p=>by
    cases h1:passedB (ofCar W m car) p
    ·rfl
    ·rw[later_passed hord hlow q6 hM (hall e) p h1];rfl
   rw[←hA] at h32
   obtain⟨N1,hN1⟩:∃N1,N1=if A.length=W.length then N else 0:=⟨_,rfl⟩
   by_cases hex:∀i (hi:i<W.length),(W[i].source==r.source&&(W[i].number==r.number||W[i].kind==4))=false
   ·have hF:=fresh_of q2 hex
    refine⟨.st b6,ku10.W rfl ?_⟩
    unfold u10
    simp only[ups_cons,ups_nil,List.cons_append,List.nil_append]
    repeat' (first|(apply nrm;simp only[sbe];rfl)|(apply u_iteF;rfl;(·first|exact hc|exact rfl|exact hcl1))|(apply u_chk;rfl)|(apply u_lenL;rfl;exact lenL_map;simp only[sbe];rfl)|(apply u_ev;rfl;simp only[sbe];rfl)|(apply u_call;rfl;(·first|exact evN1 rfl hn|exact evN3 rfl rfl rfl (noid_fld x.f) (noid_srcs x.s) (noid_rep r)|exact evN1 rfl hnx|exact ev2W rfl rfl (noid_reps _) rfl);(·first|exact h27|exact h40|exact h22|exact h32);rfl;simp only[sbe];rfl)|(apply u_wcall;rfl;rfl;(·first|exact h28|exact h29|exact h29');rfl;simp only[sbe];rfl)|(apply u_or;rfl)|refine u_join ?_|exact u_ret rfl rfl|(intro hz;(try simp only[sbs] at hz)))
    refine u_range (fun i=>[In i]) (fun _=>True) N1 rfl (fun _=>rfl) trivial (fun p hp _ R hR=>?_) (fun _ R=>?_)
    ·have hAl:A.length=W.length:=by
      rw[hN1] at hp
      split at hp
      ·assumption
      ·omega
     have hpN:p<N:=by rw[hN1,if_pos hAl] at hp;exact hp
     have hcp:(decide ((p:Int)<x.f.places)&&(A.length:Int)==(W.length:Int))=true:=by rw[hAl,hpl];simp;omega
     have hst:((knAt x.s x.f.least N (ofCar W m car) p).passed&&!(knAt x.s x.f.least N (ofCar W l car) p).passed)=false:=hstay hAl p
     repeat' (first|(apply nrm;simp only[sbe];rfl)|(apply u_iteT;rfl;exact hcp)|(apply u_iteF;rfl;exact hst)|(apply u_chk;rfl)|(apply u_eaddr;rfl;rfl;exact ea_knN hpN;simp only[sbe];rfl)|(apply u_lenL;rfl;exact lenL_map;simp only[sbe];rfl)|(apply u_inc;rfl;omega;simp only[sbe];rfl)|(apply u_ev;rfl;simp only[sbe];rfl)|(apply u_and;rfl)|refine u_join ?_|(apply u_jump;rfl;rfl)|refine at_jump ?_|refine kj rfl ?_|exact u_ret rfl rfl|(intro hz;(try simp only[sbs] at hz)))
     exact hR trivial
    ·have hcp:(decide ((N1:Int)<x.f.places)&&(A.length:Int)==(W.length:Int))=false:=by
      rw[hN1,hpl]
      split
      ·simp
      ·rename_i hne
       have:((A.length:Int)==(W.length:Int))=false:=by simp;omega
       rw[this,Bool.and_false]
     repeat' (first|(apply nrm;simp only[sbe];rfl)|(apply u_iteF;rfl;exact hcp)|(apply u_lenL;rfl;exact lenL_map;simp only[sbe];rfl)|(apply u_ev;rfl;simp only[sbe];rfl)|(apply u_and;rfl)|refine u_join ?_|(apply u_jump;rfl;rfl)|refine at_jump ?_|(refine over_jump (by decide) ?_)|refine kj rfl ?_|exact u_ret rfl rfl|(intro hz;(try simp only[sbs] at hz)))
     refine u_range (fun i=>[In i]) (fun i=>∀k (hk:k<W.length),k<i→(W[k].source==r.source&&(W[k].number==r.number||W[k].kind==4))=false) W.length rfl (fun _=>rfl) (fun k hk h=>absurd h (Nat.not_lt_zero _)) (fun i hi hJ R hR=>?_) (fun hJ R=>?_)
     ·have hli:decide ((i:Int)<(W.length:Int))=true:=by simp;omega
      have hei:D.eaddr 7 (.lst (W.map Rep.d)) (In i)=some (.ptr W[i].cs):=eaddr_get hi rfl
      have hci:=hex i hi
      repeat' (first|(apply nrm;simp only[sbe];rfl)|(apply u_iteT;rfl;exact hli)|(apply u_iteF;rfl;exact hci)|(apply u_chk;rfl)|(apply u_eaddr;rfl;rfl;exact hei;simp only[sbe];rfl)|(apply u_lenL;rfl;exact lenL_map;simp only[sbe];rfl)|(apply u_inc;rfl;omega;simp only[sbe];rfl)|(apply u_ev;rfl;simp only[sbe];rfl)|(apply u_or;rfl)|(apply u_and;rfl)|refine u_join ?_|(apply u_jump;rfl;rfl)|refine at_jump ?_|refine kj rfl ?_|exact u_ret rfl rfl|(intro hz;(try simp only[sbs] at hz)))
      exact hR fun k hk hki=>hex k hk
     ·have hli:decide ((W.length:Int)<(W.length:Int))=false:=by simp
      repeat' (first|(apply nrm;simp only[sbe];rfl)|(apply u_iteF;rfl;(·first|exact hli|exact rfl|exact hcl2))|(apply u_chk;rfl)|(apply u_lenL;rfl;exact lenL_map;simp only[sbe];rfl)|(apply u_ev;rfl;simp only[sbe];rfl)|(apply u_wcall;rfl;rfl;(·first|exact h21|exact h29'');rfl;simp only[sbe];rfl)|(apply u_or;rfl)|refine u_join ?_|(apply u_jump;rfl;rfl)|refine at_jump ?_|(refine over_jump (by decide) ?_)|refine kj rfl ?_|exact u_ret rfl rfl|(intro hz;(try simp only[sbs] at hz)))
      refine u_range (fun i=>[In i]) (fun _=>True) N rfl (fun _=>rfl) trivial (fun p hp _ R hR=>?_) (fun _ R=>?_)
      ·have hpp:decide ((p:Int)<x.f.places)=true:=by rw[hpl];simp;omega
       have hnar:=narrower (n:=N) (f:=x.f) (ss:=x.s) hord hlow hF hB m car p
       repeat' (first|(apply nrm;simp only[sbe];rfl)|(apply u_iteT;rfl;exact hpp)|(apply u_iteF;rfl;exact hnar)|(apply u_chk;rfl)|(apply u_eaddr;rfl;rfl;exact ea_knN hp;simp only[sbe];rfl)|(apply u_inc;rfl;omega;simp only[sbe];rfl)|(apply u_ev;rfl;simp only[sbe];rfl)|(apply u_or;rfl)|(apply u_and;rfl)|refine u_join ?_|(apply u_jump;rfl;rfl)|refine at_jump ?_|refine kj rfl ?_|exact u_ret rfl rfl|(intro hz;(try simp only[sbs] at hz)))
       exact hR trivial
      ·have hpp:decide ((N:Int)<x.f.places)=false:=by rw[hpl];simp
       repeat' (first|(apply nrm;simp only[sbe];rfl)|(apply u_iteF;rfl;exact hpp)|(apply u_ev;rfl;simp only[sbe];rfl)|(apply u_wcall;rfl;rfl;exact h17;rfl;simp only[sbe];rfl)|(apply u_jump;rfl;rfl)|refine at_jump ?_|(refine over_jump (by decide) ?_)|refine kj rfl ?_|exact u_ret rfl rfl)
   ·refine⟨.st b7,ku10.W rfl ?_⟩
    unfold u10
    simp only[ups_cons,ups_nil,List.cons_append,List.nil_append]
    repeat' (first|(apply nrm;simp only[sbe];rfl)|(apply u_iteF;rfl;(·first|exact hc|exact rfl|exact hcl1))|(apply u_chk;rfl)|(apply u_lenL;rfl;exact lenL_map;simp only[sbe];rfl)|(apply u_ev;rfl;simp only[sbe];rfl)|(apply u_call;rfl;(·first|exact evN1 rfl hn|exact evN3 rfl rfl rfl (noid_fld x.f) (noid_srcs x.s) (noid_rep r)|exact evN1 rfl hnx|exact ev2W rfl rfl (noid_reps _) rfl);(·first|exact h27|exact h40|exact h22|exact h32);rfl;simp only[sbe];rfl)|(apply u_wcall;rfl;rfl;(·first|exact h28|exact h29|exact h29');rfl;simp only[sbe];rfl)|(apply u_or;rfl)|refine u_join ?_|exact u_ret rfl rfl|(intro hz;(try simp only[sbs] at hz)))
    refine u_range (fun i=>[In i]) (fun _=>True) N1 rfl (fun _=>rfl) trivial (fun p hp _ R hR=>?_) (fun _ R=>?_)
    ·have hAl:A.length=W.length:=by
      rw[hN1] at hp
      split at hp
      ·assumption
      ·omega
     have hpN:p<N:=by rw[hN1,if_pos hAl] at hp;exact hp
     have hcp:(decide ((p:Int)<x.f.places)&&(A.length:Int)==(W.length:Int))=true:=by rw[hAl,hpl];simp;omega
     have hst:((knAt x.s x.f.least N (ofCar W m car) p).passed&&!(knAt x.s x.f.least N (ofCar W l car) p).passed)=false:=hstay hAl p
     repeat' (first|(apply nrm;simp only[sbe];rfl)|(apply u_iteT;rfl;exact hcp)|(apply u_iteF;rfl;exact hst)|(apply u_chk;rfl)|(apply u_eaddr;rfl;rfl;exact ea_knN hpN;simp only[sbe];rfl)|(apply u_lenL;rfl;exact lenL_map;simp only[sbe];rfl)|(apply u_inc;rfl;omega;simp only[sbe];rfl)|(apply u_ev;rfl;simp only[sbe];rfl)|(apply u_and;rfl)|refine u_join ?_|(apply u_jump;rfl;rfl)|refine at_jump ?_|refine kj rfl ?_|exact u_ret rfl rfl|(intro hz;(try simp only[sbs] at hz)))
     exact hR trivial
    ·have hcp:(decide ((N1:Int)<x.f.places)&&(A.length:Int)==(W.length:Int))=false:=by
      rw[hN1,hpl]
      split
      ·simp
      ·rename_i hne
       have:((A.length:Int)==(W.length:Int))=false:=by simp;omega
       rw[this,Bool.and_false]
     repeat' (first|(apply nrm;simp only[sbe];rfl)|(apply u_iteF;rfl;exact hcp)|(apply u_lenL;rfl;exact lenL_map;simp only[sbe];rfl)|(apply u_ev;rfl;simp only[sbe];rfl)|(apply u_and;rfl)|refine u_join ?_|(apply u_jump;rfl;rfl)|refine at_jump ?_|(refine over_jump (by decide) ?_)|refine kj rfl ?_|exact u_ret rfl rfl|(intro hz;(try simp only[sbs] at hz)))
     refine u_range (fun i=>[In i]) (fun i=>∀k (hk:k<W.length),k<i→(W[k].source==r.source&&(W[k].number==r.number||W[k].kind==4))=false) W.length rfl (fun _=>rfl) (fun k hk h=>absurd h (Nat.not_lt_zero _)) (fun i hi hJ R hR=>?_) (fun hJ R=>?_)
     ·have hli:decide ((i:Int)<(W.length:Int))=true:=by simp;omega
      have hei:D.eaddr 7 (.lst (W.map Rep.d)) (In i)=some (.ptr W[i].cs):=eaddr_get hi rfl
      cases hci:(W[i].source==r.source&&(W[i].number==r.number||W[i].kind==4))
      ·repeat' (first|(apply nrm;simp only[sbe];rfl)|(apply u_iteT;rfl;exact hli)|(apply u_iteF;rfl;exact hci)|(apply u_chk;rfl)|(apply u_eaddr;rfl;rfl;exact hei;simp only[sbe];rfl)|(apply u_lenL;rfl;exact lenL_map;simp only[sbe];rfl)|(apply u_inc;rfl;omega;simp only[sbe];rfl)|(apply u_ev;rfl;simp only[sbe];rfl)|(apply u_or;rfl)|(apply u_and;rfl)|refine u_join ?_|(apply u_jump;rfl;rfl)|refine at_jump ?_|refine kj rfl ?_|exact u_ret rfl rfl|(intro hz;(try simp only[sbs] at hz)))
       refine hR fun k hk hki=>?_
       rcases Nat.lt_or_ge k i with h3 | h3
       ·exact hJ k hk h3
       ·have e:k=i:=by omega
        subst e
        exact hci
      ·repeat' (first|(apply nrm;simp only[sbe];rfl)|(apply u_iteT;rfl;(·first|exact hli|exact hci))|(apply u_chk;rfl)|(apply u_eaddr;rfl;rfl;exact hei;simp only[sbe];rfl)|(apply u_lenL;rfl;exact lenL_map;simp only[sbe];rfl)|(apply u_ev;rfl;simp only[sbe];rfl)|(apply u_wcall;rfl;rfl;exact h17';rfl;simp only[sbe];rfl)|(apply u_or;rfl)|(apply u_and;rfl)|refine u_join ?_|exact u_ret rfl rfl|(apply u_ret;rfl;first|exact rfl|(refine retB ?_)|(refine retI ?_)|(refine retD ?_))|(intro hz;(try simp only[sbs] at hz)))
     ·exact absurd (fun i hi=>hJ i hi hi) hex
  ·obtain⟨b3,h17,_⟩:=knownOK (bs:=[]) rfl
   refine⟨.st b3,ku10.W rfl ?_⟩
   unfold u10
   simp only[ups_cons,ups_nil,List.cons_append,List.nil_append]
   repeat' (first|(apply nrm;simp only[sbe];rfl)|(apply u_iteT;rfl;exact hc)|(apply u_chk;rfl)|(apply u_ev;rfl;simp only[sbe];rfl)|(apply u_call;rfl;(·first|exact evN1 rfl hn|exact evN3 rfl rfl rfl (noid_fld x.f) (noid_srcs x.s) (noid_rep r));(·first|exact h27|exact h40);rfl;simp only[sbe];rfl)|(apply u_wcall;rfl;rfl;exact h17;rfl;simp only[sbe];rfl)|(apply u_or;rfl)|exact u_ret rfl rfl|(intro hz;(try simp only[sbs] at hz)))

end Go.Am.Wr

/-
 Arguments of laws.
-/
namespace Go.Am.Wr

theorem argInt {x:D}(h:ArgSh (.int .i64) x):∃n,x=I n∧i64 n:=by
 obtain⟨n,hn,hb⟩:=ofI (h.2 rfl)
 cases hn
 exact⟨n,rfl,hb⟩

def IsOk (l:List Int):Prop:=(∀x,x∈l→i64 x)∧l.length≤maxLen

theorem argInts {x:D}(h:ArgSh (.sl (.int .i64)) x):∃l:List Int,x=Is l∧IsOk l:=by
 obtain⟨xs,hx,h1,h2⟩:=ofSl (h.2 rfl)
 cases hx
 exact⟨xs,rfl,h1,h2⟩

theorem argRep {x:D}(h:ArgSh shRep x):∃r:Rep,x=r.d∧r.Ok:=by
 obtain⟨cs,rfl,hh⟩:=h.1 rfl
 exact ofRep hh

theorem argPla {x:D}(h:ArgSh shPla x):∃p:Pla,x=p.d∧p.Ok:=by
 obtain⟨cs,rfl,hh⟩:=h.1 rfl
 exact ofPla hh

end Go.Am.Wr

/-
 The law of other logs,as a text.
-/
namespace Go.Am.Wr
open Go.Proofs
def wcd (ro:Bool)(dats more:List Nat)(frzs:List (Nat×Nat))(fn:Func):StCfg:={ wcf ro more frzs fn with dats:=dats }

noncomputable def u12:U:=(ups [.chk (.aggN 5 y0),
 .chk (.aggN 5 y1),
 .call 27 (.const (.st [])) [(.m4 .noids (agc 5 y0) .nil .nil .nil)] [true],
 .ev (.un .not y3),
 .chain true y4 (ups [.call 27 (.const (.st [])) [(.m4 .noids (agc 5 y1) .nil .nil .nil)] [true],
 .ev (.un .not y5)]
 (.ret y6))]
 (.ite y5 (ups [.wcall 17 y2 [] [true]]
 (.ret (.tcons y6 (.tcons y7 .tnil)))) (ups [.wcall 28 y2 [(agc 5 y0)] [true,true],
 .wcall 28 y7 [(agc 5 y1)] [true,true],
 .ev (.un .not (.tget 1 y6)),
 .chain true y10 (ups [.chk (.tget 1 y8),
 .ev (.un .not (.tget 1 y8))]
 (.ret y11))]
 (.ite y11 (.ret (.tcons (kb false) (.tcons y9 .tnil))) (ups [.ev (.bin .eql .int (.cell 0 y0) (.cell 0 y1)),
 .chain false y12 (ups [.chk (.cell 1 y0),
 .chk (.cell 1 y1),
 .ev (.bin .eql .int (.cell 1 y0) (.cell 1 y1))]
 (.ret y13)),
 .chain false y13 (ups [.chk (.cell 2 y0),
 .chk (.cell 2 y1),
 .call 37 (.const (.st [])) [(.m4 .noids (.cell 2 y0) .nil .nil .nil),(.m4 .noids (.cell 2 y1) .nil .nil .nil)] [true]]
 (.ret y14)),
 .chain false y14 (ups [.chk (.cell 3 y0),
 .ev (.lenL (.cell 3 y0)),
 .chk (.cell 3 y1),
 .ev (.lenL (.cell 3 y1)),
 .ev (.bin .eql .int y15 y16)]
 (.ret y17)),
 .join 0 1 (.loop 1 [y15,(ki 0)] (ups [.ev (.lenL (.cell 3 y0)),
 .ev (.bin .lss .int y17 y18),
 .ev (.ite y19 y16 (kb false))]
 (.ite y20 (ups [.join 2 1 (ups [.ev (.eaddr 2 (.cell 3 y0) y17),
 .ev (.ld true 2 y9 y21),
 .ev (.eaddr 2 (.cell 3 y1) y17),
 .ev (.ld true 2 y9 y23),
 .ev (.bin .eql (.agg [0,0]) y22 y24)]
 (.jump 2 [y25] [])),
 .ev (.bin .add .int y17 (ki 1))]
 (.jump 1 [y21,y22] [])) (.jump 0 [y16] [])))),
 .wcall 44 y9 [(.tget 0 y6),(.const (.v (.pointer none)))] [true],
 .ev (.bin .neq .int y17 (ki 1)),
 .ev (.guard y19 false (.tget 0 y6)),
 .ev (.guard y19 false (.cons (.const (.agg [(.v (.int .i64 0)),(.v (.int .i64 0)),(.lst [])])) (.cons (.const (.agg [(.lst [])])) (.cons (.const (.agg [(.v (.map none))])) .nil)))),
 .ev (.guard y19 false (.mkptr (.aggN 5 y21))),
 .gen (.wcall [(y19,false)] 44 y18 [y20,y22] [true]),
 .chain true y19 (ups [.ev (.bin .neq .int (.tget 0 y23) (ki 1))]
 (.ret y24))]
 (.ite y24 (.ret (.tcons (kb false) (.tcons (.tget 1 y23) .tnil))) (ups [.ev (.un .not y16)]
 (.ite y25 (ups [.wcall 44 (.tget 1 y23) [(.tget 0 y6),(.tget 0 y8)] [true],
 .ev (.bin .eql .int y26 (ki 2)),
 .ev (.guard y28 true (.tget 0 y6)),
 .gen (.wcall [(y28,true)] 24 y27 [y29] [true]),
 .chain false y28 (ups [.chk (.cell 4 y0),
 .call 22 (.const (.st [])) [(.m4 .noids (.cell 4 y0) .nil .nil .nil)] [true],
 .call 23 (.const (.st [])) [(.m4 .noids (.tget 0 y30) .nil .nil .nil),(.m4 .noids y31 .nil .nil .nil)] [true]]
 (.ret y32)),
 .gen (.wcall [(y31,true)] 17 (.tget 1 y30) [] [true]),
 .ev (.ite y31 (.tget 0 y32) (kb false))]
 (.ret (.tcons y33 (.tcons (.tget 1 y32) .tnil)))) (ups [.ev (.app 7 56 (.const (.lst [])) (.cell 4 y0)),
 .ev (.app 7 56 y26 (.cell 4 y1)),
 .wcall 44 (.tget 1 y23) [(.tget 0 y6),(.tget 0 y8)] [true],
 .ev (.bin .eql .int y28 (ki 0)),
 .ev (.guard y30 true (.tget 0 y6)),
 .gen (.wcall [(y30,true)] 24 y29 [y31] [true]),
 .chain false y30 (ups [.call 22 (.const (.st [])) [(.m4 .noids y27 .nil .nil .nil)] [true],
 .call 23 (.const (.st [])) [(.m4 .noids (.tget 0 y32) .nil .nil .nil),(.m4 .noids y33 .nil .nil .nil)] [true]]
 (.ret y34)),
 .gen (.wcall [(y33,true)] 17 (.tget 1 y32) [] [true]),
 .ev (.ite y33 (.tget 0 y34) (kb false))]
 (.ret (.tcons y35 (.tcons (.tget 1 y34) .tnil))))))))))))
theorem ku12:UOk Try.prog 12 .plain (wcd false [121] [] [] Try.f12) [false,false] u12:=UOk.plain Try.func12 (by kernel_rfl) (by kernel_rfl)

end Go.Am.Wr

/-
 Merge;the law of other logs.
-/
namespace Go.Am.Wr
open Go.Proofs
set_option maxRecDepth 100000
set_option maxHeartbeats 4000000

attribute [local irreducible] inR

variable {bs:List D} {n n2 j j2:Nat} {f f2:Fld} {ss ss2:List Src} {rs rs2:List Rep} {x y:Pla}

instance:DecidableEq Src:=fun a b=>decidable_of_iff (a.kind=b.kind∧a.error=b.error) ⟨fun h=>by cases a;cases b;simp_all,fun h=>by rw[h];exact⟨rfl,rfl⟩⟩

theorem neq_src (a b:Src):D.bin .neq (.agg [0,0]) a.d b.d=some (B (decide (a≠b))):=by
 obtain⟨a1,a2⟩:=a
 obtain⟨b1,b2⟩:=b
 simp only[Src.d,Src.cs,D.bin,D.eqs,cmpI,Src.mk.injEq,ne_eq]
 by_cases h1:a1=b1 <;> by_cases h2:a2=b2 <;> simp_all
theorem eql_src (a b:Src):D.bin .eql (.agg [0,0]) a.d b.d=some (B (decide (a=b))):=by
 obtain⟨a1,a2⟩:=a
 obtain⟨b1,b2⟩:=b
 simp only[Src.d,Src.cs,D.bin,D.eqs,cmpI,Src.mk.injEq]
 by_cases h1:a1=b1 <;> by_cases h2:a2=b2 <;> simp_all

theorem c76 (a b:List Int)(hL:a.length≤1000000):FSpecR Try.prog 76 (.st bs) [.lst (a.map I),.lst (b.map I)] (B (decide (a=b))):=by
 refine ku76.R rfl rfl ?_
 unfold u76
 simp only[ups_cons,ups_nil,List.cons_append,List.nil_append]
 by_cases hlen:a.length=b.length
 ·have h1:(((a.length:Nat):Int) != ((b.length:Nat):Int))=false:=by simp[hlen]
  repeat' (first|(apply u_iteF;rfl;exact h1)|(apply u_lenL;rfl;exact lenL_map;simp only[sbe];rfl)|(apply u_ev;rfl;simp only[sbe];rfl)|refine u_join ?_)
  refine u_range (fun i=>[In i]) (fun i=>∀k (h:k<i) (h2:k<a.length),a[k]=b[k]'(by omega)) a.length rfl (fun _=>rfl) (fun k h=>absurd h (Nat.not_lt_zero _)) (fun i hi hJ R hR=>?_) (fun hJ R=>?_)
  ·have hli:decide ((i:Int)<((a.length:Nat):Int))=true:=by simp;omega
   have hib:i<b.length:=by omega
   have hn:=neq_int a[i] b[i]
   by_cases he:a[i]=b[i]
   ·have hne:decide (a[i]≠b[i])=false:=by simp[he]
    repeat' (first|(apply nrm;simp only[sbe];rfl)|(apply u_iteT;rfl;exact hli)|(apply u_iteF;rfl;exact hne)|(apply u_eaddr;rfl;rfl;(·first|exact eaddr_get hi rfl|exact eaddr_get hib rfl);simp only[sbe];rfl)|(apply u_bin;rfl;rfl;exact hn;simp only[sbe];rfl)|(apply u_inc;rfl;omega;simp only[sbe];rfl)|(apply u_ev;rfl;simp only[sbe];rfl)|refine u_join ?_|(apply u_jump;rfl;rfl)|refine at_jump ?_|refine kj rfl ?_)
    refine hR fun k hk h2=>?_
    rcases Nat.lt_or_ge k i with h3 | h3
    ·exact hJ k h3 h2
    ·have e:k=i:=by omega
     subst e
     exact he
   ·have hne:decide (a[i]≠b[i])=true:=by simp[he]
    repeat' (first|(apply nrm;simp only[sbe];rfl)|(apply u_iteT;rfl;(·first|exact hli|exact hne))|(apply u_eaddr;rfl;rfl;(·first|exact eaddr_get hi rfl|exact eaddr_get hib rfl);simp only[sbe];rfl)|(apply u_bin;rfl;rfl;exact hn;simp only[sbe];rfl)|(apply u_ev;rfl;simp only[sbe];rfl)|refine u_join ?_|(apply u_ret;rfl;first|exact rfl|(refine retB ?_)|(refine retI ?_)|(refine retD ?_)))
    rw[decide_eq_false]
    rintro rfl
    exact he rfl
  ·have hli:decide (((a.length:Nat):Int)<((a.length:Nat):Int))=false:=by simp
   repeat' (first|(apply nrm;simp only[sbe];rfl)|(apply u_iteF;rfl;exact hli)|(apply u_ev;rfl;simp only[sbe];rfl)|(apply u_jump;rfl;rfl)|refine at_jump ?_|(refine over_jump (by decide) ?_)|refine kj rfl ?_|(apply u_ret;rfl;first|exact rfl|(refine retB ?_)|(refine retI ?_)|(refine retD ?_)))
   rw[decide_eq_true]
   exact List.ext_getElem hlen fun k h1 h2=>hJ k h1 h1
 ·have h1:(((a.length:Nat):Int) != ((b.length:Nat):Int))=true:=by simp;omega
  repeat' (first|(apply u_iteT;rfl;exact h1)|(apply u_lenL;rfl;exact lenL_map;simp only[sbe];rfl)|(apply u_ev;rfl;simp only[sbe];rfl)|(apply u_ret;rfl;first|exact rfl|(refine retB ?_)|(refine retI ?_)|(refine retD ?_)))
  rw[decide_eq_false]
  rintro rfl
  exact hlen rfl

theorem c77 (a b:List Src)(hL:a.length≤1000000):FSpecR Try.prog 77 (.st bs) [.lst (a.map Src.d),.lst (b.map Src.d)] (B (decide (a=b))):=by
 refine ku77.R rfl rfl ?_
 unfold u77
 simp only[ups_cons,ups_nil,List.cons_append,List.nil_append]
 by_cases hlen:a.length=b.length
 ·have h1:(((a.length:Nat):Int) != ((b.length:Nat):Int))=false:=by simp[hlen]
  repeat' (first|(apply u_iteF;rfl;exact h1)|(apply u_lenL;rfl;exact lenL_map;simp only[sbe];rfl)|(apply u_ev;rfl;simp only[sbe];rfl)|refine u_join ?_)
  refine u_range (fun i=>[In i]) (fun i=>∀k (h:k<i) (h2:k<a.length),a[k]=b[k]'(by omega)) a.length rfl (fun _=>rfl) (fun k h=>absurd h (Nat.not_lt_zero _)) (fun i hi hJ R hR=>?_) (fun hJ R=>?_)
  ·have hli:decide ((i:Int)<((a.length:Nat):Int))=true:=by simp;omega
   have hib:i<b.length:=by omega
   have hn:=neq_src a[i] b[i]
   by_cases he:a[i]=b[i]
   ·have hne:decide (a[i]≠b[i])=false:=by simp[he]
    repeat' (first|(apply nrm;simp only[sbe];rfl)|(apply u_iteT;rfl;exact hli)|(apply u_iteF;rfl;exact hne)|(apply u_eaddr;rfl;rfl;(·first|exact eaddr_get hi rfl|exact eaddr_get hib rfl);simp only[sbe];rfl)|(apply u_bin;rfl;rfl;exact hn;simp only[sbe];rfl)|(apply u_inc;rfl;omega;simp only[sbe];rfl)|(apply u_ev;rfl;simp only[sbe];rfl)|refine u_join ?_|(apply u_jump;rfl;rfl)|refine at_jump ?_|refine kj rfl ?_)
    refine hR fun k hk h2=>?_
    rcases Nat.lt_or_ge k i with h3 | h3
    ·exact hJ k h3 h2
    ·have e:k=i:=by omega
     subst e
     exact he
   ·have hne:decide (a[i]≠b[i])=true:=by simp[he]
    repeat' (first|(apply nrm;simp only[sbe];rfl)|(apply u_iteT;rfl;(·first|exact hli|exact hne))|(apply u_eaddr;rfl;rfl;(·first|exact eaddr_get hi rfl|exact eaddr_get hib rfl);simp only[sbe];rfl)|(apply u_bin;rfl;rfl;exact hn;simp only[sbe];rfl)|(apply u_ev;rfl;simp only[sbe];rfl)|refine u_join ?_|(apply u_ret;rfl;first|exact rfl|(refine retB ?_)|(refine retI ?_)|(refine retD ?_)))
    rw[decide_eq_false]
    rintro rfl
    exact he rfl
  ·have hli:decide (((a.length:Nat):Int)<((a.length:Nat):Int))=false:=by simp
   repeat' (first|(apply nrm;simp only[sbe];rfl)|(apply u_iteF;rfl;exact hli)|(apply u_ev;rfl;simp only[sbe];rfl)|(apply u_jump;rfl;rfl)|refine at_jump ?_|(refine over_jump (by decide) ?_)|refine kj rfl ?_|(apply u_ret;rfl;first|exact rfl|(refine retB ?_)|(refine retI ?_)|(refine retD ?_)))
   rw[decide_eq_true]
   exact List.ext_getElem hlen fun k h1 h2=>hJ k h1 h1
 ·have h1:(((a.length:Nat):Int) != ((b.length:Nat):Int))=true:=by simp;omega
  repeat' (first|(apply u_iteT;rfl;exact h1)|(apply u_lenL;rfl;exact lenL_map;simp only[sbe];rfl)|(apply u_ev;rfl;simp only[sbe];rfl)|(apply u_ret;rfl;first|exact rfl|(refine retB ?_)|(refine retI ?_)|(refine retD ?_)))
  rw[decide_eq_false]
  rintro rfl
  exact hlen rfl

theorem c44m {l2:D}(h:Lg bs j f ss rs n)(hl2:l2.one=true)(h2:NotR bs l2):FSpecW Try.prog 44 (.st bs) [.loc j 0,l2] (I 1) (.st bs):=by
 obtain⟨m,hm⟩:=h.log
 refine ku44.W (by simp[argsFit,hl2];rfl) ?_
 unfold u44
 simp only[ups_cons,ups_nil,List.cons_append,List.nil_append]
 repeat' (first|(apply nrm;simp only[sbe];rfl)|(apply u_iteT;rfl;exact rfl)|(apply u_ev;rfl;simp only[sbe];rfl)|(apply u_call;rfl;rfl;(·first|exact c55 hm|exact h2);rfl;simp only[sbe];rfl)|(apply u_or;rfl)|exact u_ret rfl rfl|(intro hz;(try simp only[sbs] at hz)))

theorem merge_bad (h1:Lg bs j f ss rs n)(h2:Lg bs j2 f2 ss2 rs2 n2)(hne:(f.cars != f2.cars||f.places != f2.places||!decide (f.least=f2.least)||!decide (ss=ss2))=true):FSpecW Try.prog 44 (.st bs) [.loc j 0,.loc j2 0] (I 2) (.st bs):=by
 obtain⟨m1,hm1⟩:=h1.log
 obtain⟨m2,hm2⟩:=h2.log
 have hll:=h1.fok.len
 have hlh:=h1.fok.hi
 have hsl:=h1.srcs
 have h76:=c76 (bs:=bs) f.least f2.least (by omega)
 have h77:=c77 (bs:=bs) ss ss2 (by omega)
 refine ku44.W rfl ?_
 unfold u44
 simp only[ups_cons,ups_nil,List.cons_append,List.nil_append]
 repeat' (first|(apply nrm;simp only[sbe];rfl)|(apply u_iteT;rfl;exact hne)|(apply u_iteF;rfl;exact rfl)|(apply u_chk;rfl)|(apply u_ld;rfl;rfl;(·first|exact ld_blk hm1.blk rfl|exact ld_blk hm2.blk rfl);simp only[sbe];rfl)|(apply u_ev;rfl;simp only[sbe];rfl)|(apply u_call;rfl;rfl;(·first|exact c55 hm1|exact c55 hm2|exact h76|exact h77);rfl;simp only[sbe];rfl)|(apply u_or;rfl)|exact u_ret rfl rfl|(intro hz;(try simp only[sbs] at hz)))

theorem Lg.keepX {bs':List D}(h2:Lg bs j2 f2 ss2 rs2 n2)(h1:Lg bs j f ss rs n)(hg:GrowX bs bs' j)(hne:j2≠j):Lg bs' j2 f2 ss2 rs2 n2 where
 log:=by
  obtain⟨m,hm⟩:=h2.log
  obtain⟨m1,hm1⟩:=h1.log
  have hmj:m≠j:=fun e=>by
   have:=hm.map
   rw[e,hm1.blk] at this
   cases this
  exact⟨m,⟨by rw[hg.old _ (List.getElem?_eq_some_iff.1 hm.blk).1 hne];exact hm.blk,by rw[hg.old _ (List.getElem?_eq_some_iff.1 hm.map).1 hmj];exact hm.map⟩⟩
 len:=h2.len
 fok:=h2.fok
 pl:=h2.pl
 cars:=h2.cars
 srcs:=h2.srcs
 right:=h2.right
 ny:=hg.ny h2.ny

theorem GrowX.pre {b0 bs bs':List D}(hg:Grow b0 bs)(h:GrowX bs bs' j)(hj:j<b0.length):GrowX b0 bs' j:=⟨Nat.le_trans hg.le h.le,fun i hi hne=>by rw[h.old i (Nat.lt_of_lt_of_le hi hg.le) hne,hg.old i hi],fun hn=>h.ny (hg.ny hn)⟩

theorem mergeL (h1:Lg bs j f ss rs n)(h2:Lg bs j2 f ss rs2 n)(hlen:((rs++logR rs2).foldl put []).length≤5000):∃bs',FSpecW Try.prog 44 (.st bs) [.loc j 0,.loc j2 0] (I 0) (.st bs')∧Lg bs' j f ss (rs++logR rs2) n∧GrowX bs bs' j:=by
 obtain⟨m1,hm1⟩:=h1.log
 obtain⟨m2,hm2⟩:=h2.log
 have hll:=h1.fok.len
 have hlh:=h1.fok.hi
 have hsl:=h1.srcs
 have h76:=c76 (bs:=bs) f.least f.least (by omega)
 have h77:=c77 (bs:=bs) ss ss (by omega)
 rw[decide_eq_true rfl] at h76 h77
 have hjl:j<bs.length:=(List.getElem?_eq_some_iff.1 hm1.blk).1
 obtain⟨b1,h24,g1⟩:=reportsL h2
 have hL:=h2.logL
 obtain⟨b2,h21,L2,g2⟩:=addL (h1.keep g1) (l:=logR rs2) (by omega) (fun r hr=>h2.right r ((mem_log r).1 hr).1) hlen
 refine⟨b2,?_,L2,GrowX.pre g1 g2 hjl⟩
 have hc:(f.cars != f.cars||f.places != f.places||!true||!true)=false:=by simp
 refine ku44.W rfl ?_
 unfold u44
 simp only[ups_cons,ups_nil,List.cons_append,List.nil_append]
 repeat' (first|(apply nrm;simp only[sbe];rfl)|(apply u_iteF;rfl;(·first|exact rfl|exact hc))|(apply u_chk;rfl)|(apply u_ld;rfl;rfl;(·first|exact ld_blk hm1.blk rfl|exact ld_blk hm2.blk rfl);simp only[sbe];rfl)|(apply u_ev;rfl;simp only[sbe];rfl)|(apply u_call;rfl;rfl;(·first|exact c55 hm1|exact c55 hm2|exact h76|exact h77);rfl;simp only[sbe];rfl)|(apply u_wcall;rfl;rfl;(·first|exact h24|exact h21);rfl;simp only[sbe];rfl)|(apply u_or;rfl)|exact u_ret rfl rfl|(intro hz;(try simp only[sbs] at hz)))

end Go.Am.Wr

/-
 The law of other logs.
-/
namespace Go.Am.Wr
open Go.Proofs
set_option maxRecDepth 100000
set_option maxHeartbeats 4000000

attribute [local irreducible] inR

variable {x y:Pla}

theorem c55q {bs:List D}{a b c d:D}:FSpecR Try.prog 55 (.st bs) [.ptr [a,b,c,d,.v (.map none)]] (B false):=by
 refine ku55.R rfl rfl ?_
 unfold u55
 simp only[ups_cons,ups_nil,List.cons_append,List.nil_append]
 repeat' (first|(apply nrm;simp only[sbe];rfl)|(apply u_chk;rfl)|(apply u_ev;rfl;simp only[sbe];rfl)|(apply u_and;rfl)|exact u_ret rfl rfl|(intro hz;(try simp only[sbs] at hz)))

theorem part_at:∀{a b:List Src},a.length=b.length→a≠b→∃d,∃h1:d<a.length,∃h2:d<b.length,a[d]≠b[d]∧∀k (h:k<d),a[k]=b[k]
 | [],[],_,hne=>absurd rfl hne
 | [],_ :: _,h,_=>by simp at h
 | _ :: _,[],h,_=>by simp at h
 | p :: a,q :: b,h,hne=>by
  by_cases e:p=q
  ·subst e
   obtain⟨d,h1,h2,h3,h4⟩:=part_at (a:=a) (b:=b) (by simpa using h) (fun e=>hne (by rw[e]))
   refine⟨d+1,by simpa using h1,by simpa using h2,by simpa using h3,fun k hk=>?_⟩
   cases k with
   | zero=>rfl
   | succ k=>simpa using h4 k (by omega)
  ·exact⟨0,by simp,by simp,by simpa using e,fun k hk=>absurd hk (Nat.not_lt_zero _)⟩

theorem src_loop {a b:List Src}{e0:Bool}(hl:e0=true→a.length=b.length):∃(N:Nat) (E:Nat→Bool),E 0=e0∧(∀i,i<N→∃h1:i<a.length,∃h2:i<b.length,E i=true∧E (i+1)=decide (a[i]=b[i]))∧(N=a.length∨E N=false)∧E N=(e0&&decide (a=b)):=by
 cases e0
 ·exact⟨0,fun _=>false,rfl,fun i hi=>absurd hi (Nat.not_lt_zero _),.inr rfl,rfl⟩
 ·have hl:=hl rfl
  by_cases he:a=b
  ·subst he
   exact⟨a.length,fun _=>true,rfl,fun i hi=>⟨hi,hi,rfl,by simp⟩,.inl rfl,by simp⟩
  ·obtain⟨d,h1,h2,h3,h4⟩:=part_at hl he
   refine⟨d+1,fun i=>decide (i≤d),by simp,fun i hi=>⟨by omega,by omega,by simp;omega,?_⟩,.inr (by simp),by simp[he]⟩
   by_cases hid:i=d
   ·subst hid
    simp[h3]
   ·simp[h4 i (by omega)]
    omega

theorem c12 (hx:x.Ok)(hy:y.Ok):∃h',FSpecWO Try.prog 12 (.st []) [x.d,y.d] (.ret (B true)) h':=by
 have h27:=c27 (bs:=[]) hx.places
 have h27':=c27 (bs:=[]) hy.places
 have hn:=noid_pla x
 have hm:=noid_pla y
 cases hf:fineB x
 ·rw[hf] at h27
  obtain⟨b1,h17,_⟩:=knownOK (bs:=[]) rfl
  refine⟨.st b1,ku12.W rfl ?_⟩
  unfold u12
  simp only[ups_cons,ups_nil,List.cons_append,List.nil_append]
  repeat' (first|(apply nrm;simp only[sbe];rfl)|(apply u_orT;rfl;exact rfl)|(apply u_iteT;rfl;exact rfl)|(apply u_chk;rfl)|(apply u_ev;rfl;simp only[sbe];rfl)|(apply u_call;rfl;exact evN1 rfl hn;exact h27;rfl;simp only[sbe];rfl)|(apply u_wcall;rfl;rfl;exact h17;rfl;simp only[sbe];rfl)|exact u_ret rfl rfl)
 cases hf':fineB y
 ·rw[hf] at h27
  rw[hf'] at h27'
  obtain⟨b1,h17,_⟩:=knownOK (bs:=[]) rfl
  refine⟨.st b1,ku12.W rfl ?_⟩
  unfold u12
  simp only[ups_cons,ups_nil,List.cons_append,List.nil_append]
  repeat' (first|(apply nrm;simp only[sbe];rfl)|(apply u_iteT;rfl;exact rfl)|(apply u_chk;rfl)|(apply u_ev;rfl;simp only[sbe];rfl)|(apply u_call;rfl;(·first|exact evN1 rfl hn|exact evN1 rfl hm);(·first|exact h27|exact h27');rfl;simp only[sbe];rfl)|(apply u_wcall;rfl;rfl;exact h17;rfl;simp only[sbe];rfl)|(apply u_or;rfl)|exact u_ret rfl rfl|(intro hz;(try simp only[sbs] at hz)))
 ·rw[hf] at h27
  rw[hf'] at h27'
  obtain⟨b1,j,h28,L1,g1,hj0⟩:=c28 hf (bs:=[]) rfl
  obtain⟨b2,j2,h28',L2,g2,hj2⟩:=c28 hf' L1.ny
  have L1':=L1.keep g2
  have hjl:j<b1.length:=by
   obtain⟨m,hm⟩:=L1.log
   exact(List.getElem?_eq_some_iff.1 hm.blk).1
  have hl:=(fit_of (by unfold fineB at hf;simp only[Bool.and_eq_true] at hf;exact hf.1.1)).l
  have hl':=(fit_of (by unfold fineB at hf';simp only[Bool.and_eq_true] at hf';exact hf'.1.1)).l
  have hll:=L1.fok.len
  have hlh:=L1.fok.hi
  have hsl:=L1.srcs
  have h37:=c37 (bs:=[]) x.f.least y.f.least (by omega)
  obtain⟨e0,he0⟩:∃e0,e0=(x.f.cars==y.f.cars&&x.f.places==y.f.places&&decide (x.f.least=y.f.least)&&((x.s.length:Int)==(y.s.length:Int))):=⟨_,rfl⟩
  obtain⟨N,E,hE0,hE1,hE2,hE3⟩:=src_loop (a:=x.s) (b:=y.s) (e0:=e0) (fun h=>by rw[he0] at h;simp at h;omega)
  have h44a:=c44m L1' (l2:=NP) rfl c55n
  have h44b:=c44m L1' (l2:=.ptr [I 0,I 0,.lst [],.lst [],.v (.map none)]) rfl c55q
  have h22:=c22 (bs:=[]) (l:=x.l) (by omega)
  have hnx:=noid_reps x.l
  cases hq:(e0&&decide (x.s=y.s))
  ·have hE3':E N=false:=by rw[hE3,hq]
   have hne:(x.f.cars != y.f.cars||x.f.places != y.f.places||!decide (x.f.least=y.f.least)||!decide (x.s=y.s))=true:=by
    rw[he0] at hq
    by_cases a1:x.f.cars=y.f.cars <;> by_cases a2:x.f.places=y.f.places <;> by_cases a3:x.f.least=y.f.least <;> by_cases a4:x.s=y.s <;> simp_all
   have h44c:=merge_bad L1' L2 hne
   obtain⟨b3,h24,g3⟩:=reportsL L1'
   have hL:=L1'.logL
   have h23:=c23 (bs:=[]) (logR x.l) (logR x.l) (by omega)
   rw[decide_eq_true rfl] at h23
   obtain⟨b4,h17,_⟩:=knownOK (L1'.keep g3).ny
   rw[he0] at hE0
   refine⟨.st b4,?_⟩
   refine ku12.W rfl ?_
   unfold u12
   simp only[ups_cons,ups_nil,List.cons_append,List.nil_append]
   repeat' (first|(apply nrm;simp only[sbe];rfl)|(apply u_iteF;rfl;exact rfl)|(apply u_chk;rfl)|(apply u_lenL;rfl;exact lenL_map;simp only[sbe];rfl)|(apply u_ev;rfl;simp only[sbe];rfl)|(apply u_call;rfl;(·first|exact evN1 rfl hn|exact evN1 rfl hm|exact ev2W rfl rfl (noid_Is _) (noid_Is _));(·first|exact h27|exact h27'|exact h37);rfl;simp only[sbe];rfl)|(apply u_wcall;rfl;rfl;(·first|exact h28|exact h28');rfl;simp only[sbe];rfl)|(apply u_or;rfl)|(apply u_and;rfl)|refine u_join ?_|exact u_ret rfl rfl|(intro hz;(try simp only[sbs] at hz)))
   refine u_range (fun i=>[B (E i),In i]) (fun _=>True) N (by rw[hE0];rfl) (fun _=>rfl) trivial (fun i hi _ R hR=>?_) (fun _ R=>?_)
   ·obtain⟨i1,i2,i3,i4⟩:=hE1 i hi
    have hcn:(bif decide ((i:Int)<(x.s.length:Int)) then E i else false)=true:=by rw[i3];simp;omega
    have he1:D.eaddr 2 (.lst (x.s.map Src.d)) (In i)=some (.ptr x.s[i].cs):=eaddr_get i1 rfl
    have he2:D.eaddr 2 (.lst (y.s.map Src.d)) (In i)=some (.ptr y.s[i].cs):=eaddr_get i2 rfl
    have hq:=eql_src x.s[i] y.s[i]
    rw[i4] at hR
    repeat' (first|(apply nrm;simp only[sbe];rfl)|(apply u_iteT;rfl;exact hcn)|(apply u_eaddr;rfl;rfl;(·first|exact he1|exact he2);simp only[sbe];rfl)|(apply u_bin;rfl;rfl;exact hq;simp only[sbe];rfl)|(apply u_lenL;rfl;exact lenL_map;simp only[sbe];rfl)|(apply u_inc;rfl;omega;simp only[sbe];rfl)|(apply u_sel;rfl;rfl;rfl;(·simp only[sbe,List.zipWith_cons_cons,List.zipWith_nil_left,selD];rfl))|(apply u_ev;rfl;simp only[sbe];rfl)|refine u_join ?_|(apply u_jump;rfl;rfl)|refine at_jump ?_|refine kj rfl ?_)
    exact hR trivial
   ·have hcn:(bif decide ((N:Int)<(x.s.length:Int)) then E N else false)=false:=by
     rcases hE2 with h | h
     ·rw[h];simp
     ·rw[h];simp
    rw[hE3'] at hcn ⊢
    repeat' (first|(apply nrm;simp only[sbe];rfl)|(apply u_genW;rfl;exact rfl;rfl;rfl;(·first|exact h44b|exact h24|exact h17);rfl;simp only[sbe];rfl)|(apply u_iteT;rfl;exact rfl)|(apply u_iteF;rfl;(·first|exact hcn|exact rfl))|(apply u_chk;rfl)|(apply u_lenL;rfl;exact lenL_map;simp only[sbe];rfl)|(apply u_sel;rfl;rfl;rfl;(·simp only[sbe,List.zipWith_cons_cons,List.zipWith_nil_left,selD];rfl))|(apply u_ev;rfl;simp only[sbe];rfl)|(apply u_call;rfl;(·first|exact evN1 rfl hnx|exact ev2W rfl rfl (noid_reps _) (noid_reps _));(·first|exact h22|exact h23);rfl;simp only[sbe];rfl)|(apply u_wcall;rfl;rfl;(·first|exact h44a|exact h44c);rfl;simp only[sbe];rfl)|(apply u_or;rfl)|(apply u_and;rfl)|(apply u_jump;rfl;rfl)|refine at_jump ?_|(refine over_jump (by decide) ?_)|refine kj rfl ?_|exact u_ret rfl rfl|(intro hz;(try simp only[sbs] at hz)))
  ·have hE3':E N=true:=by rw[hE3,hq]
   obtain⟨q1,q2⟩:e0=true∧x.s=y.s:=by simpa using hq
   have hfe:x.f=y.f:=by
    rw[he0] at q1
    simp at q1
    obtain⟨⟨⟨a1,a2⟩,a3⟩,_⟩:=q1
    revert a1 a2 a3
    cases x.f
    cases y.f
    rintro rfl rfl rfl
    rfl
   have L2':=L2
   rw[←hfe,←q2] at L2'
   have h1:=log_lenN y.l
   obtain⟨b3,h44c,L3,g3⟩:=mergeL L1' L2' (by have:=fold_len (x.l++logR y.l) [];simp at this ⊢;omega)
   obtain⟨b4,h24,g4⟩:=reportsL L3
   have hlog:=log_app x.l y.l
   rw[hlog] at h24
   have hL:=log_lenN (x.l++y.l)
   rw[List.length_append] at hL
   have h23:=c23 (bs:=[]) (logR (x.l++y.l)) (logR (x.l++y.l)) (by omega)
   rw[decide_eq_true rfl] at h23
   have h22':=c22 (bs:=[]) (l:=x.l++y.l) (by simp;omega)
   have hnxy:=noid_reps (x.l++y.l)
   obtain⟨b5,h17,_⟩:=knownOK (L3.keep g4).ny
   have ha1:D.app 7 56 (.lst []) (.lst (x.l.map Rep.d))=some (.lst (x.l.map Rep.d)):=app_lst (enc:=Rep.d) (xs:=[]) (ys:=x.l) (by simp;omega) (by simp[maxLen];omega) (fun _=>rfl)
   have ha2:D.app 7 56 (.lst (x.l.map Rep.d)) (.lst (y.l.map Rep.d))=some (.lst ((x.l++y.l).map Rep.d)):=app_lst (enc:=Rep.d) (by omega) (by simp[maxLen];omega) (fun _=>rfl)
   rw[he0] at hE0
   refine⟨.st b5,?_⟩
   refine ku12.W rfl ?_
   unfold u12
   simp only[ups_cons,ups_nil,List.cons_append,List.nil_append]
   repeat' (first|(apply nrm;simp only[sbe];rfl)|(apply u_iteF;rfl;exact rfl)|(apply u_chk;rfl)|(apply u_lenL;rfl;exact lenL_map;simp only[sbe];rfl)|(apply u_ev;rfl;simp only[sbe];rfl)|(apply u_call;rfl;(·first|exact evN1 rfl hn|exact evN1 rfl hm|exact ev2W rfl rfl (noid_Is _) (noid_Is _));(·first|exact h27|exact h27'|exact h37);rfl;simp only[sbe];rfl)|(apply u_wcall;rfl;rfl;(·first|exact h28|exact h28');rfl;simp only[sbe];rfl)|(apply u_or;rfl)|(apply u_and;rfl)|refine u_join ?_|exact u_ret rfl rfl|(intro hz;(try simp only[sbs] at hz)))
   refine u_range (fun i=>[B (E i),In i]) (fun _=>True) N (by rw[hE0];rfl) (fun _=>rfl) trivial (fun i hi _ R hR=>?_) (fun _ R=>?_)
   ·obtain⟨i1,i2,i3,i4⟩:=hE1 i hi
    have hcn:(bif decide ((i:Int)<(x.s.length:Int)) then E i else false)=true:=by rw[i3];simp;omega
    have he1:D.eaddr 2 (.lst (x.s.map Src.d)) (In i)=some (.ptr x.s[i].cs):=eaddr_get i1 rfl
    have he2:D.eaddr 2 (.lst (y.s.map Src.d)) (In i)=some (.ptr y.s[i].cs):=eaddr_get i2 rfl
    have hq:=eql_src x.s[i] y.s[i]
    rw[i4] at hR
    repeat' (first|(apply nrm;simp only[sbe];rfl)|(apply u_iteT;rfl;exact hcn)|(apply u_eaddr;rfl;rfl;(·first|exact he1|exact he2);simp only[sbe];rfl)|(apply u_bin;rfl;rfl;exact hq;simp only[sbe];rfl)|(apply u_lenL;rfl;exact lenL_map;simp only[sbe];rfl)|(apply u_inc;rfl;omega;simp only[sbe];rfl)|(apply u_sel;rfl;rfl;rfl;(·simp only[sbe,List.zipWith_cons_cons,List.zipWith_nil_left,selD];rfl))|(apply u_ev;rfl;simp only[sbe];rfl)|refine u_join ?_|(apply u_jump;rfl;rfl)|refine at_jump ?_|refine kj rfl ?_)
    exact hR trivial
   ·have hcn:(bif decide ((N:Int)<(x.s.length:Int)) then E N else false)=false:=by
     rcases hE2 with h | h
     ·rw[h];simp
     ·rw[h];simp
    rw[hE3'] at hcn ⊢
    repeat' (first|(apply nrm;simp only[sbe];rfl)|(apply u_genW;rfl;exact rfl;rfl;rfl;(·first|exact h44b|exact h24|exact h17);rfl;simp only[sbe];rfl)|(apply u_iteF;rfl;(·first|exact hcn|exact rfl))|(apply u_app;rfl;rfl;(·first|exact ha1|exact ha2);simp only[sbe];rfl)|(apply u_lenL;rfl;exact lenL_map;simp only[sbe];rfl)|(apply u_sel;rfl;rfl;rfl;(·simp only[sbe,List.zipWith_cons_cons,List.zipWith_nil_left,selD];rfl))|(apply u_ev;rfl;simp only[sbe];rfl)|(apply u_call;rfl;(·first|exact evN1 rfl hnxy|exact ev2W rfl rfl (noid_reps _) (noid_reps _));(·first|exact h22'|exact h23);rfl;simp only[sbe];rfl)|(apply u_wcall;rfl;rfl;(·first|exact h44a|exact h44c);rfl;simp only[sbe];rfl)|(apply u_or;rfl)|(apply u_and;rfl)|(apply u_jump;rfl;rfl)|refine at_jump ?_|(refine over_jump (by decide) ?_)|refine kj rfl ?_|exact u_ret rfl rfl|(intro hz;(try simp only[sbs] at hz)))

end Go.Am.Wr

/-
 The law of merging.
-/
namespace Go.Am.Wr
open Go.Proofs
set_option maxRecDepth 100000
set_option maxHeartbeats 4000000

attribute [local irreducible] inR

variable {bs:List D} {n j j2:Nat} {f:Fld} {ss:List Src} {rs rs2:List Rep} {x:Pla}

theorem idxC_sq (W:List Rep)(t car:Int)(h:W.length≤1000):(idxC W t car).length*(idxC W t car).length≤1000000:=by
 have:=idxC_le W t car
 have h2:(idxC W t car).length*(idxC W t car).length≤1000*1000:=Nat.mul_le_mul (by omega) (by omega)
 omega

theorem c45 (h1:Lg bs j f ss rs n)(h2:Lg bs j2 f ss rs2 n)(he:logR rs=logR rs2)(hl:rs.length≤1000){car t:Int}(hb:chkB f car 0 t=true):∃bs',FSpecW Try.prog 45 (.st bs) [.loc j 0,.loc j2 0,f.d,I car,I t] (B true) (.st bs')∧Grow bs bs':=by
 have hpl:=h1.pl
 have hnl:=h1.fok.lo
 have hnh:=h1.fok.hi
 have ht:inR t 0 1000000000000=true:=by
  unfold chkB at hb
  simp only[Bool.and_eq_true] at hb
  exact hb.2.2
 obtain⟨b1,a1,g1⟩:=reportsL h1
 have k2:=h2.keep g1
 have k1:=h1.keep g1
 obtain⟨b2,a2,g2⟩:=reportsL k2
 obtain⟨b3,a3,g3⟩:=c41 (k1.keep g2) ht
 have k1:=(k1.keep g2).keep g3
 have k2:=(k2.keep g2).keep g3
 obtain⟨b4,a4,g4⟩:=c41 k2 ht
 have k1:=k1.keep g4
 have k2:=k2.keep g4
 obtain⟨b5,a5,g5⟩:=c29 k1 hb
 have k1:=k1.keep g5
 have k2:=k2.keep g5
 obtain⟨b6,a6,g6⟩:=c29 k2 hb
 have k1:=k1.keep g6
 have k2:=k2.keep g6
 obtain⟨b7,a7,g7⟩:=c33 k1 hb
 have k1:=k1.keep g7
 have k2:=k2.keep g7
 obtain⟨b8,a8,g8⟩:=c33 k2 hb
 have k1:=k1.keep g8
 have k2:=k2.keep g8
 obtain⟨b9,a9,g9⟩:=c36 k1 (from_:=0) (to:=f.places-1) ht (by omega)
 have k1:=k1.keep g9
 have k2:=k2.keep g9
 obtain⟨b10,a10,g10⟩:=c36 k2 (from_:=0) (to:=f.places-1) ht (by omega)
 rw[←he] at a2 a4 a6 a8 a10
 have hWl:(logR rs).length≤1000:=Nat.le_trans (log_lenN rs) hl
 have hcars:=h1.cars
 have s1:=c23 (bs:=[]) (logR rs) (logR rs) (by omega)
 have hil:=idx_le (logR rs) t
 have s2:=c37 (bs:=[]) ((idxP (logR rs) t).map Int.ofNat) ((idxP (logR rs) t).map Int.ofNat) (by simp;omega)
 have e2:D.lst (((idxP (logR rs) t).map Int.ofNat).map I)=Ix (idxP (logR rs) t):=by rw[List.map_map];rfl
 rw[e2] at s2
 have s3:=c30 (bs:=[]) (knR ss f.least n (ofCar (logR rs) t car)) (knR ss f.least n (ofCar (logR rs) t car)) (by simp[knR];omega)
 have hq:=quL_len (ss:=ss) (least:=f.least) (W:=logR rs) (idxC (logR rs) t car) (idxC (logR rs) t car)
 have hq2:=idxC_sq (logR rs) t car hWl
 have s4:=c34 (bs:=[]) (quL ss f.least (logR rs) (idxC (logR rs) t car) (idxC (logR rs) t car)) (quL ss f.least (logR rs) (idxC (logR rs) t car) (idxC (logR rs) t car)) (by omega)
 have ho:=onL_len (f:=f) (ss:=ss) (n:=n) (W:=logR rs) t 0 (f.places-1) f.cars.toNat
 have s5:=c37 (bs:=[]) (onL f ss n (logR rs) t 0 (f.places-1) f.cars.toNat) (onL f ss n (logR rs) t 0 (f.places-1) f.cars.toNat) (by omega)
 rw[decide_eq_true rfl] at s1 s2 s3 s4 s5
 refine⟨b10,?_,((((g1.trans g2).trans (g3.trans g4)).trans (g5.trans g6)).trans (g7.trans g8)).trans (g9.trans g10)⟩
 refine ku45.W rfl ?_
 unfold u45
 simp only[ups_cons,ups_nil,List.cons_append,List.nil_append]
 repeat' (first|(apply nrm;simp only[sbe];rfl)|(apply u_iteF;rfl;exact rfl)|(apply u_chk;rfl)|(apply u_sub;rfl;rfl;omega;simp only[sbe];rfl)|(apply u_ev;rfl;simp only[sbe];rfl)|(apply u_call;rfl;(·first|exact ev2W rfl rfl (noid_reps _) (noid_reps _)|exact ev2W rfl rfl (noid_Ix _) (noid_Ix _)|exact ev2W rfl rfl (noid_kns _) (noid_kns _)|exact ev2W rfl rfl (noid_qs _) (noid_qs _)|exact ev2W rfl rfl (noid_Is _) (noid_Is _));(·first|exact s1|exact s2|exact s3|exact s4|exact s5);rfl;simp only[sbe];rfl)|(apply u_wcall;rfl;rfl;(·first|exact a1|exact a2|exact a3|exact a4|exact a5|exact a6|exact a7|exact a8|exact a9|exact a10);rfl;simp only[sbe];rfl)|(apply u_or;rfl)|(apply u_and;rfl)|exact u_ret rfl rfl|(intro hz;(try simp only[sbs] at hz)))

def andI (w:Int):Int:=match D.bin .and .int (I w) (I 3) with
 | some (.v (.int .i64 m))=>m
 | _=>0
theorem and_bin (w:Int):D.bin .and .int (I w) (I 3)=some (I (andI w)):=rfl

def pst (p:List Rep×List Rep)(r:Rep)(m:Int):List Rep×List Rep:=if m=0 then(p.1++[r],p.2) else if m=1 then(p.1,p.2++[r]) else(p.1++[r,r],p.2++[r])

def pat (l:List Rep)(w:List Int):Nat→List Rep×List Rep
 | 0=>([],[])
 | d+1=>pst (pat l w d) (rAt l (l.length-1-d)) (andI (w.getD (l.length-1-d) 0))

theorem pat_len (l:List Rep)(w:List Int):∀d,(pat l w d).1.length≤2*d∧(pat l w d).2.length≤d
 | 0=>by simp[pat]
 | d+1=>by
  have:=pat_len l w d
  rw[pat]
  unfold pst
  split
  ·simp;omega
  ·split <;> simp <;> omega

theorem pat_mem (l:List Rep)(w:List Int)(r:Rep):∀d,(r∈(pat l w d).1++(pat l w d).2)↔∃k,k<d∧r=rAt l (l.length-1-k)
 | 0=>by simp[pat]
 | d+1=>by
  have ih:=pat_mem l w r d
  rw[List.mem_append] at ih ⊢
  have hs:(∃k,k<d+1∧r=rAt l (l.length-1-k))↔(∃k,k<d∧r=rAt l (l.length-1-k))∨r=rAt l (l.length-1-d):=by
   constructor
   ·rintro⟨k,h1,h2⟩
    rcases Nat.lt_or_ge k d with h3 | h3
    ·exact .inl ⟨k,h3,h2⟩
    ·have e:k=d:=by omega
     subst e
     exact .inr h2
   ·rintro(⟨k,h1,h2⟩ | h)
    ·exact⟨k,by omega,h2⟩
    ·exact⟨d,by omega,h⟩
  rw[hs,←ih,pat]
  unfold pst
  split
  ·simp only[List.mem_append,List.mem_singleton]
   constructor
   ·rintro((h | h) | h)
    ·exact .inl (.inl h)
    ·exact .inr h
    ·exact .inl (.inr h)
   ·rintro((h | h) | h)
    ·exact .inl (.inl h)
    ·exact .inr h
    ·exact .inl (.inr h)
  ·split
   ·simp only[List.mem_append,List.mem_singleton,or_assoc]
   ·simp only[List.mem_append,List.mem_singleton,List.mem_cons,List.not_mem_nil,or_false,or_self]
    constructor
    ·rintro((h | h) | (h | h))
     ·exact .inl (.inl h)
     ·exact .inr h
     ·exact .inl (.inr h)
     ·exact .inr h
    ·rintro((h | h) | h)
     ·exact .inl (.inl h)
     ·exact .inr (.inl h)
     ·exact .inr (.inr h)

theorem pat_all (l:List Rep)(w:List Int)(r:Rep):(r∈(pat l w l.length).1++(pat l w l.length).2)↔r∈l:=by
 rw[pat_mem]
 constructor
 ·rintro⟨k,h1,rfl⟩
  rw[rAt_get (by omega)]
  exact List.getElem_mem _
 ·intro h
  obtain⟨i,hi,rfl⟩:=List.mem_iff_getElem.1 h
  exact⟨l.length-1-i,by omega,by rw[show l.length-1-(l.length-1-i)=i by omega,rAt_get hi]⟩

theorem log_same {a b:List Rep}(h:∀r,r∈a↔r∈b):logR a=logR b:=log_ext (Cov.of_sub fun x hx=>(h x).1 hx) (Cov.of_sub fun x hx=>(h x).2 hx)

structure L3g (st:List D)(j ja jb:Nat)(f:Fld)(ss:List Src)(n:Nat)(r0:List Rep)(p:List Rep×List Rep):Prop where
 l0:Lg st j f ss r0 n
 la:Lg st ja f ss p.1 n
 lb:Lg st jb f ss p.2 n
 d1:j≠ja
 d2:j≠jb
 d3:ja≠jb

variable {st:List D} {ja jb:Nat} {r0:List Rep} {p:List Rep×List Rep}

theorem L3g.addA (h:L3g st j ja jb f ss n r0 p){l:List Rep}(hl:l.length≤1000)(hr:∀r,r∈l→rightB f ss r=true)(hlen:p.1.length+l.length≤5000):∃st',FSpecW Try.prog 21 (.st st) [.loc ja 0,.lst (l.map Rep.d)] (I 0) (.st st')∧L3g st' j ja jb f ss n r0 (p.1++l,p.2):=by
 obtain⟨st',h1,h2,g⟩:=addL h.la (l:=l) (by omega) hr (by have:=fold_len (p.1++l) [];simp at this ⊢;omega)
 exact⟨st',h1,h.l0.keepX h.la g h.d1,h2,h.lb.keepX h.la g h.d3.symm,h.d1,h.d2,h.d3⟩

theorem L3g.addB (h:L3g st j ja jb f ss n r0 p){l:List Rep}(hl:l.length≤1000)(hr:∀r,r∈l→rightB f ss r=true)(hlen:p.2.length+l.length≤5000):∃st',FSpecW Try.prog 21 (.st st) [.loc jb 0,.lst (l.map Rep.d)] (I 0) (.st st')∧L3g st' j ja jb f ss n r0 (p.1,p.2++l):=by
 obtain⟨st',h1,h2,g⟩:=addL h.lb (l:=l) (by omega) hr (by have:=fold_len (p.2++l) [];simp at this ⊢;omega)
 exact⟨st',h1,h.l0.keepX h.lb g h.d2,h.la.keepX h.lb g h.d3,h2,h.d1,h.d2,h.d3⟩

theorem L3g.keep {st':List D}(h:L3g st j ja jb f ss n r0 p)(g:Grow st st'):L3g st' j ja jb f ss n r0 p:=⟨h.l0.keep g,h.la.keep g,h.lb.keep g,h.d1,h.d2,h.d3⟩

def RndM (ja jb:Nat)(r:Rep)(m:Int)(st st':List D):Prop:=
 (m=0→FSpecW Try.prog 21 (.st st) [.loc ja 0,.lst [r.d]] (I 0) (.st st')) ∧
 (m≠0→m=1→FSpecW Try.prog 21 (.st st) [.loc jb 0,.lst [r.d]] (I 0) (.st st')) ∧
 (m≠0→m≠1→∃st1,FSpecW Try.prog 21 (.st st) [.loc ja 0,.lst [r.d,r.d]] (I 0) (.st st1)∧FSpecW Try.prog 21 (.st st1) [.loc jb 0,.lst [r.d]] (I 0) (.st st'))

theorem rnd_ex (h:L3g st j ja jb f ss n r0 p){r:Rep}(hr:rightB f ss r=true)(h1:p.1.length≤4000)(h2:p.2.length≤4000)(m:Int):∃st',RndM ja jb r m st st'∧L3g st' j ja jb f ss n r0 (pst p r m):=by
 unfold pst RndM
 by_cases m0:m=0
 ·obtain⟨st',a1,a2⟩:=h.addA (l:=[r]) (by simp) (fun y hy=>by rw[List.mem_singleton] at hy;rw[hy];exact hr) (by simp;omega)
  exact⟨st',⟨fun _=>a1,fun h=>absurd m0 h,fun h=>absurd m0 h⟩,by rw[if_pos m0];exact a2⟩
 ·by_cases m1:m=1
  ·obtain⟨st',a1,a2⟩:=h.addB (l:=[r]) (by simp) (fun y hy=>by rw[List.mem_singleton] at hy;rw[hy];exact hr) (by simp;omega)
   exact⟨st',⟨fun h=>absurd h m0,fun _ _=>a1,fun _ h=>absurd m1 h⟩,by rw[if_neg m0,if_pos m1];exact a2⟩
  ·obtain⟨st1,a1,a2⟩:=h.addA (l:=[r,r]) (by simp) (fun y hy=>by simp at hy;rw[hy];exact hr) (by simp;omega)
   obtain⟨st',a3,a4⟩:=a2.addB (l:=[r]) (by simp) (fun y hy=>by rw[List.mem_singleton] at hy;rw[hy];exact hr) (by simp;omega)
   exact⟨st',⟨fun h=>absurd h m0,fun _ h=>absurd h m1,fun _ _=>⟨st1,a1,a3⟩⟩,by rw[if_neg m0,if_neg m1];exact a4⟩

end Go.Am.Wr

/-
 The law of merging: the walk.
-/
namespace Go.Am.Wr
open Go.Proofs
set_option maxRecDepth 100000
set_option maxHeartbeats 4000000

attribute [local irreducible] inR

variable {x:Pla}

theorem c13 (hx:x.Ok){w:List Int}(hw:IsOk w)(car t:Int):∃h',FSpecWO Try.prog 13 (.st []) [x.d,Is w,I car,I t] (.ret (B true)) h':=by
 have h27:=c27 (bs:=[]) hx.places
 have hn:=noid_pla x
 cases hf:fineB x
 ·rw[hf] at h27
  obtain⟨b1,h17,_⟩:=knownOK (bs:=[]) rfl
  refine⟨.st b1,ku13.W rfl ?_⟩
  unfold u13
  simp only[ups_cons,ups_nil,List.cons_append,List.nil_append]
  repeat' (first|(apply nrm;simp only[sbe];rfl)|(apply u_orT;rfl;exact rfl)|(apply u_iteT;rfl;exact rfl)|(apply u_chk;rfl)|(apply u_ev;rfl;simp only[sbe];rfl)|(apply u_call;rfl;exact evN1 rfl hn;exact h27;rfl;simp only[sbe];rfl)|(apply u_wcall;rfl;rfl;exact h17;rfl;simp only[sbe];rfl)|exact u_ret rfl rfl)
 rw[hf] at h27
 cases hc:(!true||decide ((w.length:Int)<(x.l.length:Int))||decide ((w.length:Int) > 40)||decide (car<1)||decide (car > x.f.cars)||decide (t<0)||decide (t > 1000000000000))
 ·obtain⟨⟨⟨⟨⟨q1,q2⟩,q3⟩,q4⟩,q5⟩,q6⟩:((((x.l.length≤w.length∧w.length≤40)∧1≤car)∧car≤x.f.cars)∧0≤t)∧t≤1000000000000:=by
   simp at hc
   omega
  have hfi:fitB x=true∧fielded x.f x.s=true:=by
   unfold fineB at hf
   simp only[Bool.and_eq_true] at hf
   exact hf.1
  obtain⟨b1,j,h28,L1,g1,_⟩:=c28 hf (bs:=[]) rfl
  obtain⟨b2,ja,h18,La,g2,p2⟩:=newL hfi.2 L1.ny
  obtain⟨b3,jb,h18',Lb,g3,p3⟩:=newL hfi.2 La.ny
  have hpl:=L1.pl
  have hnl:=L1.fok.lo
  have hchk:=chk_of (car:=car) (t:=t) hpl hnl (by omega)
  have hl:=(fit_of hfi.1).l
  have hjl:j<b1.length:=by
   obtain⟨m,hm⟩:=L1.log
   exact(List.getElem?_eq_some_iff.1 hm.blk).1
  have hal:ja<b2.length:=by
   obtain⟨m,hm⟩:=La.log
   exact(List.getElem?_eq_some_iff.1 hm.blk).1
  have hright:∀r,r∈x.l→rightB x.f x.s r=true:=L1.right
  have hG0:L3g b3 j ja jb x.f x.s x.f.places.toNat x.l (pat x.l w 0):=⟨(L1.keep g2).keep g3,La.keep g3,Lb,by omega,by omega,by omega⟩
  obtain⟨g,hg0,hgI,hgR⟩:=seqOf (N:=x.l.length) (s0:=b3) (J:=fun d st=>L3g st j ja jb x.f x.s x.f.places.toNat x.l (pat x.l w d)) (R:=fun d st st'=>RndM ja jb (rAt x.l (x.l.length-1-d)) (andI (w.getD (x.l.length-1-d) 0)) st st') hG0 (fun d st hd hJ=>by
   have hp:=pat_len x.l w d
   exact rnd_ex hJ (hright _ (by rw[rAt_get (by omega)];exact List.getElem_mem _)) (by omega) (by omega) _)
  have hend:=hgI _ (Nat.le_refl x.l.length)
  have hpl2:=pat_len x.l w x.l.length
  have hall:=pat_all x.l w
  obtain⟨ra,hra⟩:∃ra,ra=(pat x.l w x.l.length).1:=⟨_,rfl⟩
  obtain⟨rb,hrb⟩:∃rb,rb=(pat x.l w x.l.length).2:=⟨_,rfl⟩
  have hA0:=hend.la
  have hB0:=hend.lb
  have h00:=hend.l0
  rw[←hra] at hpl2 hall hA0
  rw[←hrb] at hpl2 hall hB0
  obtain⟨b4,m24,g4⟩:=reportsL hB0
  have hA0:=hA0.keep g4
  have hB0:=hB0.keep g4
  have h00:=h00.keep g4
  have l1:=log_lenN rb
  obtain⟨b5,m44a,hA1,g5⟩:=mergeL hA0 hB0 (by have:=fold_len (ra++logR rb) [];simp at this ⊢;omega)
  have hB1:=hB0.keepX hA0 g5 hend.d3.symm
  have h01:=h00.keepX hA0 g5 hend.d1
  have l2:=log_lenN (ra++logR rb)
  simp only[List.length_append] at l2
  obtain⟨b6,m44b,hA2,g6⟩:=mergeL hA1 hA1 (by have:=fold_len ((ra++logR rb)++logR (ra++logR rb)) [];simp at this ⊢;omega)
  have hB2:=hB1.keepX hA1 g6 hend.d3.symm
  have h02:=h01.keepX hA1 g6 hend.d1
  obtain⟨b7,m24b,g7⟩:=reportsL hB2
  have hA3:=hA2.keep g7
  have hB3:=hB2.keep g7
  have h03:=h02.keep g7
  obtain⟨A2,hA2d⟩:∃A2,A2=(ra++logR rb)++logR (ra++logR rb):=⟨_,rfl⟩
  have l3:A2.length≤200:=by rw[hA2d];simp;omega
  have l4:=log_lenN A2
  have e1:logR x.l=logR A2:=by
   have s1:logR ((ra++logR rb)++(ra++logR rb))=logR (ra++logR rb):=log_same fun r=>by rw[List.mem_append];exact or_self_iff
   rw[hA2d,log_app,s1,log_app]
   exact log_same fun r=>(hall r).symm
  rw[←hA2d] at hA3
  obtain⟨b8,m44c,hB4,g8⟩:=mergeL hB3 hA3 (by have:=fold_len (rb++logR A2) [];simp at this ⊢;omega)
  have hA4:=hA3.keepX hB3 g8 hend.d3
  have h04:=h03.keepX hB3 g8 hend.d2
  have e2:logR x.l=logR (rb++logR A2):=by
   rw[←e1,log_app]
   refine log_same fun r=>?_
   have:=hall r
   rw[List.mem_append] at this ⊢
   constructor
   ·exact .inr
   ·rintro(h | h)
    ·exact this.1 (.inr h)
    ·exact h
  obtain⟨b9,m45a,g9⟩:=c45 h04 hA4 e1 (by omega) hchk
  obtain⟨b10,m45b,g10⟩:=c45 (h04.keep g9) (hB4.keep g9) e2 (by omega) hchk
  obtain⟨b11,h17,_⟩:=knownOK ((h04.keep g9).keep g10).ny
  have m23:=c23 (bs:=[]) (logR rb) (logR rb) (by omega)
  rw[decide_eq_true rfl] at m23
  refine⟨.st b11,ku13.W rfl ?_⟩
  unfold u13
  simp only[ups_cons,ups_nil,List.cons_append,List.nil_append]
  repeat' (first|(apply nrm;simp only[sbe];rfl)|(apply u_iteF;rfl;(·first|exact hc|exact rfl))|(apply u_chk;rfl)|(apply u_lenL;rfl;exact lenL_map;simp only[sbe];rfl)|(apply u_sub;rfl;rfl;omega;simp only[sbe];rfl)|(apply u_ev;rfl;simp only[sbe];rfl)|(apply u_call;rfl;exact evN1 rfl hn;exact h27;rfl;simp only[sbe];rfl)|(apply u_wcall;rfl;rfl;(·first|exact h28|exact h18|exact h18');rfl;simp only[sbe];rfl)|(apply u_or;rfl)|refine u_join ?_|exact u_ret rfl rfl|(intro hz;(try simp only[sbs] at hz)))
  refine u_range (fun d=>[I ((x.l.length:Int)-1-(d:Int)),.st (g d)]) (fun _=>True) x.l.length (by rw[hg0];simp[evalAll,E.eval]) (fun _=>rfl) trivial (fun d hd _ R hR=>?_) (fun _ R=>?_)
  ·obtain⟨i,hi⟩:∃i,i=x.l.length-1-d:=⟨_,rfl⟩
   have i1:(x.l.length:Int)-1-(d:Int)=(i:Int):=by omega
   have i2:(x.l.length:Int)-1-((d+1:Nat):Int)=(i:Int)-1:=by omega
   have hr:=hgR d hd
   rw[←hi] at hr
   simp only[i2] at hR
   simp only[i1]
   have hil:i<x.l.length:=by omega
   have hiw:i<w.length:=by omega
   have hge:decide ((i:Int)≥0)=true:=by simp
   have he1:D.eaddr 1 (Is w) (In i)=some (.ptr [I (w.getD i 0)]):=eaddr_lst (enc:=I) (by simp[hiw]) rfl
   have he2:D.eaddr 7 (.lst (x.l.map Rep.d)) (In i)=some (.ptr (rAt x.l i).cs):=ea_rep hil
   have hand:=and_bin (w.getD i 0)
   obtain⟨m,hm⟩:∃m,m=andI (w.getD i 0):=⟨_,rfl⟩
   rw[←hm] at hr hand
   generalize rAt x.l i=r at hr he2
   obtain⟨r1,r2,r3⟩:=hr
   by_cases m0:m=0
   ·have d0:(m==0)=true:=by simp[m0]
    have k1:=r1 m0
    repeat' (first|(apply nrm;simp only[sbe];rfl)|(apply u_iteT;rfl;(·first|exact hge|exact d0))|(apply u_iteF;rfl;exact rfl)|(apply u_eaddr;rfl;rfl;(·first|exact he1|exact he2);simp only[sbe];rfl)|(apply u_bin;rfl;rfl;exact hand;simp only[sbe];rfl)|(apply u_sub;rfl;rfl;omega;simp only[sbe];rfl)|(apply u_ev;rfl;simp only[sbe];rfl)|(apply u_wcall;rfl;rfl;exact k1;rfl;simp only[sbe];rfl)|refine u_join ?_|(apply u_jump;rfl;rfl)|refine at_jump ?_|refine kj rfl ?_)
    exact hR trivial
   ·have d0:(m==0)=false:=by simp[m0]
    by_cases m1:m=1
    ·have d1:(m==1)=true:=by simp[m1]
     have k1:=r2 m0 m1
     repeat' (first|(apply nrm;simp only[sbe];rfl)|(apply u_iteT;rfl;(·first|exact hge|exact d1))|(apply u_iteF;rfl;(·first|exact d0|exact rfl))|(apply u_eaddr;rfl;rfl;(·first|exact he1|exact he2);simp only[sbe];rfl)|(apply u_bin;rfl;rfl;exact hand;simp only[sbe];rfl)|(apply u_sub;rfl;rfl;omega;simp only[sbe];rfl)|(apply u_ev;rfl;simp only[sbe];rfl)|(apply u_wcall;rfl;rfl;exact k1;rfl;simp only[sbe];rfl)|refine u_join ?_|(apply u_jump;rfl;rfl)|refine at_jump ?_|refine kj rfl ?_)
     exact hR trivial
    ·have d1:(m==1)=false:=by simp[m1]
     obtain⟨st1,k1,k2⟩:=r3 m0 m1
     repeat' (first|(apply nrm;simp only[sbe];rfl)|(apply u_iteT;rfl;exact hge)|(apply u_iteF;rfl;(·first|exact d0|exact d1|exact rfl))|(apply u_eaddr;rfl;rfl;(·first|exact he1|exact he2);simp only[sbe];rfl)|(apply u_bin;rfl;rfl;exact hand;simp only[sbe];rfl)|(apply u_sub;rfl;rfl;omega;simp only[sbe];rfl)|(apply u_ev;rfl;simp only[sbe];rfl)|(apply u_wcall;rfl;rfl;(·first|exact k1|exact k2);rfl;simp only[sbe];rfl)|refine u_join ?_|(apply u_jump;rfl;rfl)|refine at_jump ?_|refine kj rfl ?_)
     exact hR trivial
  ·have hge:decide ((x.l.length:Int)-1-(x.l.length:Int)≥0)=false:=by simp;omega
   repeat' (first|(apply nrm;simp only[sbe];rfl)|(apply u_genW;rfl;exact rfl;rfl;rfl;(·first|exact m44b|exact m24b|exact m44c|exact m45b|exact h17);rfl;simp only[sbe];rfl)|(apply u_iteF;rfl;(·first|exact hge|exact rfl))|(apply u_sel;rfl;rfl;rfl;(·simp only[sbe,List.zipWith_cons_cons,List.zipWith_nil_left,selD];rfl))|(apply u_ev;rfl;simp only[sbe];rfl)|(apply u_call;rfl;(·exact ev2W rfl rfl (noid_reps _) (noid_reps _));exact m23;rfl;simp only[sbe];rfl)|(apply u_wcall;rfl;rfl;(·first|exact m24|exact m44a|exact m45a);rfl;simp only[sbe];rfl)|(apply u_or;rfl)|(apply u_jump;rfl;rfl)|refine at_jump ?_|(refine over_jump (by decide) ?_)|refine kj rfl ?_|exact u_ret rfl rfl|(intro hz;(try simp only[sbs] at hz)))
 ·obtain⟨b1,h17,_⟩:=knownOK (bs:=[]) rfl
  refine⟨.st b1,ku13.W rfl ?_⟩
  unfold u13
  simp only[ups_cons,ups_nil,List.cons_append,List.nil_append]
  repeat' (first|(apply nrm;simp only[sbe];rfl)|(apply u_iteT;rfl;exact hc)|(apply u_chk;rfl)|(apply u_lenL;rfl;exact lenL_map;simp only[sbe];rfl)|(apply u_ev;rfl;simp only[sbe];rfl)|(apply u_call;rfl;exact evN1 rfl hn;exact h27;rfl;simp only[sbe];rfl)|(apply u_wcall;rfl;rfl;exact h17;rfl;simp only[sbe];rfl)|(apply u_or;rfl)|exact u_ret rfl rfl|(intro hz;(try simp only[sbs] at hz)))

end Go.Am.Wr

/-
 The law of many reports.
-/
namespace Go.Am.Wr
open Go.Proofs
set_option maxRecDepth 100000
set_option maxHeartbeats 4000000

attribute [local irreducible] inR

variable {bs:List D} {n j:Nat} {f:Fld} {ss:List Src} {rs:List Rep}

def RN (i:Int):Rep:=⟨0,i,1,1,0,0,0⟩
def RNs (s c:Nat):List Rep:=(List.range c).map fun(k:Nat)=>RN ((s+k:Nat):Int)

theorem RNs_succ (s c:Nat):RNs s (c+1)=RNs s c++[RN ((s+c:Nat):Int)]:=by simp[RNs,List.range_succ]
theorem RNs_len (s c:Nat):(RNs s c).length=c:=by simp[RNs]

def hasN (m:List (Rep×Int))(i:Int):Bool:=m.any fun e=>decide (e.1=plainR (RN i))

theorem put_any (m:List (Rep×Int))(r q:Rep):(put m r).any (fun e=>decide (e.1=plainR q))=(m.any (fun e=>decide (e.1=plainR q))||decide (plainR q=plainR r)):=by
 unfold put
 split
 ·rename_i h
  have e1:(m.map fun e=>if e.1=plainR r∧r.arrived<e.2 then(e.1,r.arrived) else e).any (fun e=>decide (e.1=plainR q))=m.any (fun e=>decide (e.1=plainR q)):=by
   rw[List.any_map]
   congr 1
   funext e
   simp only[Function.comp]
   split <;> rfl
  rw[e1]
  by_cases hq:plainR q=plainR r
  ·rw[hq,h];rfl
  ·simp[hq]
 ·rw[List.any_append]
  simp[eq_comm]

theorem RN_inj {i k:Int}:plainR (RN i)=plainR (RN k)↔i=k:=by
 constructor
 ·intro h
  have:=congrArg Rep.number h
  exact this
 ·rintro rfl;rfl

theorem has_fold (s:Nat)(m:List (Rep×Int))(i:Int):∀c,hasN ((RNs s c).foldl put m) i=(hasN m i||decide ((s:Int)≤i∧i<((s+c:Nat):Int)))
 | 0=>by simp[RNs];omega
 | c+1=>by
  rw[RNs_succ,List.foldl_append,List.foldl_cons,List.foldl_nil]
  have ih:=has_fold s m i c
  unfold hasN at ih ⊢
  rw[put_any,ih,Bool.or_assoc]
  congr 1
  rw[Bool.eq_iff_iff]
  simp only[Bool.or_eq_true,decide_eq_true_eq,RN_inj]
  omega

theorem fold_cnt (a s:Nat)(m:List (Rep×Int))(hm:∀i:Int,hasN m i=decide (0≤i∧i<(a:Int))):∀c,((RNs s c).foldl put m).length=m.length+(s+c-max a s)
 | 0=>by simp[RNs];omega
 | c+1=>by
  have ih:=fold_cnt a s m hm c
  have hh:=has_fold s m ((s+c:Nat):Int) c
  rw[hm] at hh
  rw[RNs_succ,List.foldl_append,List.foldl_cons,List.foldl_nil]
  by_cases hs:s+c<a
  ·rw[put_len_has (by
    unfold hasN at hh
    rw[hh]
    simp
    omega),ih]
   omega
  ·rw[put_len_new (by
    unfold hasN at hh
    rw[hh]
    simp
    omega),ih]
   omega

theorem addlong (h:Lg bs j f ss rs n){l:List Rep}(hl:l.length≤1000000)(hr:∀r,r∈l→rightB f ss r=true)(hlen:5000<((rs++l).foldl put []).length):∃bs',FSpecW Try.prog 21 (.st bs) [.loc j 0,.lst (l.map Rep.d)] (I 4) (.st bs')∧Grow bs bs':=by
 obtain⟨m,hm⟩:=h.log
 have hs:=h.srcs
 have hp:=h.pl
 have hnh:=h.fok.hi
 have hfold:l.foldl put (rs.foldl put [])=(rs++l).foldl put []:=by rw[List.foldl_append]
 have hany:l.any (fun r=>!rightB f ss r)=false:=by
  rw[List.any_eq_false]
  intro r hr'
  simp[hr r hr']
 have h21:=c21 hm (mapOk_fold rs map_nil) (by omega) (by omega) hl hany
 rw[hfold,if_pos (by omega),if_pos (by omega)] at h21
 refine⟨_,h21,by simp,fun i hi=>List.getElem?_append_left hi,fun hn=>?_⟩
 rw[noyls_app,hn]
 simp[noyls,kv_noyl]

set_option allowUnsafeReducibility true in
attribute [local semireducible] inR in
theorem rn_right {i:Int}(h:0≤i∧i≤1000000):rightB FK SK (RN i)=true:=by
 unfold rightB RN FK SK inR
 simp
 omega

theorem rns_right (s c:Nat)(h:s+c≤1000000):∀r,r∈RNs s c→rightB FK SK r=true:=fun r hr=>by
 unfold RNs at hr
 obtain⟨k,hk,rfl⟩:=List.mem_map.1 hr
 have:k<c:=by simpa using hk
 exact rn_right (by omega)

theorem app_rn (s c:Nat)(h:c≤1000000):D.app 7 56 (.lst ((RNs s c).map Rep.d)) (.lst [(RN ((s+c:Nat):Int)).d])=some (.lst ((RNs s (c+1)).map Rep.d)):=by
 rw[RNs_succ]
 exact app_lst (enc:=Rep.d) (ys:=[RN ((s+c:Nat):Int)]) (by rw[RNs_len];simp;omega) (by rw[RNs_len];simp[maxLen];omega) (fun _=>rfl)

theorem c4 (n from_ more:Int):∃h',FSpecWO Try.prog 4 (.st []) [I n,I from_,I more] (.ret (B true)) h':=by
 cases hc:(decide (n<4900)||decide (n > 5100)||decide (from_<0)||decide (from_ > 5100)||decide (more<0)||decide (more > 200))
 ·obtain⟨⟨⟨⟨⟨q1,q2⟩,q3⟩,q4⟩,q5⟩,q6⟩:((((4900≤n∧n≤5100)∧0≤from_)∧from_≤5100)∧0≤more)∧more≤200:=by simpa using hc
  obtain⟨A,rfl⟩:∃A:Nat,n=(A:Int):=⟨n.toNat,by omega⟩
  obtain⟨S,rfl⟩:∃S:Nat,from_=(S:Int):=⟨from_.toNat,by omega⟩
  obtain⟨C,rfl⟩:∃C:Nat,more=(C:Int):=⟨more.toNat,by omega⟩
  obtain⟨b1,j,h18,L1,g1,_⟩:=newL k_f (bs:=[]) rfl
  have hcnt:=fold_cnt 0 0 [] (fun i=>by simp[hasN]) A
  have hcA:((RNs 0 A).foldl put []).length=A:=by rw[hcnt];simp
  have hlA:=RNs_len 0 A
  have hlC:=RNs_len S C
  by_cases hbig:5000<A
  ·obtain⟨b2,h21,g2⟩:=addlong L1 (l:=RNs 0 A) (by omega) (rns_right 0 A (by omega)) (by simpa[hcA] using hbig)
   obtain⟨b3,h24,g3⟩:=reportsL (L1.keep g2)
   obtain⟨b4,h17,_⟩:=knownOK ((L1.keep g2).keep g3).ny
   have e0:logR []=[]:=rfl
   rw[e0] at h24
   have hb:decide ((A:Int) > 5000)=true:=by simp;omega
   refine⟨.st b4,?_⟩
   refine ku4.W rfl ?_
   unfold u4
   simp only[ups_cons,ups_nil,List.cons_append,List.nil_append]
   repeat' (first|(apply nrm;simp only[sbe];rfl)|(apply u_iteF;rfl;(·first|exact hc|exact rfl))|(apply u_chk;rfl)|(apply u_ev;rfl;simp only[sbe];rfl)|(apply u_call;rfl;rfl;(·first|exact c25|exact c26);rfl;simp only[sbe];rfl)|(apply u_wcall;rfl;rfl;exact h18;rfl;simp only[sbe];rfl)|(apply u_or;rfl)|refine u_join ?_|exact u_ret rfl rfl|(intro hz;(try simp only[sbs] at hz)))
   refine u_range (fun i=>[.lst ((RNs 0 i).map Rep.d),In i]) (fun _=>True) A rfl (fun _=>rfl) trivial (fun i hi _ R hR=>?_) (fun _ R=>?_)
   ·have hli:decide ((i:Int)<(A:Int))=true:=by simp;omega
    have ha:=app_rn 0 i (by omega)
    rw[Nat.zero_add] at ha
    repeat' (first|(apply nrm;simp only[sbe];rfl)|(apply u_iteT;rfl;exact hli)|(apply u_app;rfl;rfl;exact ha;simp only[sbe];rfl)|(apply u_inc;rfl;omega;simp only[sbe];rfl)|(apply u_ev;rfl;simp only[sbe];rfl)|refine u_join ?_|(apply u_jump;rfl;rfl)|refine at_jump ?_|refine kj rfl ?_)
    exact hR trivial
   ·have hli:decide ((A:Int)<(A:Int))=false:=by simp
    repeat' (first|(apply nrm;simp only[sbe];rfl)|(apply u_iteF;rfl;exact hli)|(apply u_ev;rfl;simp only[sbe];rfl)|refine u_join ?_|(apply u_jump;rfl;rfl)|refine at_jump ?_|(refine over_jump (by decide) ?_)|refine kj rfl ?_)
    refine u_range (fun i=>[.lst ((RNs S i).map Rep.d),In (S+i)]) (fun _=>True) C rfl (fun _=>rfl) trivial (fun i hi _ R hR=>?_) (fun _ R=>?_)
    ·have hli:decide (((S+i:Nat):Int)<(S:Int)+(C:Int))=true:=by simp;omega
     have ha:=app_rn S i (by omega)
     repeat' (first|(apply nrm;simp only[sbe];rfl)|(apply u_iteT;rfl;exact hli)|(apply u_app;rfl;rfl;exact ha;simp only[sbe];rfl)|(apply u_inc;rfl;omega;simp only[sbe];rfl)|(apply u_add;rfl;rfl;omega;simp only[sbe];rfl)|(apply u_ev;rfl;simp only[sbe];rfl)|refine u_join ?_|(apply u_jump;rfl;rfl)|refine at_jump ?_|refine kj rfl ?_)
     exact hR trivial
    ·have hli:decide (((S+C:Nat):Int)<(S:Int)+(C:Int))=false:=by simp
     repeat' (first|(apply nrm;simp only[sbe];rfl)|(apply u_genW;rfl;exact rfl;rfl;rfl;(·first|exact h24|exact h17);rfl;simp only[sbe];rfl)|(apply u_iteT;rfl;exact hb)|(apply u_iteF;rfl;exact hli)|(apply u_lenL;rfl;exact lenL_map;simp only[sbe];rfl)|(apply u_add;rfl;rfl;omega;simp only[sbe];rfl)|(apply u_sel;rfl;rfl;rfl;(·simp only[sbe,List.zipWith_cons_cons,List.zipWith_nil_left,selD];rfl))|(apply u_ev;rfl;simp only[sbe];rfl)|(apply u_wcall;rfl;rfl;exact h21;rfl;simp only[sbe];rfl)|(apply u_and;rfl)|(apply u_jump;rfl;rfl)|refine at_jump ?_|(refine over_jump (by decide) ?_)|refine kj rfl ?_|exact u_ret rfl rfl|(intro hz;(try simp only[sbs] at hz)))
  ·obtain⟨b2,h21,L2,g2⟩:=addL L1 (l:=RNs 0 A) (by omega) (rns_right 0 A (by omega)) (by simp[hcA];omega)
   rw[List.nil_append] at L2
   obtain⟨b3,h24,g3⟩:=reportsL L2
   have L3:=L2.keep g3
   have lA:(logR (RNs 0 A)).length=A:=by rw[log_len rfl,hcA]
   have hb:decide ((A:Int) > 5000)=false:=by simp;omega
   have hE1:((0:Int) != 0||(((logR (RNs 0 A)).length:Nat):Int) != (A:Int))=false:=by rw[lA];simp
   have hcB:((RNs 0 A++RNs S C).foldl put []).length=A+(S+C-max A S):=by
    rw[List.foldl_append,fold_cnt A S _ (fun i=>by rw[has_fold];simp[hasN]) C,hcA]
   obtain⟨X,hX⟩:∃X:Int,X=if S > A then(A:Int)+(C:Int) else max (A:Int) ((S:Int)+(C:Int)):=⟨_,rfl⟩
   have hall:(if((C:Int)==0)=true then(A:Int) else X)=((A+(S+C-max A S):Nat):Int):=by
    rw[hX]
    split
    ·rename_i h0
     simp at h0
     omega
    ·split <;> omega
   have hsa:decide ((S:Int) > (A:Int))=decide (S > A):=by simp
   by_cases hmany:5000<A+(S+C-max A S)
   ·obtain⟨b4,h21',g4⟩:=addlong L3 (l:=RNs S C) (by omega) (rns_right S C (by omega)) (by rw[hcB];exact hmany)
    obtain⟨b5,h24',g5⟩:=reportsL (L3.keep g4)
    obtain⟨b6,h17,_⟩:=knownOK ((L3.keep g4).keep g5).ny
    have hE2:((4:Int)==4&&(((logR (RNs 0 A)).length:Nat):Int)==(A:Int))=true:=by rw[lA];simp
    refine⟨.st b6,?_⟩
    by_cases hs:S > A
    ·have hs1:decide ((S:Int) > (A:Int))=true:=by rw[hsa];simp[hs]
     have hm2:decide ((if((C:Int)==0)=true then(A:Int) else(A:Int)+(C:Int)) > 5000)=true:=by
      rw[if_pos hs] at hX
      rw[←hX,hall];simp;omega
     refine ku4.W rfl ?_
     unfold u4
     simp only[ups_cons,ups_nil,List.cons_append,List.nil_append]
     repeat' (first|(apply nrm;simp only[sbe];rfl)|(apply u_iteF;rfl;(·first|exact hc|exact rfl))|(apply u_chk;rfl)|(apply u_ev;rfl;simp only[sbe];rfl)|(apply u_call;rfl;rfl;(·first|exact c25|exact c26);rfl;simp only[sbe];rfl)|(apply u_wcall;rfl;rfl;exact h18;rfl;simp only[sbe];rfl)|(apply u_or;rfl)|refine u_join ?_|exact u_ret rfl rfl|(intro hz;(try simp only[sbs] at hz)))
     refine u_range (fun i=>[.lst ((RNs 0 i).map Rep.d),In i]) (fun _=>True) A rfl (fun _=>rfl) trivial (fun i hi _ R hR=>?_) (fun _ R=>?_)
     ·have hli:decide ((i:Int)<(A:Int))=true:=by simp;omega
      have ha:=app_rn 0 i (by omega)
      rw[Nat.zero_add] at ha
      repeat' (first|(apply nrm;simp only[sbe];rfl)|(apply u_iteT;rfl;exact hli)|(apply u_app;rfl;rfl;exact ha;simp only[sbe];rfl)|(apply u_inc;rfl;omega;simp only[sbe];rfl)|(apply u_ev;rfl;simp only[sbe];rfl)|refine u_join ?_|(apply u_jump;rfl;rfl)|refine at_jump ?_|refine kj rfl ?_)
      exact hR trivial
     ·have hli:decide ((A:Int)<(A:Int))=false:=by simp
      repeat' (first|(apply nrm;simp only[sbe];rfl)|(apply u_iteF;rfl;exact hli)|(apply u_ev;rfl;simp only[sbe];rfl)|refine u_join ?_|(apply u_jump;rfl;rfl)|refine at_jump ?_|(refine over_jump (by decide) ?_)|refine kj rfl ?_)
      refine u_range (fun i=>[.lst ((RNs S i).map Rep.d),In (S+i)]) (fun _=>True) C rfl (fun _=>rfl) trivial (fun i hi _ R hR=>?_) (fun _ R=>?_)
      ·have hli:decide (((S+i:Nat):Int)<(S:Int)+(C:Int))=true:=by simp;omega
       have ha:=app_rn S i (by omega)
       repeat' (first|(apply nrm;simp only[sbe];rfl)|(apply u_iteT;rfl;exact hli)|(apply u_app;rfl;rfl;exact ha;simp only[sbe];rfl)|(apply u_inc;rfl;omega;simp only[sbe];rfl)|(apply u_add;rfl;rfl;omega;simp only[sbe];rfl)|(apply u_ev;rfl;simp only[sbe];rfl)|refine u_join ?_|(apply u_jump;rfl;rfl)|refine at_jump ?_|refine kj rfl ?_)
       exact hR trivial
      ·have hli:decide (((S+C:Nat):Int)<(S:Int)+(C:Int))=false:=by simp
       repeat' (first|(apply nrm;simp only[sbe];rfl)|(apply u_genW;rfl;(·first|exact rfl|exact hE2);rfl;rfl;(·first|exact h24|exact h24'|exact h17);rfl;simp only[sbe];rfl)|(apply u_iteT;rfl;(·first|exact hs1|exact hm2))|(apply u_iteF;rfl;(·first|exact hli|exact hb|exact hE1))|(apply u_mm;rfl;rfl;exact mm_max _ _;simp only[sbe];rfl)|(apply u_lenL;rfl;exact lenL_map;simp only[sbe];rfl)|(apply u_add;rfl;rfl;omega;simp only[sbe];rfl)|(apply u_sel;rfl;rfl;rfl;(·simp only[sbe,List.zipWith_cons_cons,List.zipWith_nil_left,selD];rfl))|(apply u_ev;rfl;simp only[sbe];rfl)|(apply u_wcall;rfl;rfl;(·first|exact h21|exact h21');rfl;simp only[sbe];rfl)|(apply u_or;rfl)|(apply u_and;rfl)|refine u_join ?_|(apply u_jump;rfl;rfl)|refine at_jump ?_|(refine over_jump (by decide) ?_)|refine kj rfl ?_|(apply u_phi;rfl;(·intro hz;rfl);(·intro hz;rfl);rfl;(·simp only[sbe,List.zipWith_cons_cons,List.zipWith_nil_left,selD];rfl))|exact u_ret rfl rfl|(apply u_ret;rfl;first|exact rfl|(refine retB ?_)|(refine retI ?_)|(refine retD ?_))|(intro hz;(try simp only[sbs] at hz)))
       all_goals (first | simpa using hE2 | simp)
    ·have hs1:decide ((S:Int) > (A:Int))=false:=by rw[hsa];simp[hs]
     have hm2:decide ((if((C:Int)==0)=true then(A:Int) else max (A:Int) ((S:Int)+(C:Int))) > 5000)=true:=by
      rw[if_neg hs] at hX
      rw[←hX,hall];simp;omega
     refine ku4.W rfl ?_
     unfold u4
     simp only[ups_cons,ups_nil,List.cons_append,List.nil_append]
     repeat' (first|(apply nrm;simp only[sbe];rfl)|(apply u_iteF;rfl;(·first|exact hc|exact rfl))|(apply u_chk;rfl)|(apply u_ev;rfl;simp only[sbe];rfl)|(apply u_call;rfl;rfl;(·first|exact c25|exact c26);rfl;simp only[sbe];rfl)|(apply u_wcall;rfl;rfl;exact h18;rfl;simp only[sbe];rfl)|(apply u_or;rfl)|refine u_join ?_|exact u_ret rfl rfl|(intro hz;(try simp only[sbs] at hz)))
     refine u_range (fun i=>[.lst ((RNs 0 i).map Rep.d),In i]) (fun _=>True) A rfl (fun _=>rfl) trivial (fun i hi _ R hR=>?_) (fun _ R=>?_)
     ·have hli:decide ((i:Int)<(A:Int))=true:=by simp;omega
      have ha:=app_rn 0 i (by omega)
      rw[Nat.zero_add] at ha
      repeat' (first|(apply nrm;simp only[sbe];rfl)|(apply u_iteT;rfl;exact hli)|(apply u_app;rfl;rfl;exact ha;simp only[sbe];rfl)|(apply u_inc;rfl;omega;simp only[sbe];rfl)|(apply u_ev;rfl;simp only[sbe];rfl)|refine u_join ?_|(apply u_jump;rfl;rfl)|refine at_jump ?_|refine kj rfl ?_)
      exact hR trivial
     ·have hli:decide ((A:Int)<(A:Int))=false:=by simp
      repeat' (first|(apply nrm;simp only[sbe];rfl)|(apply u_iteF;rfl;exact hli)|(apply u_ev;rfl;simp only[sbe];rfl)|refine u_join ?_|(apply u_jump;rfl;rfl)|refine at_jump ?_|(refine over_jump (by decide) ?_)|refine kj rfl ?_)
      refine u_range (fun i=>[.lst ((RNs S i).map Rep.d),In (S+i)]) (fun _=>True) C rfl (fun _=>rfl) trivial (fun i hi _ R hR=>?_) (fun _ R=>?_)
      ·have hli:decide (((S+i:Nat):Int)<(S:Int)+(C:Int))=true:=by simp;omega
       have ha:=app_rn S i (by omega)
       repeat' (first|(apply nrm;simp only[sbe];rfl)|(apply u_iteT;rfl;exact hli)|(apply u_app;rfl;rfl;exact ha;simp only[sbe];rfl)|(apply u_inc;rfl;omega;simp only[sbe];rfl)|(apply u_add;rfl;rfl;omega;simp only[sbe];rfl)|(apply u_ev;rfl;simp only[sbe];rfl)|refine u_join ?_|(apply u_jump;rfl;rfl)|refine at_jump ?_|refine kj rfl ?_)
       exact hR trivial
      ·have hli:decide (((S+C:Nat):Int)<(S:Int)+(C:Int))=false:=by simp
       repeat' (first|(apply nrm;simp only[sbe];rfl)|(apply u_genW;rfl;(·first|exact rfl|exact hE2);rfl;rfl;(·first|exact h24|exact h24'|exact h17);rfl;simp only[sbe];rfl)|(apply u_iteT;rfl;exact hm2)|(apply u_iteF;rfl;(·first|exact hli|exact hb|exact hE1|exact hs1))|(apply u_mm;rfl;rfl;exact mm_max _ _;simp only[sbe];rfl)|(apply u_lenL;rfl;exact lenL_map;simp only[sbe];rfl)|(apply u_add;rfl;rfl;omega;simp only[sbe];rfl)|(apply u_sel;rfl;rfl;rfl;(·simp only[sbe,List.zipWith_cons_cons,List.zipWith_nil_left,selD];rfl))|(apply u_ev;rfl;simp only[sbe];rfl)|(apply u_wcall;rfl;rfl;(·first|exact h21|exact h21');rfl;simp only[sbe];rfl)|(apply u_or;rfl)|(apply u_and;rfl)|refine u_join ?_|(apply u_jump;rfl;rfl)|refine at_jump ?_|(refine over_jump (by decide) ?_)|refine kj rfl ?_|(apply u_phi;rfl;(·intro hz;rfl);(·intro hz;rfl);rfl;(·simp only[sbe,List.zipWith_cons_cons,List.zipWith_nil_left,selD];rfl))|exact u_ret rfl rfl|(apply u_ret;rfl;first|exact rfl|(refine retB ?_)|(refine retI ?_)|(refine retD ?_))|(intro hz;(try simp only[sbs] at hz)))
       all_goals (first | simpa using hE2 | simp)
   ·obtain⟨b4,h21',L4,g4⟩:=addL L3 (l:=RNs S C) (by omega) (rns_right S C (by omega)) (by rw[hcB];omega)
    obtain⟨b5,h24',g5⟩:=reportsL L4
    obtain⟨b6,h17,_⟩:=knownOK (L4.keep g5).ny
    have lB:(logR (RNs 0 A++RNs S C)).length=A+(S+C-max A S):=by rw[log_len rfl,hcB]
    refine⟨.st b6,?_⟩
    by_cases hs:S > A
    ·have hs1:decide ((S:Int) > (A:Int))=true:=by rw[hsa];simp[hs]
     rw[if_pos hs] at hX
     rw[hX] at hall
     have hm2:decide ((if((C:Int)==0)=true then(A:Int) else(A:Int)+(C:Int)) > 5000)=false:=by
      rw[hall];simp;omega
     have hE2:((0:Int)==0&&(((logR (RNs 0 A++RNs S C)).length:Nat):Int)==(if((C:Int)==0)=true then(A:Int) else(A:Int)+(C:Int)))=true:=by rw[lB,hall];simp
     refine ku4.W rfl ?_
     unfold u4
     simp only[ups_cons,ups_nil,List.cons_append,List.nil_append]
     repeat' (first|(apply nrm;simp only[sbe];rfl)|(apply u_iteF;rfl;(·first|exact hc|exact rfl))|(apply u_chk;rfl)|(apply u_ev;rfl;simp only[sbe];rfl)|(apply u_call;rfl;rfl;(·first|exact c25|exact c26);rfl;simp only[sbe];rfl)|(apply u_wcall;rfl;rfl;exact h18;rfl;simp only[sbe];rfl)|(apply u_or;rfl)|refine u_join ?_|exact u_ret rfl rfl|(intro hz;(try simp only[sbs] at hz)))
     refine u_range (fun i=>[.lst ((RNs 0 i).map Rep.d),In i]) (fun _=>True) A rfl (fun _=>rfl) trivial (fun i hi _ R hR=>?_) (fun _ R=>?_)
     ·have hli:decide ((i:Int)<(A:Int))=true:=by simp;omega
      have ha:=app_rn 0 i (by omega)
      rw[Nat.zero_add] at ha
      repeat' (first|(apply nrm;simp only[sbe];rfl)|(apply u_iteT;rfl;exact hli)|(apply u_app;rfl;rfl;exact ha;simp only[sbe];rfl)|(apply u_inc;rfl;omega;simp only[sbe];rfl)|(apply u_ev;rfl;simp only[sbe];rfl)|refine u_join ?_|(apply u_jump;rfl;rfl)|refine at_jump ?_|refine kj rfl ?_)
      exact hR trivial
     ·have hli:decide ((A:Int)<(A:Int))=false:=by simp
      repeat' (first|(apply nrm;simp only[sbe];rfl)|(apply u_iteF;rfl;exact hli)|(apply u_ev;rfl;simp only[sbe];rfl)|refine u_join ?_|(apply u_jump;rfl;rfl)|refine at_jump ?_|(refine over_jump (by decide) ?_)|refine kj rfl ?_)
      refine u_range (fun i=>[.lst ((RNs S i).map Rep.d),In (S+i)]) (fun _=>True) C rfl (fun _=>rfl) trivial (fun i hi _ R hR=>?_) (fun _ R=>?_)
      ·have hli:decide (((S+i:Nat):Int)<(S:Int)+(C:Int))=true:=by simp;omega
       have ha:=app_rn S i (by omega)
       repeat' (first|(apply nrm;simp only[sbe];rfl)|(apply u_iteT;rfl;exact hli)|(apply u_app;rfl;rfl;exact ha;simp only[sbe];rfl)|(apply u_inc;rfl;omega;simp only[sbe];rfl)|(apply u_add;rfl;rfl;omega;simp only[sbe];rfl)|(apply u_ev;rfl;simp only[sbe];rfl)|refine u_join ?_|(apply u_jump;rfl;rfl)|refine at_jump ?_|refine kj rfl ?_)
       exact hR trivial
      ·have hli:decide (((S+C:Nat):Int)<(S:Int)+(C:Int))=false:=by simp
       repeat' (first|(apply nrm;simp only[sbe];rfl)|(apply u_genW;rfl;(·first|exact rfl|exact hE2);rfl;rfl;(·first|exact h24|exact h24'|exact h17);rfl;simp only[sbe];rfl)|(apply u_iteT;rfl;exact hs1)|(apply u_iteF;rfl;(·first|exact hli|exact hb|exact hE1|exact hm2))|(apply u_mm;rfl;rfl;exact mm_max _ _;simp only[sbe];rfl)|(apply u_lenL;rfl;exact lenL_map;simp only[sbe];rfl)|(apply u_add;rfl;rfl;omega;simp only[sbe];rfl)|(apply u_sel;rfl;rfl;rfl;(·simp only[sbe,List.zipWith_cons_cons,List.zipWith_nil_left,selD];rfl))|(apply u_ev;rfl;simp only[sbe];rfl)|(apply u_wcall;rfl;rfl;(·first|exact h21|exact h21');rfl;simp only[sbe];rfl)|(apply u_or;rfl)|(apply u_and;rfl)|refine u_join ?_|(apply u_jump;rfl;rfl)|refine at_jump ?_|(refine over_jump (by decide) ?_)|refine kj rfl ?_|(apply u_phi;rfl;(·intro hz;rfl);(·intro hz;rfl);rfl;(·simp only[sbe,List.zipWith_cons_cons,List.zipWith_nil_left,selD];rfl))|exact u_ret rfl rfl|(apply u_ret;rfl;first|exact rfl|(refine retB ?_)|(refine retI ?_)|(refine retD ?_))|(intro hz;(try simp only[sbs] at hz)))
       all_goals (first | simpa using hE2 | simp)
    ·have hs1:decide ((S:Int) > (A:Int))=false:=by rw[hsa];simp[hs]
     rw[if_neg hs] at hX
     rw[hX] at hall
     have hm2:decide ((if((C:Int)==0)=true then(A:Int) else max (A:Int) ((S:Int)+(C:Int))) > 5000)=false:=by
      rw[hall];simp;omega
     have hE2:((0:Int)==0&&(((logR (RNs 0 A++RNs S C)).length:Nat):Int)==(if((C:Int)==0)=true then(A:Int) else max (A:Int) ((S:Int)+(C:Int))))=true:=by rw[lB,hall];simp
     refine ku4.W rfl ?_
     unfold u4
     simp only[ups_cons,ups_nil,List.cons_append,List.nil_append]
     repeat' (first|(apply nrm;simp only[sbe];rfl)|(apply u_iteF;rfl;(·first|exact hc|exact rfl))|(apply u_chk;rfl)|(apply u_ev;rfl;simp only[sbe];rfl)|(apply u_call;rfl;rfl;(·first|exact c25|exact c26);rfl;simp only[sbe];rfl)|(apply u_wcall;rfl;rfl;exact h18;rfl;simp only[sbe];rfl)|(apply u_or;rfl)|refine u_join ?_|exact u_ret rfl rfl|(intro hz;(try simp only[sbs] at hz)))
     refine u_range (fun i=>[.lst ((RNs 0 i).map Rep.d),In i]) (fun _=>True) A rfl (fun _=>rfl) trivial (fun i hi _ R hR=>?_) (fun _ R=>?_)
     ·have hli:decide ((i:Int)<(A:Int))=true:=by simp;omega
      have ha:=app_rn 0 i (by omega)
      rw[Nat.zero_add] at ha
      repeat' (first|(apply nrm;simp only[sbe];rfl)|(apply u_iteT;rfl;exact hli)|(apply u_app;rfl;rfl;exact ha;simp only[sbe];rfl)|(apply u_inc;rfl;omega;simp only[sbe];rfl)|(apply u_ev;rfl;simp only[sbe];rfl)|refine u_join ?_|(apply u_jump;rfl;rfl)|refine at_jump ?_|refine kj rfl ?_)
      exact hR trivial
     ·have hli:decide ((A:Int)<(A:Int))=false:=by simp
      repeat' (first|(apply nrm;simp only[sbe];rfl)|(apply u_iteF;rfl;exact hli)|(apply u_ev;rfl;simp only[sbe];rfl)|refine u_join ?_|(apply u_jump;rfl;rfl)|refine at_jump ?_|(refine over_jump (by decide) ?_)|refine kj rfl ?_)
      refine u_range (fun i=>[.lst ((RNs S i).map Rep.d),In (S+i)]) (fun _=>True) C rfl (fun _=>rfl) trivial (fun i hi _ R hR=>?_) (fun _ R=>?_)
      ·have hli:decide (((S+i:Nat):Int)<(S:Int)+(C:Int))=true:=by simp;omega
       have ha:=app_rn S i (by omega)
       repeat' (first|(apply nrm;simp only[sbe];rfl)|(apply u_iteT;rfl;exact hli)|(apply u_app;rfl;rfl;exact ha;simp only[sbe];rfl)|(apply u_inc;rfl;omega;simp only[sbe];rfl)|(apply u_add;rfl;rfl;omega;simp only[sbe];rfl)|(apply u_ev;rfl;simp only[sbe];rfl)|refine u_join ?_|(apply u_jump;rfl;rfl)|refine at_jump ?_|refine kj rfl ?_)
       exact hR trivial
      ·have hli:decide (((S+C:Nat):Int)<(S:Int)+(C:Int))=false:=by simp
       repeat' (first|(apply nrm;simp only[sbe];rfl)|(apply u_genW;rfl;(·first|exact rfl|exact hE2);rfl;rfl;(·first|exact h24|exact h24'|exact h17);rfl;simp only[sbe];rfl)|(apply u_iteF;rfl;(·first|exact hli|exact hb|exact hE1|exact hs1|exact hm2))|(apply u_mm;rfl;rfl;exact mm_max _ _;simp only[sbe];rfl)|(apply u_lenL;rfl;exact lenL_map;simp only[sbe];rfl)|(apply u_add;rfl;rfl;omega;simp only[sbe];rfl)|(apply u_sel;rfl;rfl;rfl;(·simp only[sbe,List.zipWith_cons_cons,List.zipWith_nil_left,selD];rfl))|(apply u_ev;rfl;simp only[sbe];rfl)|(apply u_wcall;rfl;rfl;(·first|exact h21|exact h21');rfl;simp only[sbe];rfl)|(apply u_or;rfl)|(apply u_and;rfl)|refine u_join ?_|(apply u_jump;rfl;rfl)|refine at_jump ?_|(refine over_jump (by decide) ?_)|refine kj rfl ?_|(apply u_phi;rfl;(·intro hz;rfl);(·intro hz;rfl);rfl;(·simp only[sbe,List.zipWith_cons_cons,List.zipWith_nil_left,selD];rfl))|exact u_ret rfl rfl|(apply u_ret;rfl;first|exact rfl|(refine retB ?_)|(refine retI ?_)|(refine retD ?_))|(intro hz;(try simp only[sbs] at hz)))
       all_goals (first | simpa using hE2 | simp)
 ·obtain⟨b1,h17,_⟩:=knownOK (bs:=[]) rfl
  refine⟨.st b1,ku4.W rfl ?_⟩
  unfold u4
  simp only[ups_cons,ups_nil,List.cons_append,List.nil_append]
  repeat' (first|(apply nrm;simp only[sbe];rfl)|(apply u_iteT;rfl;exact hc)|(apply u_ev;rfl;simp only[sbe];rfl)|(apply u_wcall;rfl;rfl;exact h17;rfl;simp only[sbe];rfl)|(apply u_or;rfl)|exact u_ret rfl rfl|(intro hz;(try simp only[sbs] at hz)))

end Go.Am.Wr
