/-
  Several texts, one behind the other.
-/
import Derived.Test.YtgebemgmpfpjbaaWrE9toWrR5
import Derived.Test.YtgebemgmpfpjbaaAmApp
import Derived.Test.YtgebemgmpfpjbaaWrU1toWrE1
set_option linter.unusedSimpArgs false
set_option linter.unusedVariables false
/-
 The specification's log.
-/
namespace Go.Am.Wr
open Go.Proofs
set_option maxRecDepth 100000
set_option maxHeartbeats 4000000

attribute [local irreducible] inR

def posR (r:Rep):List Rep→Nat
 | []=>0
 | x :: xs=>if before x r=true then posR r xs+1 else 0

theorem posR_le (r:Rep):∀o:List Rep,posR r o≤o.length
 | []=>Nat.le_refl _
 | x :: xs=>by
  have:=posR_le r xs
  unfold posR
  split <;> simp <;> omega

theorem posR_lt (r:Rep):∀{o:List Rep} {k:Nat} (h:k<posR r o),before (o[k]'(Nat.lt_of_lt_of_le h (posR_le r o))) r=true
 | [],k,h=>absurd h (Nat.not_lt_zero _)
 | x :: xs,k,h=>by
  unfold posR at h
  split at h
  ·rename_i hb
   cases k with
   | zero=>exact hb
   | succ k=>exact posR_lt r (o:=xs) (by omega)
  ·omega

theorem posR_at (r:Rep):∀{o:List Rep} (h:posR r o<o.length),before o[posR r o] r=false
 | [],h=>absurd h (Nat.not_lt_zero _)
 | x :: xs,h=>by
  by_cases hb:before x r=true
  ·have e:posR r (x :: xs)=posR r xs+1:=by rw[posR,if_pos hb]
   have hl:posR r xs<xs.length:=by rw[e] at h;simpa using h
   simp only[e,List.getElem_cons_succ]
   exact posR_at r hl
  ·have e:posR r (x :: xs)=0:=by rw[posR,if_neg hb]
   simp only[e,List.getElem_cons_zero]
   simpa using hb

theorem ins_same (r:Rep):∀{o:List Rep} (h:posR r o<o.length),key o[posR r o]=key r→ins r o=o.set (posR r o) (setA o[posR r o] (min o[posR r o].arrived r.arrived))
 | [],h,_=>absurd h (Nat.not_lt_zero _)
 | x :: xs,h,hk=>by
  by_cases hb:before x r=true
  ·have e:posR r (x :: xs)=posR r xs+1:=by rw[posR,if_pos hb]
   have hl:posR r xs<xs.length:=by rw[e] at h;simpa using h
   simp only[e,List.getElem_cons_succ] at hk ⊢
   rw[ins,if_pos hb,List.set_cons_succ,ins_same r hl hk]
  ·have e:posR r (x :: xs)=0:=by rw[posR,if_neg hb]
   simp only[e,List.getElem_cons_zero] at hk ⊢
   rw[ins,if_neg hb,if_pos hk,List.set_cons_zero]

theorem ins_new (r:Rep):∀{o:List Rep},(∀h:posR r o<o.length,key o[posR r o]≠key r)→ins r o=o.take (posR r o)++[r]++o.drop (posR r o)
 | [],_=>rfl
 | x :: xs,hk=>by
  by_cases hb:before x r=true
  ·have e:posR r (x :: xs)=posR r xs+1:=by rw[posR,if_pos hb]
   rw[ins,if_pos hb,e,List.take_succ_cons,List.drop_succ_cons]
   rw[ins_new r (o:=xs) fun h=>by
    have:=hk (by rw[e];simpa using h)
    simpa only[e,List.getElem_cons_succ] using this]
   rfl
  ·have e:posR r (x :: xs)=0:=by rw[posR,if_neg hb]
   have:=hk (by rw[e];simp)
   simp only[e,List.getElem_cons_zero] at this
   rw[ins,if_neg hb,if_neg this,e]
   rfl

theorem ins_len (r:Rep):∀o:List Rep,(ins r o).length≤o.length+1
 | []=>by simp[ins]
 | x :: xs=>by
  have:=ins_len r xs
  unfold ins
  split
  ·simp;omega
  ·split <;> simp

theorem log_lenN (l:List Rep):(logR l).length≤l.length:=by
 have h:∀(l o:List Rep),(l.foldl (fun o r=>ins r o) o).length≤o.length+l.length:=by
  intro l
  induction l with
  | nil=>intro o;simp
  | cons r l ih=>
   intro o
   have h1:=ih (ins r o)
   have h2:=ins_len r o
   simp only[List.foldl_cons,List.length_cons]
   omega
 simpa[logR] using h l []

theorem rcs_one (r:Rep):r.cs.all (·.one)=true:=rfl

theorem e_sub {env:List D}{n:Nat}{x y z:E}{dx dy dz d:D}(hx:x.eval env=some dx)(hy:y.eval env=some dy)(hz:z.eval env=some dz)(h:D.sub n dx dy dz=some d):(E.sub n x y z).eval env=some d:=by simp only[E.eval,hx,hy,hz,Option.bind_some,h]
theorem e_lenL {env:List D}{x:E}{dx d:D}(hx:x.eval env=some dx)(h:D.lenL dx=some d):(E.lenL x).eval env=some d:=by simp only[E.eval,hx,Option.bind_some,h]

def StepA (o:List Rep)(r:Rep)(s:D)(bs:List D)(s':D)(bs':List D):Prop:=∃(b:Nat) (h:posR r o<o.length),key o[posR r o]=key r∧s=.sl b 0 o.length∧s'=s∧bs'=bs.set b (.blk 45 7 ((o.set (posR r o) (setA o[posR r o] (min o[posR r o].arrived r.arrived))).flatMap Rep.cs))
def StepB (o:List Rep)(r:Rep)(s:D)(bs:List D)(s':D)(bs':List D):Prop:=(∀h:posR r o<o.length,key o[posR r o]≠key r)∧∃y1 b1 s1 b2 s2 y3,D.sub 7 s (I 0) (In (posR r o))=some y1∧D.apph 45 7 56 (.st bs) .snil y1=some (.st b1)∧D.apps (.st bs) .snil y1=some s1 ∧
 D.apph 45 7 56 (.st b1) s1 (.lst [r.d])=some (.st b2)∧D.apps (.st b1) s1 (.lst [r.d])=some s2∧D.sub 7 s (In (posR r o)) (In o.length)=some y3∧D.apph 45 7 56 (.st b2) s2 y3=some (.st bs')∧D.apps (.st b2) s2 y3=some s'

theorem step_ex {o:List Rep}{s:D}{bs:List D}(hs:SlOf bs 45 7 Rep.cs s o)(hL:o.length≤1000000)(r:Rep):∃s' bs',(StepA o r s bs s' bs'∨StepB o r s bs s' bs')∧SlOf bs' 45 7 Rep.cs s' (ins r o):=by
 by_cases hk:∃h:posR r o<o.length,key o[posR r o]=key r
 ·obtain⟨h,hk⟩:=hk
  rcases hs with⟨rfl,_⟩ | ⟨b,rfl,hb⟩
  ·exact absurd h (Nat.not_lt_zero _)
  ·refine⟨_,_,.inl ⟨b,h,hk,rfl,rfl,rfl⟩,.inr ⟨b,?_,?_⟩⟩
   ·rw[ins_same r h hk,List.length_set]
   ·rw[ins_same r h hk,List.getElem?_set_self (List.getElem?_eq_some_iff.1 hb).1]
 ·have hk':∀h:posR r o<o.length,key o[posR r o]≠key r:=fun h e=>hk ⟨h,e⟩
  have hp:=posR_le r o
  obtain⟨y1,q1,q2⟩:=hs.part (fun _=>rfl) (by omega) (lo:=0) (hi:=posR r o) (by omega) hp
  obtain⟨y3,q3,q4⟩:=hs.part (fun _=>rfl) (by omega) (lo:=posR r o) (hi:=o.length) hp (Nat.le_refl _)
  have e1:(o.drop 0).take (posR r o-0)=o.take (posR r o):=by simp
  have e3:(o.drop (posR r o)).take (o.length-posR r o)=o.drop (posR r o):=by rw[←List.length_drop,List.take_length]
  rw[e1] at q2
  rw[e3] at q4
  have hlt:(o.take (posR r o)).length=posR r o:=by rw[List.length_take];omega
  obtain⟨b1,s1,a1,p1,w1,l1,k1,n1⟩:=SlOf.app (e:=45) (sz:=7) (enc:=Rep.cs) (bs:=bs) (s:=.snil) (xs:=[]) (.inl ⟨rfl,rfl⟩) (fun _=>rfl) (bytes:=56) (q2 bs fun _ _=>rfl) rcs_one (by rw[hlt];simp;omega) (by rw[hlt];simp[maxLen];omega)
  obtain⟨b2,s2,a2,p2,w2,l2,k2,n2⟩:=w1.app (fun _=>rfl) (bytes:=56) (y:=.lst [r.d]) (ys:=[r]) (AsOf.lst (sz:=7) (enc:=Rep.cs) (d:=Rep.d) (fun _=>rfl) (fun _=>rfl) [r]) rcs_one (by simp[hlt];omega) (by simp[hlt,maxLen];omega)
  have hold:∀b,s.sid=some b→b2[b]? = bs[b]?:=fun b hb=>by
   have hbl:b<bs.length:=by
    rcases hs with⟨_,rfl⟩ | ⟨i,rfl,hi⟩
    ·cases hb
    ·cases hb
     exact(List.getElem?_eq_some_iff.1 hi).1
   rw[k2 b (by omega) (fun e=>by rcases n1 b e with h | h <;> first | omega | cases h),k1 b hbl (by simp[D.sid])]
  obtain⟨b3,s3,a3,p3,w3,_⟩:=w2.app (fun _=>rfl) (bytes:=56) (q4 b2 hold) rcs_one (by simp;omega) (by simp[maxLen];omega)
  refine⟨s3,b3,.inr ⟨hk',y1,b1,s1,b2,s2,y3,q1,a1,p1,a2,p2,q3,a3,p3⟩,?_⟩
  rw[ins_new r hk']
  exact w3

theorem c22raw (l:List Rep)(hL:l.length≤1000000):∃s bs',FSpecW Try.prog 22 (.st []) [.lst (l.map Rep.d)] s (.st bs')∧SlOf bs' 45 7 Rep.cs s (logR l):=by
 obtain⟨g,hg0,hgI,hgR⟩:=seqOf (N:=l.length) (s0:=[D.snil]) (J:=fun k st=>SlOf st.tail 45 7 Rep.cs (st.headD .snil) (logR (l.take k))) (R:=fun k st st'=>∀hk:k<l.length,StepA (logR (l.take k)) l[k] (st.headD .snil) st.tail (st'.headD .snil) st'.tail∨StepB (logR (l.take k)) l[k] (st.headD .snil) st.tail (st'.headD .snil) st'.tail) (.inl ⟨by simp[logR],rfl⟩) (fun k st hk hJ=>by
  have hle:=log_lenN (l.take k)
  rw[List.length_take] at hle
  obtain⟨s',bs',h1,h2⟩:=step_ex hJ (by omega) l[k]
  refine⟨s' :: bs',fun _=>h1,?_⟩
  rw[List.take_succ_eq_append_getElem hk,log_snoc]
  exact h2)
 have hend:=hgI _ (Nat.le_refl l.length)
 rw[List.take_length] at hend
 refine⟨_,_,?_,hend⟩
 refine ku22.W rfl ?_
 unfold u22
 simp only[ups_cons,ups_nil,List.cons_append,List.nil_append]
 repeat' ((with_reducible refine u_join ?_))
 refine u_range (fun i=>[(g i).headD .snil,In i,.st (g i).tail]) (fun _=>True) l.length (by rw[hg0];rfl) (fun _=>rfl) trivial (fun i hi _ R hR=>?_) (fun _ R=>?_)
 ·have hli:decide ((i:Int)<(l.length:Int))=true:=by simp;omega
  have hI:=hgI i (by omega)
  have hRr:=hgR i hi hi
  have hol:=log_lenN (l.take i)
  rw[List.length_take] at hol
  have her:D.eaddr 7 (.lst (l.map Rep.d)) (In i)=some (.ptr l[i].cs):=eaddr_get hi rfl
  generalize(g i).headD .snil=s at hI hRr ⊢
  generalize(g i).tail=bs at hI hRr ⊢
  generalize(g (i+1)).headD .snil=s' at hRr hR
  generalize(g (i+1)).tail=bs' at hRr hR
  generalize l[i]=r at hRr her
  generalize logR (l.take i)=o at hI hRr hol
  have hp:=posR_le r o
  have hlen:=hI.len
  repeat' (first|(apply nrm;simp only[sbe];rfl)|(apply u_iteT;rfl;exact hli)|(apply u_lenL;rfl;exact lenL_map;simp only[sbe];rfl)|(apply u_ev;rfl;simp only[sbe];rfl)|refine u_join ?_)
  refine u_range (fun k=>[In k]) (fun _=>True) (posR r o) rfl (fun _=>rfl) trivial (fun k hk _ R' hR'=>?_) (fun _ R'=>?_)
  ·have hko:k<o.length:=by omega
   have hlk:decide ((k:Int)<(o.length:Int))=true:=by simp;omega
   have h61:=c61 (bs:=bs) o[k] r
   rw[posR_lt r hk] at h61
   obtain⟨b,rfl,hb⟩:=hI.get hko
   have hld:D.ld true 7 (.st bs) (.loc b (k*7))=some o[k].d:=ld_el hb (fun _=>rfl) (List.getElem?_eq_getElem hko)
   have hc:(decide ((k:Int)<(o.length:Int))&&true)=true:=by rw[hlk];rfl
   repeat' (first|(apply nrm;simp only[sbe];rfl)|(apply u_iteT;rfl;exact hc)|(apply u_ld;rfl;rfl;exact hld;simp only[sbe];rfl)|(apply u_eaddr;rfl;rfl;(·first|exact eaddr_sl hko|exact her);simp only[sbe];rfl)|(apply u_lenL;rfl;exact hlen;simp only[sbe];rfl)|(apply u_inc;rfl;omega;simp only[sbe];rfl)|(apply u_ev;rfl;simp only[sbe];rfl)|(apply u_call;rfl;rfl;exact h61;rfl;simp only[sbe];rfl)|(apply u_and;rfl)|refine u_join ?_|(apply u_jump;rfl;rfl)|refine at_jump ?_|refine kj rfl ?_|exact u_ret rfl rfl|(intro hz;(try simp only[sbs] at hz)))
   exact hR' trivial
  ·rcases hRr with⟨b,h,hk,rfl,rfl,rfl⟩ | ⟨hk,y1,b1,s1,b2,s2,y3,q1,a1,p1,a2,p2,q3,a3,p3⟩
   ·have hlk:decide ((posR r o:Int)<(o.length:Int))=true:=by simp;omega
    have h61:=c61 (bs:=bs) o[posR r o] r
    rw[posR_at r h] at h61
    have h62:=c62 (bs:=bs) o[posR r o] r
    rw[decide_eq_true hk] at h62
    obtain⟨b',hb',hb⟩:=hI.get h
    cases hb'
    have hx:=List.getElem?_eq_getElem h
    have hld:D.ld true 7 (.st bs) (.loc b (posR r o*7))=some o[posR r o].d:=ld_el hb (fun _=>rfl) hx
    have hla:D.ld false 1 (.st bs) (.loc b (posR r o*7+6))=some (I o[posR r o].arrived):=ld_elc hb (fun _=>rfl) hx rfl
    have hmm:D.mm false (I o[posR r o].arrived) (I r.arrived)=some (I (min o[posR r o].arrived r.arrived)):=mm_min _ _
    have hst:=sto_el (o:=6) (x':=setA o[posR r o] (min o[posR r o].arrived r.arrived)) (d:=I (min o[posR r o].arrived r.arrived)) hb (fun _=>rfl) hx (by omega) rfl rfl
    have hc1:(decide ((posR r o:Int)<(o.length:Int))&&false)=false:=by simp
    have hc2:(decide ((posR r o:Int)<(o.length:Int))&&true)=true:=by rw[hlk];rfl
    repeat' (first|(apply nrm;simp only[sbe];rfl)|(apply u_iteT;rfl;exact hc2)|(apply u_iteF;rfl;exact hc1)|(apply u_chk;rfl)|(apply u_ld;rfl;rfl;(·first|exact hld|exact hla);simp only[sbe];rfl)|(apply u_eaddr;rfl;rfl;(·first|exact eaddr_sl h|exact her);simp only[sbe];rfl)|(apply u_lenL;rfl;exact hlen;simp only[sbe];rfl)|(apply u_sto;rfl;rfl;rfl;exact hst;simp only[sbe];rfl)|(apply u_mm;rfl;rfl;exact hmm;simp only[sbe];rfl)|(apply u_inc;rfl;omega;simp only[sbe];rfl)|(apply u_ev;rfl;simp only[sbe];rfl)|(apply u_call;rfl;rfl;(·first|exact h61|exact h62);rfl;simp only[sbe];rfl)|(apply u_and;rfl)|(apply u_jump;rfl;rfl)|refine at_jump ?_|(refine over_jump (by decide) ?_)|refine kj rfl ?_|exact u_ret rfl rfl|(intro hz;(try simp only[sbs] at hz)))
    exact hR trivial
   ·have hss:D.same (.agg (List.take 7 r.cs)) (.agg (List.take 7 r.cs))=true:=by simp[Rep.cs,D.same,D.sames,Value.same]
    by_cases h:posR r o<o.length
    ·have hlk:decide ((posR r o:Int)<(o.length:Int))=true:=by simp;omega
     have h61:=c61 (bs:=bs) o[posR r o] r
     rw[posR_at r h] at h61
     have h62:=c62 (bs:=bs) o[posR r o] r
     rw[decide_eq_false (hk h)] at h62
     obtain⟨b,rfl,hb⟩:=hI.get h
     have hx:=List.getElem?_eq_getElem h
     have hld:D.ld true 7 (.st bs) (.loc b (posR r o*7))=some o[posR r o].d:=ld_el hb (fun _=>rfl) hx
     have hc1:(decide ((posR r o:Int)<(o.length:Int))&&false)=false:=by simp
     repeat' (first|(apply nrm;simp only[sbe];rfl)|(apply u_iteF;rfl;exact hc1)|(apply u_same;exact e_ld' rfl rfl rfl;exact e_ld' rfl rfl rfl;exact hss;simp only[sbe];rfl)|(apply u_ld;rfl;rfl;exact hld;simp only[sbe];rfl)|(apply u_eaddr;rfl;rfl;(·first|exact eaddr_sl h|exact her);simp only[sbe];rfl)|(apply u_lenL;rfl;exact hlen;simp only[sbe];rfl)|(apply u_subl;rfl;rfl;rfl;exact q1;simp only[sbe];rfl)|(apply u_inc;rfl;omega;simp only[sbe];rfl)|(apply u_ev;(·first|exact e_sub rfl rfl (e_lenL rfl hlen) q3|exact e_apph rfl rfl rfl a1|exact e_apph rfl (ev_apps rfl rfl rfl p1) rfl a2|exact e_apph rfl (ev_apps rfl (ev_apps rfl rfl rfl p1) rfl p2) rfl a3);simp only[sbe];rfl)|(apply u_ev;rfl;simp only[sbe];rfl)|(apply u_call;rfl;rfl;(·first|exact h61|exact h62);rfl;simp only[sbe];rfl)|(apply u_and;rfl)|(apply u_jump;rfl;(·exact evC (ev_apps rfl (ev_apps rfl (ev_apps rfl rfl rfl p1) rfl p2) rfl p3) (evC rfl rfl)))|(apply u_jump;rfl;rfl)|refine at_jump ?_|(refine over_jump (by decide) ?_)|refine kj rfl ?_|exact u_ret rfl rfl|(intro hz;(try simp only[sbs] at hz)))
     exact hR trivial
    ·have hc1:decide ((posR r o:Int)<(o.length:Int))=false:=by simp;omega
     repeat' (first|(apply nrm;simp only[sbe];rfl)|(apply u_andF;rfl;exact hc1)|(apply u_same;exact e_ld' rfl rfl rfl;exact e_ld' rfl rfl rfl;exact hss;simp only[sbe];rfl)|(apply u_eaddr;rfl;rfl;exact her;simp only[sbe];rfl)|(apply u_lenL;rfl;exact hlen;simp only[sbe];rfl)|(apply u_subl;rfl;rfl;rfl;exact q1;simp only[sbe];rfl)|(apply u_inc;rfl;omega;simp only[sbe];rfl)|(apply u_ev;(·first|exact e_sub rfl rfl (e_lenL rfl hlen) q3|exact e_apph rfl rfl rfl a1|exact e_apph rfl (ev_apps rfl rfl rfl p1) rfl a2|exact e_apph rfl (ev_apps rfl (ev_apps rfl rfl rfl p1) rfl p2) rfl a3);simp only[sbe];rfl)|(apply u_ev;rfl;simp only[sbe];rfl)|(apply u_jump;rfl;(·exact evC (ev_apps rfl (ev_apps rfl (ev_apps rfl rfl rfl p1) rfl p2) rfl p3) (evC rfl rfl)))|(apply u_jump;rfl;rfl)|refine at_jump ?_|(refine over_jump (by decide) ?_)|refine kj rfl ?_|(apply u_ite;rfl;all_goals (intro hz;(try simp only[sbs] at hz);first|(exact absurd hz (by decide))|(exfalso;omega)|skip)))
     exact hR trivial
 ·have hli:decide ((l.length:Int)<(l.length:Int))=false:=by simp
  repeat' (first|(apply nrm;simp only[sbe];rfl)|(apply u_iteF;rfl;exact hli)|(apply u_lenL;rfl;exact lenL_map;simp only[sbe];rfl)|(apply u_ev;rfl;simp only[sbe];rfl)|(apply u_jump;rfl;rfl)|refine at_jump ?_|(refine over_jump (by decide) ?_)|refine kj rfl ?_|exact u_ret rfl rfl)

theorem c22 {l:List Rep}{bs:List D}(hL:l.length≤1000000):FSpecR Try.prog 22 (.st bs) [.lst (l.map Rep.d)] (.lst ((logR l).map Rep.d)):=by
 obtain⟨s,b1,h1,hs⟩:=c22raw l hL
 have n1:=noid_reps l
 have n2:=noid_reps (logR l)
 have key:∃b2,FSpecW Try.prog 22 (.st []) [.lst (l.map Rep.d)] (.lst ((logR l).map Rep.d)) (.st b2):=by
  rcases hs with⟨h2,rfl⟩ | ⟨b,rfl,hb⟩
  ·rw[h2]
   exact⟨b1,FSpecW.frzNil h1⟩
  ·exact⟨_,FSpecW.frz (sz:=7) h1 hb (by rw[flat_length (enc:=Rep.cs) (sz:=7) (fun _=>rfl)]) (es:=(logR l).map Rep.d) (by simp) (fun i x hx=>by
    rw[List.getElem?_map] at hx
    obtain⟨r,hr,rfl⟩:=Option.map_eq_some_iff.1 hx
    refine⟨rfl,fun q c hc=>?_⟩
    obtain⟨t,ht⟩:=flat_drop (enc:=Rep.cs) (sz:=7) (fun _=>rfl) hr
    have hc':r.cs[q]? = some c:=hc
    rw[←List.getElem?_drop,ht,List.getElem?_append_left (List.getElem?_eq_some_iff.1 hc').1]
    exact hc')⟩
 obtain⟨b2,h2⟩:=key
 exact FSpecWO.localize h2 (by simp only[noids,n1,Bool.and_self]) n2 bs

end Go.Am.Wr

/-
 The laws of what is known,of quarrels,of stretches.
-/
namespace Go.Am.Wr
open Go.Proofs
set_option maxRecDepth 100000
set_option maxHeartbeats 4000000

attribute [local irreducible] inR

variable {bs:List D} {n j:Nat} {x:Pla}

theorem Lg.wok (h:Lg bs j x.f x.s x.l n)(hl:x.l.length≤25):WOk n x.f x.s (logR x.l) where
 fok:=h.fok
 pl:=h.pl
 cars:=h.cars
 ord:=ord_log _
 right r hr:=h.right r ((mem_log r).1 hr).1
 len:=by
  have h1:=log_len (rs:=x.l) rfl
  have h2:=fold_len x.l []
  simp at h2
  omega

theorem ev2W {env:List D}{x0 x1:E}{d0 d1:D}(a:x0.eval env=some d0)(b:x1.eval env=some d1)(h0:d0.noid=true)(h1:d1.noid=true):evalAll env [E.m4 .noids x0 .nil .nil .nil,E.m4 .noids x1 .nil .nil .nil]=some [d0,d1]:=evNc a h0 (evNc b h1 evN0)

end Go.Am.Wr

/-
 The laws of counts and of times.
-/
namespace Go.Am.Wr
open Go.Proofs
set_option maxRecDepth 100000
set_option maxHeartbeats 4000000

attribute [local irreducible] inR

variable {bs:List D} {n j:Nat} {x:Pla}

theorem c37x (L:List Nat)(h:L.length≤1000000):FSpecR Try.prog 37 (.st bs) [Ix L,Ix L] (B true):=by
 have h1:=c37 (bs:=bs) (L.map Int.ofNat) (L.map Int.ofNat) (by simpa using h)
 rw[decide_eq_true rfl] at h1
 have e:D.lst ((L.map Int.ofNat).map I)=Ix L:=by rw[List.map_map];rfl
 rw[e] at h1
 exact h1

theorem gaps_len (W:List Rep)(s:Int):(gapsR W s).length≤1000:=by
 have h:∀(l:List Rep) (next:Int) (out:List Int),out.length≤1000→(gapsGo s l next out).length≤1000:=by
  intro l
  induction l with
  | nil=>intro next out ho;exact ho
  | cons r l ih=>
   intro next out ho
   unfold gapsGo
   split
   ·exact ih _ _ (fill_len ho)
   ·exact ih _ _ ho
 exact h W 0 [] (by simp)

theorem c11 (hx:x.Ok)(t src:Int):∃h',FSpecWO Try.prog 11 (.st []) [x.d,I t,I src] (.ret (B true)) h':=by
 have h27:=c27 (bs:=[]) hx.places
 have hn:=noid_pla x
 cases hf:fineB x
 ·rw[hf] at h27
  obtain⟨b1,h17,_⟩:=knownOK (bs:=[]) rfl
  refine⟨.st b1,ku11.W rfl ?_⟩
  unfold u11
  simp only[ups_cons,ups_nil,List.cons_append,List.nil_append]
  repeat' (first|(apply u_iteT;rfl;exact rfl)|(apply u_chk;rfl)|(apply u_ev;rfl;simp only[sbe];rfl)|(apply u_call;rfl;exact evN1 rfl hn;exact h27;rfl;simp only[sbe];rfl)|(apply u_wcall;rfl;rfl;exact h17;rfl;simp only[sbe];rfl)|exact u_ret rfl rfl)
 ·rw[hf] at h27
  obtain⟨b1,j,h28,L1,g1,_⟩:=c28 hf (bs:=[]) rfl
  have hl:=(fit_of (by unfold fineB at hf;simp only[Bool.and_eq_true] at hf;exact hf.1.1)).l
  have hW:=L1.wok hl
  have h22:=c22 (bs:=[]) (l:=x.l) (by omega)
  have h32:=c32W (bs:=[]) hW t
  have h43:=c43W (bs:=[]) hW src
  have hnx:=noid_reps x.l
  have hWl:=hW.len
  have hil:=idx_le (logR x.l) t
  have hgl:=gaps_len (logR x.l) src
  have h37a:=c37x (bs:=[]) (idxP (logR x.l) t) (by omega)
  have h37b:=c37 (bs:=[]) (gapsR (logR x.l) src) (gapsR (logR x.l) src) (by omega)
  rw[decide_eq_true rfl] at h37b
  cases hc:(decide (t<0)||decide (t > 1000000000000)) <;> cases hd:(decide (src<0)||decide (src≥(x.s.length:Int)))
  ·obtain⟨b2,h41,g2⟩:=c41 L1 (t:=t) (by unfold inR;simp at hc ⊢;omega)
   obtain⟨b3,h42,g3⟩:=c42 (L1.keep g2) (src:=src) (by unfold inR;simp at hd ⊢;omega)
   obtain⟨b4,h17,_⟩:=knownOK ((L1.keep g2).keep g3).ny
   refine⟨.st b4,?_⟩
   obtain⟨W,hWW⟩:∃W,W=logR x.l:=⟨_,rfl⟩
   rw[←hWW] at h22 h32 h43 h37a h37b h41 h42
   refine ku11.W rfl ?_
   unfold u11
   simp only[ups_cons,ups_nil,List.cons_append,List.nil_append]
   repeat' (first|(apply nrm;simp only[sbe];rfl)|(apply u_genW;rfl;exact rfl;rfl;rfl;exact h17;rfl;simp only[sbe];rfl)|(apply u_iteF;rfl;(·first|exact hc|exact hd|exact rfl))|(apply u_chk;rfl)|(apply u_lenL;rfl;exact lenL_map;simp only[sbe];rfl)|(apply u_sel;rfl;rfl;rfl;(·simp only[sbe,List.zipWith_cons_cons,List.zipWith_nil_left,selD];rfl))|(apply u_ev;rfl;simp only[sbe];rfl)|(apply u_call;rfl;(·first|exact evN1 rfl hn|exact evN1 rfl hnx|exact ev2W rfl rfl (noid_reps W) rfl|exact ev2W rfl rfl (noid_Ix _) (noid_Ix _)|exact ev2W rfl rfl (noid_Is _) (noid_Is _));(·first|exact h27|exact h22|exact h32|exact h37a|exact h43|exact h37b);rfl;simp only[sbe];rfl)|(apply u_wcall;rfl;rfl;(·first|exact h28|exact h41|exact h42);rfl;simp only[sbe];rfl)|(apply u_or;rfl)|(apply u_and;rfl)|refine u_join ?_|(apply u_jump;rfl;rfl)|refine at_jump ?_|refine kj rfl ?_|exact u_ret rfl rfl|(intro hz;(try simp only[sbs] at hz)))
  ·obtain⟨b2,h41,g2⟩:=c41 L1 (t:=t) (by unfold inR;simp at hc ⊢;omega)
   have h42:=c42b (L1.keep g2) (src:=src) (by unfold inR;simp at hd ⊢;omega)
   obtain⟨b4,h17,_⟩:=knownOK (L1.keep g2).ny
   refine⟨.st b4,?_⟩
   obtain⟨W,hWW⟩:∃W,W=logR x.l:=⟨_,rfl⟩
   rw[←hWW] at h22 h32 h43 h37a h37b h41
   refine ku11.W rfl ?_
   unfold u11
   simp only[ups_cons,ups_nil,List.cons_append,List.nil_append]
   repeat' (first|(apply nrm;simp only[sbe];rfl)|(apply u_genW;rfl;exact rfl;rfl;rfl;exact h17;rfl;simp only[sbe];rfl)|(apply u_iteT;rfl;exact hd)|(apply u_iteF;rfl;(·first|exact hc|exact rfl))|(apply u_chk;rfl)|(apply u_lenL;rfl;exact lenL_map;simp only[sbe];rfl)|(apply u_sel;rfl;rfl;rfl;(·simp only[sbe,List.zipWith_cons_cons,List.zipWith_nil_left,selD];rfl))|(apply u_ev;rfl;simp only[sbe];rfl)|(apply u_call;rfl;(·first|exact evN1 rfl hn|exact evN1 rfl hnx|exact ev2W rfl rfl (noid_reps W) rfl|exact ev2W rfl rfl (noid_Ix _) (noid_Ix _));(·first|exact h27|exact h22|exact h32|exact h37a);rfl;simp only[sbe];rfl)|(apply u_wcall;rfl;rfl;(·first|exact h28|exact h41|exact h42);rfl;simp only[sbe];rfl)|(apply u_or;rfl)|(apply u_and;rfl)|refine u_join ?_|(apply u_jump;rfl;rfl)|refine at_jump ?_|refine kj rfl ?_|exact u_ret rfl rfl|(intro hz;(try simp only[sbs] at hz)))
  ·have h41:=c41b L1 (t:=t) (by unfold inR;simp at hc ⊢;omega)
   obtain⟨b3,h42,g3⟩:=c42 L1 (src:=src) (by unfold inR;simp at hd ⊢;omega)
   obtain⟨b4,h17,_⟩:=knownOK (L1.keep g3).ny
   refine⟨.st b4,?_⟩
   obtain⟨W,hWW⟩:∃W,W=logR x.l:=⟨_,rfl⟩
   rw[←hWW] at h22 h32 h43 h37a h37b h42
   refine ku11.W rfl ?_
   unfold u11
   simp only[ups_cons,ups_nil,List.cons_append,List.nil_append]
   repeat' (first|(apply nrm;simp only[sbe];rfl)|(apply u_genW;rfl;exact rfl;rfl;rfl;exact h17;rfl;simp only[sbe];rfl)|(apply u_iteT;rfl;exact hc)|(apply u_iteF;rfl;(·first|exact hd|exact rfl))|(apply u_chk;rfl)|(apply u_lenL;rfl;exact lenL_map;simp only[sbe];rfl)|(apply u_sel;rfl;rfl;rfl;(·simp only[sbe,List.zipWith_cons_cons,List.zipWith_nil_left,selD];rfl))|(apply u_ev;rfl;simp only[sbe];rfl)|(apply u_call;rfl;(·first|exact evN1 rfl hn|exact evN1 rfl hnx|exact ev2W rfl rfl (noid_reps W) rfl|exact ev2W rfl rfl (noid_Is _) (noid_Is _));(·first|exact h27|exact h22|exact h43|exact h37b);rfl;simp only[sbe];rfl)|(apply u_wcall;rfl;rfl;(·first|exact h28|exact h41|exact h42);rfl;simp only[sbe];rfl)|(apply u_or;rfl)|(apply u_and;rfl)|refine u_join ?_|(apply u_jump;rfl;rfl)|refine at_jump ?_|refine kj rfl ?_|exact u_ret rfl rfl|(intro hz;(try simp only[sbs] at hz)))
  ·have h41:=c41b L1 (t:=t) (by unfold inR;simp at hc ⊢;omega)
   have h42:=c42b L1 (src:=src) (by unfold inR;simp at hd ⊢;omega)
   obtain⟨b4,h17,_⟩:=knownOK L1.ny
   refine⟨.st b4,?_⟩
   obtain⟨W,hWW⟩:∃W,W=logR x.l:=⟨_,rfl⟩
   rw[←hWW] at h22 h32 h43 h37a h37b
   refine ku11.W rfl ?_
   unfold u11
   simp only[ups_cons,ups_nil,List.cons_append,List.nil_append]
   repeat' (first|(apply nrm;simp only[sbe];rfl)|(apply u_genW;rfl;exact rfl;rfl;rfl;exact h17;rfl;simp only[sbe];rfl)|(apply u_iteT;rfl;(·first|exact hc|exact hd))|(apply u_iteF;rfl;exact rfl)|(apply u_chk;rfl)|(apply u_lenL;rfl;exact lenL_map;simp only[sbe];rfl)|(apply u_sel;rfl;rfl;rfl;(·simp only[sbe,List.zipWith_cons_cons,List.zipWith_nil_left,selD];rfl))|(apply u_ev;rfl;simp only[sbe];rfl)|(apply u_call;rfl;(·first|exact evN1 rfl hn|exact evN1 rfl hnx);(·first|exact h27|exact h22);rfl;simp only[sbe];rfl)|(apply u_wcall;rfl;rfl;(·first|exact h28|exact h41|exact h42);rfl;simp only[sbe];rfl)|(apply u_or;rfl)|(apply u_and;rfl)|refine u_join ?_|(apply u_jump;rfl;rfl)|refine at_jump ?_|refine kj rfl ?_|exact u_ret rfl rfl|(intro hz;(try simp only[sbs] at hz)))

theorem best_neg {ss:List Src}{W:List Rep}{t car place:Int}:bestN ss W t car place<0↔(idxB W t car place).length=0:=by
 unfold bestN
 cases hp:pick (fun a b=>less4 ss (rAt W a) (rAt W b)) (idxB W t car place) with
 | none=>
  rw[pick_fold] at hp
  have:=pick_none hp
  simp[this]
 | some b=>
  simp only
  constructor
  ·intro h;omega
  ·intro h
   rw[List.eq_nil_of_length_eq_zero h] at hp
   cases hp

theorem ev6W {f:Fld}{ss:List Src}{W:List Rep}{L:List Nat}{c d:Int}{env:List D}{x0 x1 x2 x3 x4 x5:E}(h0:x0.eval env=some f.d)(h1:x1.eval env=some (.lst (ss.map Src.d)))(h2:x2.eval env=some (.lst (W.map Rep.d)))(h3:x3.eval env=some (Ix L))(h4:x4.eval env=some (I c))(h5:x5.eval env=some (I d)):evalAll env [E.m4 .noids x0 .nil .nil .nil,E.m4 .noids x1 .nil .nil .nil,E.m4 .noids x2 .nil .nil .nil,E.m4 .noids x3 .nil .nil .nil,E.m4 .noids x4 .nil .nil .nil,E.m4 .noids x5 .nil .nil .nil]=some [f.d,.lst (ss.map Src.d),.lst (W.map Rep.d),Ix L,I c,I d]:=evNc h0 (noid_fld f) (evNc h1 (noid_srcs ss) (evNc h2 (noid_reps W) (evNc h3 (noid_Ix _) (evNc h4 rfl (evNc h5 rfl evN0)))))
theorem ev5B {ss:List Src}{W:List Rep}{L:List Nat}{c d:Int}{env:List D}{x1 x2 x3 x4 x5:E}(h1:x1.eval env=some (.lst (ss.map Src.d)))(h2:x2.eval env=some (.lst (W.map Rep.d)))(h3:x3.eval env=some (Ix L))(h4:x4.eval env=some (I c))(h5:x5.eval env=some (I d)):evalAll env [E.m4 .noids x1 .nil .nil .nil,E.m4 .noids x2 .nil .nil .nil,E.m4 .noids x3 .nil .nil .nil,E.m4 .noids x4 .nil .nil .nil,E.m4 .noids x5 .nil .nil .nil]=some [.lst (ss.map Src.d),.lst (W.map Rep.d),Ix L,I c,I d]:=evNc h1 (noid_srcs ss) (evNc h2 (noid_reps W) (evNc h3 (noid_Ix _) (evNc h4 rfl (evNc h5 rfl evN0))))

theorem c14 (hx:x.Ok)(car place t:Int):∃h',FSpecWO Try.prog 14 (.st []) [x.d,I car,I place,I t] (.ret (B true)) h':=by
 have h27:=c27 (bs:=[]) hx.places
 have hn:=noid_pla x
 cases hf:fineB x
 ·rw[hf] at h27
  obtain⟨b1,h17,_⟩:=knownOK (bs:=[]) rfl
  refine⟨.st b1,ku14.W rfl ?_⟩
  unfold u14
  simp only[ups_cons,ups_nil,List.cons_append,List.nil_append]
  repeat' (first|(apply u_iteT;rfl;exact rfl)|(apply u_chk;rfl)|(apply u_ev;rfl;simp only[sbe];rfl)|(apply u_call;rfl;exact evN1 rfl hn;exact h27;rfl;simp only[sbe];rfl)|(apply u_wcall;rfl;rfl;exact h17;rfl;simp only[sbe];rfl)|exact u_ret rfl rfl)
 ·rw[hf] at h27
  obtain⟨b1,j,h28,L1,g1,_⟩:=c28 hf (bs:=[]) rfl
  have hpl:=L1.pl
  have hl:=(fit_of (by unfold fineB at hf;simp only[Bool.and_eq_true] at hf;exact hf.1.1)).l
  have hW:=L1.wok hl
  cases hc:(decide (car<1)||decide (car > x.f.cars)||decide (place<0)||decide (place≥x.f.places)||decide (t<0)||decide (t > 1000000000000))
  ·obtain⟨⟨⟨⟨⟨q1,q2⟩,q3⟩,q4⟩,q5⟩,q6⟩:((((1≤car∧car≤x.f.cars)∧0≤place)∧place<x.f.places)∧0≤t)∧t≤1000000000000:=by simpa using hc
   have hchk:chkB x.f car place t=true:=by
    unfold chkB inR
    simp only[Bool.and_eq_true,decide_eq_true_eq]
    omega
   obtain⟨b2,h46,g2⟩:=c46 L1 hchk
   obtain⟨b3,h47,g3⟩:=c47 (L1.keep g2) hchk
   obtain⟨b4,h17,_⟩:=knownOK ((L1.keep g2).keep g3).ny
   have h22:=c22 (bs:=[]) (l:=x.l) (by omega)
   have h32:=c32W (bs:=[]) hW t
   have h48:=c48W (bs:=[]) hW t car place (by omega)
   have h49:=c49W (bs:=[]) hW t car place
   have hnx:=noid_reps x.l
   have hbn:=best_neg (ss:=x.s) (W:=logR x.l) (t:=t) (car:=car) (place:=place)
   have hcond:(!(knP x.f x.s x.f.places.toNat (logR x.l) t car place.toNat).passed||((knP x.f x.s x.f.places.toNat (logR x.l) t car place.toNat).wrong||decide (bestN x.s (logR x.l) t car place<0)))=timeB x.f x.s x.f.places.toNat (logR x.l) t car place:=by
    unfold timeB
    rw[Bool.or_assoc]
    congr 2
    rw[Bool.eq_iff_iff,decide_eq_true_eq,hbn,beq_iff_eq]
    omega
   rw[hcond] at h46
   obtain⟨W,hWW⟩:∃W,W=logR x.l:=⟨_,rfl⟩
   rw[←hWW] at h22 h32 h46 h47 h48 h49 hbn
   obtain⟨BN,hBN⟩:∃BN,BN=bestN x.s W t car place:=⟨_,rfl⟩
   rw[←hBN] at h47 h49
   obtain⟨k,hk⟩:∃k,k=knP x.f x.s x.f.places.toNat W t car place.toNat:=⟨_,rfl⟩
   rw[←hk] at h46 h48
   refine⟨.st b4,?_⟩
   cases hT:timeB x.f x.s x.f.places.toNat W t car place
   ·rw[hT] at h46 h48
    simp only[Bool.false_eq_true,if_false] at h46 h48
    have hn1:(true&&(((0:Int) != 0||k.low != k.low)||k.high != k.high))=false:=by simp
    have hn2:((true&&(((0:Int) != 0||k.low != k.low)||k.high != k.high))||false)=false:=by simp
    by_cases hb:BN<0
    ·rw[if_pos hb] at h47
     have hb':decide (BN<0)=true:=by simp[hb]
     refine ku14.W rfl ?_
     unfold u14
     simp only[ups_cons,ups_nil,List.cons_append,List.nil_append]
     repeat' (first|(apply nrm;simp only[sbe];rfl)|(apply u_genW;rfl;exact rfl;rfl;rfl;exact h17;rfl;simp only[sbe];rfl)|(apply u_andF;rfl;exact rfl)|(apply u_iteT;rfl;exact hb')|(apply u_iteF;rfl;(·first|exact hc|exact rfl|(simp)))|(apply u_chk;rfl)|(apply u_sel;rfl;rfl;rfl;(·simp only[sbe,List.zipWith_cons_cons,List.zipWith_nil_left,selD];rfl))|(apply u_ev;rfl;simp only[sbe];rfl)|(apply u_call;rfl;(·first|exact evN1 rfl hn|exact evN1 rfl hnx|exact ev2W rfl rfl (noid_reps W) rfl|exact ev6W rfl rfl rfl rfl rfl rfl|exact ev5B rfl rfl rfl rfl rfl);(·first|exact h27|exact h22|exact h32|exact h48|exact h49);rfl;simp only[sbe];rfl)|(apply u_wcall;rfl;rfl;(·first|exact h28|exact h46|exact h47);rfl;simp only[sbe];rfl)|(apply u_or;rfl)|(apply u_and;rfl)|exact u_ret rfl rfl|(intro hz;(try simp only[sbs] at hz)))
    ·rw[if_neg hb] at h47
     have hb':decide (BN<0)=false:=by simp at hb ⊢;omega
     have hE:((0:Int)==0&&BN==BN)=true:=by simp
     refine ku14.W rfl ?_
     unfold u14
     simp only[ups_cons,ups_nil,List.cons_append,List.nil_append]
     repeat' (first|(apply nrm;simp only[sbe];rfl)|(apply u_genW;rfl;exact hE;rfl;rfl;exact h17;rfl;simp only[sbe];rfl)|(apply u_andF;rfl;exact rfl)|(apply u_iteF;rfl;(·first|exact hc|exact rfl|exact hb'|(simp)))|(apply u_chk;rfl)|(apply u_sel;rfl;rfl;rfl;(·simp only[sbe,List.zipWith_cons_cons,List.zipWith_nil_left,selD];rfl))|(apply u_ev;rfl;simp only[sbe];rfl)|(apply u_call;rfl;(·first|exact evN1 rfl hn|exact evN1 rfl hnx|exact ev2W rfl rfl (noid_reps W) rfl|exact ev6W rfl rfl rfl rfl rfl rfl|exact ev5B rfl rfl rfl rfl rfl);(·first|exact h27|exact h22|exact h32|exact h48|exact h49);rfl;simp only[sbe];rfl)|(apply u_wcall;rfl;rfl;(·first|exact h28|exact h46|exact h47);rfl;simp only[sbe];rfl)|(apply u_or;rfl)|(apply u_and;rfl)|exact u_ret rfl rfl|(apply u_ret;rfl;first|exact rfl|(refine retB ?_)|(refine retI ?_)|(refine retD ?_))|(intro hz;(try simp only[sbs] at hz)))
     all_goals simp
   ·rw[hT] at h46 h48
    simp only[if_true] at h46 h48
    by_cases hb:BN<0
    ·rw[if_pos hb] at h47
     have hb':decide (BN<0)=true:=by simp[hb]
     refine ku14.W rfl ?_
     unfold u14
     simp only[ups_cons,ups_nil,List.cons_append,List.nil_append]
     repeat' (first|(apply nrm;simp only[sbe];rfl)|(apply u_genW;rfl;exact rfl;rfl;rfl;exact h17;rfl;simp only[sbe];rfl)|(apply u_andF;rfl;exact rfl)|(apply u_iteT;rfl;exact hb')|(apply u_iteF;rfl;(·first|exact hc|exact rfl))|(apply u_chk;rfl)|(apply u_sel;rfl;rfl;rfl;(·simp only[sbe,List.zipWith_cons_cons,List.zipWith_nil_left,selD];rfl))|(apply u_ev;rfl;simp only[sbe];rfl)|(apply u_call;rfl;(·first|exact evN1 rfl hn|exact evN1 rfl hnx|exact ev2W rfl rfl (noid_reps W) rfl|exact ev6W rfl rfl rfl rfl rfl rfl|exact ev5B rfl rfl rfl rfl rfl);(·first|exact h27|exact h22|exact h32|exact h48|exact h49);rfl;simp only[sbe];rfl)|(apply u_wcall;rfl;rfl;(·first|exact h28|exact h46|exact h47);rfl;simp only[sbe];rfl)|(apply u_or;rfl)|(apply u_and;rfl)|exact u_ret rfl rfl|(intro hz;(try simp only[sbs] at hz)))
    ·rw[if_neg hb] at h47
     have hb':decide (BN<0)=false:=by simp at hb ⊢;omega
     have hE:((0:Int)==0&&BN==BN)=true:=by simp
     refine ku14.W rfl ?_
     unfold u14
     simp only[ups_cons,ups_nil,List.cons_append,List.nil_append]
     repeat' (first|(apply nrm;simp only[sbe];rfl)|(apply u_genW;rfl;exact hE;rfl;rfl;exact h17;rfl;simp only[sbe];rfl)|(apply u_andF;rfl;exact rfl)|(apply u_iteF;rfl;(·first|exact hc|exact rfl|exact hb'))|(apply u_chk;rfl)|(apply u_sel;rfl;rfl;rfl;(·simp only[sbe,List.zipWith_cons_cons,List.zipWith_nil_left,selD];rfl))|(apply u_ev;rfl;simp only[sbe];rfl)|(apply u_call;rfl;(·first|exact evN1 rfl hn|exact evN1 rfl hnx|exact ev2W rfl rfl (noid_reps W) rfl|exact ev6W rfl rfl rfl rfl rfl rfl|exact ev5B rfl rfl rfl rfl rfl);(·first|exact h27|exact h22|exact h32|exact h48|exact h49);rfl;simp only[sbe];rfl)|(apply u_wcall;rfl;rfl;(·first|exact h28|exact h46|exact h47);rfl;simp only[sbe];rfl)|(apply u_or;rfl)|(apply u_and;rfl)|exact u_ret rfl rfl|(apply u_ret;rfl;first|exact rfl|(refine retB ?_)|(refine retI ?_)|(refine retD ?_))|(intro hz;(try simp only[sbs] at hz)))
     all_goals simp
  ·have hchk:chkB x.f car place t=false:=by
    unfold chkB inR
    simp only[Bool.and_eq_false_iff,decide_eq_false_iff_not]
    simp at hc
    omega
   have h65:=c65 L1 car place t
   rw[hchk,if_neg (by decide)] at h65
   have h46:=c46b (by rfl) h65 (by decide)
   have h47:=c47b (by rfl) h65 (by decide)
   obtain⟨b4,h17,_⟩:=knownOK L1.ny
   refine⟨.st b4,ku14.W rfl ?_⟩
   unfold u14
   simp only[ups_cons,ups_nil,List.cons_append,List.nil_append]
   repeat' (first|(apply nrm;simp only[sbe];rfl)|(apply u_genW;rfl;exact rfl;rfl;rfl;exact h17;rfl;simp only[sbe];rfl)|(apply u_iteT;rfl;exact hc)|(apply u_iteF;rfl;exact rfl)|(apply u_chk;rfl)|(apply u_sel;rfl;rfl;rfl;(·simp only[sbe,List.zipWith_cons_cons,List.zipWith_nil_left,selD];rfl))|(apply u_ev;rfl;simp only[sbe];rfl)|(apply u_call;rfl;exact evN1 rfl hn;exact h27;rfl;simp only[sbe];rfl)|(apply u_wcall;rfl;rfl;(·first|exact h28|exact h46|exact h47);rfl;simp only[sbe];rfl)|(apply u_or;rfl)|(apply u_and;rfl)|exact u_ret rfl rfl|(intro hz;(try simp only[sbs] at hz)))

end Go.Am.Wr

/-
 Arguments of laws.
-/
namespace Go.Am.Wr

theorem argInt {x:D}(h:ArgSh (.int .i64) x):∃n,x=I n∧i64 n:=by
 obtain⟨n,hn,hb⟩:=ofI (h.2 rfl)
 cases hn
 exact⟨n,rfl,hb⟩

theorem argPla {x:D}(h:ArgSh shPla x):∃p:Pla,x=p.d∧p.Ok:=by
 obtain⟨cs,rfl,hh⟩:=h.1 rfl
 exact ofPla hh

end Go.Am.Wr
