/-
  Several texts, one behind the other.
-/
import Derived.Test.YtgebemgmpfpjbaaWrE9toWrR5
import Derived.Test.YtgebemgmpfpjbaaAmApp
import Derived.Test.YtgebemgmpfpjbaaWrU1toWrE1
set_option linter.unusedSimpArgs false
set_option linter.unusedVariables false
/-
 The specification's log.
-/
namespace Go.Am.Wr
open Go.Proofs
set_option maxRecDepth 100000
set_option maxHeartbeats 4000000

attribute [local irreducible] inR

def posR (r:Rep):List Rep→Nat
 | []=>0
 | x :: xs=>if before x r=true then posR r xs+1 else 0

theorem posR_le (r:Rep):∀o:List Rep,posR r o≤o.length
 | []=>Nat.le_refl _
 | x :: xs=>by
  have:=posR_le r xs
  unfold posR
  split <;> simp <;> omega

theorem posR_lt (r:Rep):∀{o:List Rep} {k:Nat} (h:k<posR r o),before (o[k]'(Nat.lt_of_lt_of_le h (posR_le r o))) r=true
 | [],k,h=>absurd h (Nat.not_lt_zero _)
 | x :: xs,k,h=>by
  unfold posR at h
  split at h
  ·rename_i hb
   cases k with
   | zero=>exact hb
   | succ k=>exact posR_lt r (o:=xs) (by omega)
  ·omega

theorem posR_at (r:Rep):∀{o:List Rep} (h:posR r o<o.length),before o[posR r o] r=false
 | [],h=>absurd h (Nat.not_lt_zero _)
 | x :: xs,h=>by
  by_cases hb:before x r=true
  ·have e:posR r (x :: xs)=posR r xs+1:=by rw[posR,if_pos hb]
   have hl:posR r xs<xs.length:=by rw[e] at h;simpa using h
   simp only[e,List.getElem_cons_succ]
   exact posR_at r hl
  ·have e:posR r (x :: xs)=0:=by rw[posR,if_neg hb]
   simp only[e,List.getElem_cons_zero]
   simpa using hb

theorem ins_same (r:Rep):∀{o:List Rep} (h:posR r o<o.length),key o[posR r o]=key r→ins r o=o.set (posR r o) (setA o[posR r o] (min o[posR r o].arrived r.arrived))
 | [],h,_=>absurd h (Nat.not_lt_zero _)
 | x :: xs,h,hk=>by
  by_cases hb:before x r=true
  ·have e:posR r (x :: xs)=posR r xs+1:=by rw[posR,if_pos hb]
   have hl:posR r xs<xs.length:=by rw[e] at h;simpa using h
   simp only[e,List.getElem_cons_succ] at hk ⊢
   rw[ins,if_pos hb,List.set_cons_succ,ins_same r hl hk]
  ·have e:posR r (x :: xs)=0:=by rw[posR,if_neg hb]
   simp only[e,List.getElem_cons_zero] at hk ⊢
   rw[ins,if_neg hb,if_pos hk,List.set_cons_zero]

theorem ins_new (r:Rep):∀{o:List Rep},(∀h:posR r o<o.length,key o[posR r o]≠key r)→ins r o=o.take (posR r o)++[r]++o.drop (posR r o)
 | [],_=>rfl
 | x :: xs,hk=>by
  by_cases hb:before x r=true
  ·have e:posR r (x :: xs)=posR r xs+1:=by rw[posR,if_pos hb]
   rw[ins,if_pos hb,e,List.take_succ_cons,List.drop_succ_cons]
   rw[ins_new r (o:=xs) fun h=>by
    have:=hk (by rw[e];simpa using h)
    simpa only[e,List.getElem_cons_succ] using this]
   rfl
  ·have e:posR r (x :: xs)=0:=by rw[posR,if_neg hb]
   have:=hk (by rw[e];simp)
   simp only[e,List.getElem_cons_zero] at this
   rw[ins,if_neg hb,if_neg this,e]
   rfl

theorem ins_len (r:Rep):∀o:List Rep,(ins r o).length≤o.length+1
 | []=>by simp[ins]
 | x :: xs=>by
  have:=ins_len r xs
  unfold ins
  split
  ·simp;omega
  ·split <;> simp

theorem log_lenN (l:List Rep):(logR l).length≤l.length:=by
 have h:∀(l o:List Rep),(l.foldl (fun o r=>ins r o) o).length≤o.length+l.length:=by
  intro l
  induction l with
  | nil=>intro o;simp
  | cons r l ih=>
   intro o
   have h1:=ih (ins r o)
   have h2:=ins_len r o
   simp only[List.foldl_cons,List.length_cons]
   omega
 simpa[logR] using h l []

theorem rcs_one (r:Rep):r.cs.all (·.one)=true:=rfl

theorem e_sub {env:List D}{n:Nat}{x y z:E}{dx dy dz d:D}(hx:x.eval env=some dx)(hy:y.eval env=some dy)(hz:z.eval env=some dz)(h:D.sub n dx dy dz=some d):(E.sub n x y z).eval env=some d:=by simp only[E.eval,hx,hy,hz,Option.bind_some,h]
theorem e_lenL {env:List D}{x:E}{dx d:D}(hx:x.eval env=some dx)(h:D.lenL dx=some d):(E.lenL x).eval env=some d:=by simp only[E.eval,hx,Option.bind_some,h]

def StepA (o:List Rep)(r:Rep)(s:D)(bs:List D)(s':D)(bs':List D):Prop:=∃(b:Nat) (h:posR r o<o.length),key o[posR r o]=key r∧s=.sl b 0 o.length∧s'=s∧bs'=bs.set b (.blk 45 7 ((o.set (posR r o) (setA o[posR r o] (min o[posR r o].arrived r.arrived))).flatMap Rep.cs))
def StepB (o:List Rep)(r:Rep)(s:D)(bs:List D)(s':D)(bs':List D):Prop:=(∀h:posR r o<o.length,key o[posR r o]≠key r)∧∃y1 b1 s1 b2 s2 y3,D.sub 7 s (I 0) (In (posR r o))=some y1∧D.apph 45 7 56 (.st bs) .snil y1=some (.st b1)∧D.apps (.st bs) .snil y1=some s1 ∧
 D.apph 45 7 56 (.st b1) s1 (.lst [r.d])=some (.st b2)∧D.apps (.st b1) s1 (.lst [r.d])=some s2∧D.sub 7 s (In (posR r o)) (In o.length)=some y3∧D.apph 45 7 56 (.st b2) s2 y3=some (.st bs')∧D.apps (.st b2) s2 y3=some s'

theorem step_ex {o:List Rep}{s:D}{bs:List D}(hs:SlOf bs 45 7 Rep.cs s o)(hL:o.length≤1000000)(r:Rep):∃s' bs',(StepA o r s bs s' bs'∨StepB o r s bs s' bs')∧SlOf bs' 45 7 Rep.cs s' (ins r o):=by
 by_cases hk:∃h:posR r o<o.length,key o[posR r o]=key r
 ·obtain⟨h,hk⟩:=hk
  rcases hs with⟨rfl,_⟩ | ⟨b,rfl,hb⟩
  ·exact absurd h (Nat.not_lt_zero _)
  ·refine⟨_,_,.inl ⟨b,h,hk,rfl,rfl,rfl⟩,.inr ⟨b,?_,?_⟩⟩
   ·rw[ins_same r h hk,List.length_set]
   ·rw[ins_same r h hk,List.getElem?_set_self (List.getElem?_eq_some_iff.1 hb).1]
 ·have hk':∀h:posR r o<o.length,key o[posR r o]≠key r:=fun h e=>hk ⟨h,e⟩
  have hp:=posR_le r o
  obtain⟨y1,q1,q2⟩:=hs.part (fun _=>rfl) (by omega) (lo:=0) (hi:=posR r o) (by omega) hp
  obtain⟨y3,q3,q4⟩:=hs.part (fun _=>rfl) (by omega) (lo:=posR r o) (hi:=o.length) hp (Nat.le_refl _)
  have e1:(o.drop 0).take (posR r o-0)=o.take (posR r o):=by simp
  have e3:(o.drop (posR r o)).take (o.length-posR r o)=o.drop (posR r o):=by rw[←List.length_drop,List.take_length]
  rw[e1] at q2
  rw[e3] at q4
  have hlt:(o.take (posR r o)).length=posR r o:=by rw[List.length_take];omega
  obtain⟨b1,s1,a1,p1,w1,l1,k1,n1⟩:=SlOf.app (e:=45) (sz:=7) (enc:=Rep.cs) (bs:=bs) (s:=.snil) (xs:=[]) (.inl ⟨rfl,rfl⟩) (fun _=>rfl) (bytes:=56) (q2 bs fun _ _=>rfl) rcs_one (by rw[hlt];simp;omega) (by rw[hlt];simp[maxLen];omega)
  obtain⟨b2,s2,a2,p2,w2,l2,k2,n2⟩:=w1.app (fun _=>rfl) (bytes:=56) (y:=.lst [r.d]) (ys:=[r]) (AsOf.lst (sz:=7) (enc:=Rep.cs) (d:=Rep.d) (fun _=>rfl) (fun _=>rfl) [r]) rcs_one (by simp[hlt];omega) (by simp[hlt,maxLen];omega)
  have hold:∀b,s.sid=some b→b2[b]? = bs[b]?:=fun b hb=>by
   have hbl:b<bs.length:=by
    rcases hs with⟨_,rfl⟩ | ⟨i,rfl,hi⟩
    ·cases hb
    ·cases hb
     exact(List.getElem?_eq_some_iff.1 hi).1
   rw[k2 b (by omega) (fun e=>by rcases n1 b e with h | h <;> first | omega | cases h),k1 b hbl (by simp[D.sid])]
  obtain⟨b3,s3,a3,p3,w3,_⟩:=w2.app (fun _=>rfl) (bytes:=56) (q4 b2 hold) rcs_one (by simp;omega) (by simp[maxLen];omega)
  refine⟨s3,b3,.inr ⟨hk',y1,b1,s1,b2,s2,y3,q1,a1,p1,a2,p2,q3,a3,p3⟩,?_⟩
  rw[ins_new r hk']
  exact w3

theorem c22raw (l:List Rep)(hL:l.length≤1000000):∃s bs',FSpecW Try.prog 22 (.st []) [.lst (l.map Rep.d)] s (.st bs')∧SlOf bs' 45 7 Rep.cs s (logR l):=by
 obtain⟨g,hg0,hgI,hgR⟩:=seqOf (N:=l.length) (s0:=[D.snil]) (J:=fun k st=>SlOf st.tail 45 7 Rep.cs (st.headD .snil) (logR (l.take k))) (R:=fun k st st'=>∀hk:k<l.length,StepA (logR (l.take k)) l[k] (st.headD .snil) st.tail (st'.headD .snil) st'.tail∨StepB (logR (l.take k)) l[k] (st.headD .snil) st.tail (st'.headD .snil) st'.tail) (.inl ⟨by simp[logR],rfl⟩) (fun k st hk hJ=>by
  have hle:=log_lenN (l.take k)
  rw[List.length_take] at hle
  obtain⟨s',bs',h1,h2⟩:=step_ex hJ (by omega) l[k]
  refine⟨s' :: bs',fun _=>h1,?_⟩
  rw[List.take_succ_eq_append_getElem hk,log_snoc]
  exact h2)
 have hend:=hgI _ (Nat.le_refl l.length)
 rw[List.take_length] at hend
 refine⟨_,_,?_,hend⟩
 refine ku22.W rfl ?_
 unfold u22
 simp only[ups_cons,ups_nil,List.cons_append,List.nil_append]
 repeat' ((with_reducible refine u_join ?_))
 refine u_range (fun i=>[(g i).headD .snil,In i,.st (g i).tail]) (fun _=>True) l.length (by rw[hg0];rfl) (fun _=>rfl) trivial (fun i hi _ R hR=>?_) (fun _ R=>?_)
 ·have hli:decide ((i:Int)<(l.length:Int))=true:=by simp;omega
  have hI:=hgI i (by omega)
  have hRr:=hgR i hi hi
  have hol:=log_lenN (l.take i)
  rw[List.length_take] at hol
  have her:D.eaddr 7 (.lst (l.map Rep.d)) (In i)=some (.ptr l[i].cs):=eaddr_get hi rfl
  generalize(g i).headD .snil=s at hI hRr ⊢
  generalize(g i).tail=bs at hI hRr ⊢
  generalize(g (i+1)).headD .snil=s' at hRr hR
  generalize(g (i+1)).tail=bs' at hRr hR
  generalize l[i]=r at hRr her
  generalize logR (l.take i)=o at hI hRr hol
  have hp:=posR_le r o
  have hlen:=hI.len
  repeat' (first|(apply nrm;simp only[sbe];rfl)|(apply u_iteT;rfl;exact hli)|(apply u_lenL;rfl;exact lenL_map;simp only[sbe];rfl)|(apply u_ev;rfl;simp only[sbe];rfl)|refine u_join ?_)
  refine u_range (fun k=>[In k]) (fun _=>True) (posR r o) rfl (fun _=>rfl) trivial (fun k hk _ R' hR'=>?_) (fun _ R'=>?_)
  ·have hko:k<o.length:=by omega
   have hlk:decide ((k:Int)<(o.length:Int))=true:=by simp;omega
   have h61:=c61 (bs:=bs) o[k] r
   rw[posR_lt r hk] at h61
   obtain⟨b,rfl,hb⟩:=hI.get hko
   have hld:D.ld true 7 (.st bs) (.loc b (k*7))=some o[k].d:=ld_el hb (fun _=>rfl) (List.getElem?_eq_getElem hko)
   have hc:(decide ((k:Int)<(o.length:Int))&&true)=true:=by rw[hlk];rfl
   repeat' (first|(apply nrm;simp only[sbe];rfl)|(apply u_iteT;rfl;exact hc)|(apply u_ld;rfl;rfl;exact hld;simp only[sbe];rfl)|(apply u_eaddr;rfl;rfl;(·first|exact eaddr_sl hko|exact her);simp only[sbe];rfl)|(apply u_lenL;rfl;exact hlen;simp only[sbe];rfl)|(apply u_inc;rfl;omega;simp only[sbe];rfl)|(apply u_ev;rfl;simp only[sbe];rfl)|(apply u_call;rfl;rfl;exact h61;rfl;simp only[sbe];rfl)|(apply u_and;rfl)|refine u_join ?_|(apply u_jump;rfl;rfl)|refine at_jump ?_|refine kj rfl ?_|exact u_ret rfl rfl|(intro hz;(try simp only[sbs] at hz)))
   exact hR' trivial
  ·rcases hRr with⟨b,h,hk,rfl,rfl,rfl⟩ | ⟨hk,y1,b1,s1,b2,s2,y3,q1,a1,p1,a2,p2,q3,a3,p3⟩
   ·have hlk:decide ((posR r o:Int)<(o.length:Int))=true:=by simp;omega
    have h61:=c61 (bs:=bs) o[posR r o] r
    rw[posR_at r h] at h61
    have h62:=c62 (bs:=bs) o[posR r o] r
    rw[decide_eq_true hk] at h62
    obtain⟨b',hb',hb⟩:=hI.get h
    cases hb'
    have hx:=List.getElem?_eq_getElem h
    have hld:D.ld true 7 (.st bs) (.loc b (posR r o*7))=some o[posR r o].d:=ld_el hb (fun _=>rfl) hx
    have hla:D.ld false 1 (.st bs) (.loc b (posR r o*7+6))=some (I o[posR r o].arrived):=ld_elc hb (fun _=>rfl) hx rfl
    have hmm:D.mm false (I o[posR r o].arrived) (I r.arrived)=some (I (min o[posR r o].arrived r.arrived)):=mm_min _ _
    have hst:=sto_el (o:=6) (x':=setA o[posR r o] (min o[posR r o].arrived r.arrived)) (d:=I (min o[posR r o].arrived r.arrived)) hb (fun _=>rfl) hx (by omega) rfl rfl
    have hc1:(decide ((posR r o:Int)<(o.length:Int))&&false)=false:=by simp
    have hc2:(decide ((posR r o:Int)<(o.length:Int))&&true)=true:=by rw[hlk];rfl
    repeat' (first|(apply nrm;simp only[sbe];rfl)|(apply u_iteT;rfl;exact hc2)|(apply u_iteF;rfl;exact hc1)|(apply u_chk;rfl)|(apply u_ld;rfl;rfl;(·first|exact hld|exact hla);simp only[sbe];rfl)|(apply u_eaddr;rfl;rfl;(·first|exact eaddr_sl h|exact her);simp only[sbe];rfl)|(apply u_lenL;rfl;exact hlen;simp only[sbe];rfl)|(apply u_sto;rfl;rfl;rfl;exact hst;simp only[sbe];rfl)|(apply u_mm;rfl;rfl;exact hmm;simp only[sbe];rfl)|(apply u_inc;rfl;omega;simp only[sbe];rfl)|(apply u_ev;rfl;simp only[sbe];rfl)|(apply u_call;rfl;rfl;(·first|exact h61|exact h62);rfl;simp only[sbe];rfl)|(apply u_and;rfl)|(apply u_jump;rfl;rfl)|refine at_jump ?_|(refine over_jump (by decide) ?_)|refine kj rfl ?_|exact u_ret rfl rfl|(intro hz;(try simp only[sbs] at hz)))
    exact hR trivial
   ·have hss:D.same (.agg (List.take 7 r.cs)) (.agg (List.take 7 r.cs))=true:=by simp[Rep.cs,D.same,D.sames,Value.same]
    by_cases h:posR r o<o.length
    ·have hlk:decide ((posR r o:Int)<(o.length:Int))=true:=by simp;omega
     have h61:=c61 (bs:=bs) o[posR r o] r
     rw[posR_at r h] at h61
     have h62:=c62 (bs:=bs) o[posR r o] r
     rw[decide_eq_false (hk h)] at h62
     obtain⟨b,rfl,hb⟩:=hI.get h
     have hx:=List.getElem?_eq_getElem h
     have hld:D.ld true 7 (.st bs) (.loc b (posR r o*7))=some o[posR r o].d:=ld_el hb (fun _=>rfl) hx
     have hc1:(decide ((posR r o:Int)<(o.length:Int))&&false)=false:=by simp
     repeat' (first|(apply nrm;simp only[sbe];rfl)|(apply u_iteF;rfl;exact hc1)|(apply u_same;exact e_ld' rfl rfl rfl;exact e_ld' rfl rfl rfl;exact hss;simp only[sbe];rfl)|(apply u_ld;rfl;rfl;exact hld;simp only[sbe];rfl)|(apply u_eaddr;rfl;rfl;(·first|exact eaddr_sl h|exact her);simp only[sbe];rfl)|(apply u_lenL;rfl;exact hlen;simp only[sbe];rfl)|(apply u_subl;rfl;rfl;rfl;exact q1;simp only[sbe];rfl)|(apply u_inc;rfl;omega;simp only[sbe];rfl)|(apply u_ev;(·first|exact e_sub rfl rfl (e_lenL rfl hlen) q3|exact e_apph rfl rfl rfl a1|exact e_apph rfl (ev_apps rfl rfl rfl p1) rfl a2|exact e_apph rfl (ev_apps rfl (ev_apps rfl rfl rfl p1) rfl p2) rfl a3);simp only[sbe];rfl)|(apply u_ev;rfl;simp only[sbe];rfl)|(apply u_call;rfl;rfl;(·first|exact h61|exact h62);rfl;simp only[sbe];rfl)|(apply u_and;rfl)|(apply u_jump;rfl;(·exact evC (ev_apps rfl (ev_apps rfl (ev_apps rfl rfl rfl p1) rfl p2) rfl p3) (evC rfl rfl)))|(apply u_jump;rfl;rfl)|refine at_jump ?_|(refine over_jump (by decide) ?_)|refine kj rfl ?_|exact u_ret rfl rfl|(intro hz;(try simp only[sbs] at hz)))
     exact hR trivial
    ·have hc1:decide ((posR r o:Int)<(o.length:Int))=false:=by simp;omega
     repeat' (first|(apply nrm;simp only[sbe];rfl)|(apply u_andF;rfl;exact hc1)|(apply u_same;exact e_ld' rfl rfl rfl;exact e_ld' rfl rfl rfl;exact hss;simp only[sbe];rfl)|(apply u_eaddr;rfl;rfl;exact her;simp only[sbe];rfl)|(apply u_lenL;rfl;exact hlen;simp only[sbe];rfl)|(apply u_subl;rfl;rfl;rfl;exact q1;simp only[sbe];rfl)|(apply u_inc;rfl;omega;simp only[sbe];rfl)|(apply u_ev;(·first|exact e_sub rfl rfl (e_lenL rfl hlen) q3|exact e_apph rfl rfl rfl a1|exact e_apph rfl (ev_apps rfl rfl rfl p1) rfl a2|exact e_apph rfl (ev_apps rfl (ev_apps rfl rfl rfl p1) rfl p2) rfl a3);simp only[sbe];rfl)|(apply u_ev;rfl;simp only[sbe];rfl)|(apply u_jump;rfl;(·exact evC (ev_apps rfl (ev_apps rfl (ev_apps rfl rfl rfl p1) rfl p2) rfl p3) (evC rfl rfl)))|(apply u_jump;rfl;rfl)|refine at_jump ?_|(refine over_jump (by decide) ?_)|refine kj rfl ?_|(apply u_ite;rfl;all_goals (intro hz;(try simp only[sbs] at hz);first|(exact absurd hz (by decide))|(exfalso;omega)|skip)))
     exact hR trivial
 ·have hli:decide ((l.length:Int)<(l.length:Int))=false:=by simp
  repeat' (first|(apply nrm;simp only[sbe];rfl)|(apply u_iteF;rfl;exact hli)|(apply u_lenL;rfl;exact lenL_map;simp only[sbe];rfl)|(apply u_ev;rfl;simp only[sbe];rfl)|(apply u_jump;rfl;rfl)|refine at_jump ?_|(refine over_jump (by decide) ?_)|refine kj rfl ?_|exact u_ret rfl rfl)

theorem c22 {l:List Rep}{bs:List D}(hL:l.length≤1000000):FSpecR Try.prog 22 (.st bs) [.lst (l.map Rep.d)] (.lst ((logR l).map Rep.d)):=by
 obtain⟨s,b1,h1,hs⟩:=c22raw l hL
 have n1:=noid_reps l
 have n2:=noid_reps (logR l)
 have key:∃b2,FSpecW Try.prog 22 (.st []) [.lst (l.map Rep.d)] (.lst ((logR l).map Rep.d)) (.st b2):=by
  rcases hs with⟨h2,rfl⟩ | ⟨b,rfl,hb⟩
  ·rw[h2]
   exact⟨b1,FSpecW.frzNil h1⟩
  ·exact⟨_,FSpecW.frz (sz:=7) h1 hb (by rw[flat_length (enc:=Rep.cs) (sz:=7) (fun _=>rfl)]) (es:=(logR l).map Rep.d) (by simp) (fun i x hx=>by
    rw[List.getElem?_map] at hx
    obtain⟨r,hr,rfl⟩:=Option.map_eq_some_iff.1 hx
    refine⟨rfl,fun q c hc=>?_⟩
    obtain⟨t,ht⟩:=flat_drop (enc:=Rep.cs) (sz:=7) (fun _=>rfl) hr
    have hc':r.cs[q]? = some c:=hc
    rw[←List.getElem?_drop,ht,List.getElem?_append_left (List.getElem?_eq_some_iff.1 hc').1]
    exact hc')⟩
 obtain⟨b2,h2⟩:=key
 exact FSpecWO.localize h2 (by simp only[noids,n1,Bool.and_self]) n2 bs

end Go.Am.Wr

/-
 The laws of what is known,of quarrels,of stretches.
-/
namespace Go.Am.Wr
open Go.Proofs
set_option maxRecDepth 100000
set_option maxHeartbeats 4000000

attribute [local irreducible] inR

variable {bs:List D} {n j:Nat} {x:Pla}

theorem Lg.wok (h:Lg bs j x.f x.s x.l n)(hl:x.l.length≤25):WOk n x.f x.s (logR x.l) where
 fok:=h.fok
 pl:=h.pl
 cars:=h.cars
 ord:=ord_log _
 right r hr:=h.right r ((mem_log r).1 hr).1
 len:=by
  have h1:=log_len (rs:=x.l) rfl
  have h2:=fold_len x.l []
  simp at h2
  omega

theorem ev2W {env:List D}{x0 x1:E}{d0 d1:D}(a:x0.eval env=some d0)(b:x1.eval env=some d1)(h0:d0.noid=true)(h1:d1.noid=true):evalAll env [E.m4 .noids x0 .nil .nil .nil,E.m4 .noids x1 .nil .nil .nil]=some [d0,d1]:=evNc a h0 (evNc b h1 evN0)

end Go.Am.Wr

/-
 The laws of counts and of times.
-/
namespace Go.Am.Wr
open Go.Proofs
set_option maxRecDepth 100000
set_option maxHeartbeats 4000000

attribute [local irreducible] inR

variable {bs:List D} {n j:Nat} {x:Pla}

end Go.Am.Wr

/-
 The law of other logs,as a text.
-/
namespace Go.Am.Wr
open Go.Proofs
def wcd (ro:Bool)(dats more:List Nat)(frzs:List (Nat×Nat))(fn:Func):StCfg:={ wcf ro more frzs fn with dats:=dats }

end Go.Am.Wr

/-
 The law of reports,as a text.
-/
namespace Go.Am.Wr
open Go.Proofs

noncomputable def u3:U:=(ups [.chk (.aggN 5 y0),
 .call 16 (.const (.st [])) [(.m4 .noids (agc 5 y0) .nil .nil .nil)] [true],
 .ev (.un .not y3),
 .chain true y4 (ups [.ev (.lenL y1),
 .ev (.bin .gtr .int y5 (ki 10))]
 (.ret y6))]
 (.ite y5 (ups [.wcall 17 y2 [] [true]]
 (.ret (.tcons y6 (.tcons y7 .tnil)))) (ups [.wcall 18 y2 [(agc 3 y0),(.cell 3 y0)] [true,true],
 .call 19 (.const (.st [])) [(.m4 .noids (agc 3 y0) .nil .nil .nil),(.m4 .noids (.cell 3 y0) .nil .nil .nil)] [true],
 .ev (.un .not y8)]
 (.ite y9 (ups [.ev (.bin .eql .int (.tget 1 y6) (ki 2)),
 .chain false y10 (ups [.chk (.tget 0 y6),
 .ev (.bin .eql .ptr (.tget 0 y6) (.const (.v (.pointer none))))]
 (.ret y11)),
 .gen (.wcall [(y11,true)] 17 y7 [] [true]),
 .ev (.ite y11 (.tget 0 y12) (kb false))]
 (.ret (.tcons y13 (.tcons (.tget 1 y12) .tnil)))) (ups [.ev (.bin .neq .int (.tget 1 y6) (ki 0)),
 .chain true y10 (ups [.chk (.tget 0 y6),
 .ev (.bin .eql .ptr (.tget 0 y6) (.const (.v (.pointer none))))]
 (.ret y11))]
 (.ite y11 (.ret (.tcons (kb false) (.tcons y7 .tnil))) (ups [.call 20 (.const (.st [])) [(.m4 .noids (agc 5 y0) .nil .nil .nil)] [true],
 .ev (.un .not y12),
 .phi y13 [(ki 2)] [(ki 0)],
 .wcall 21 y7 [(.tget 0 y6),(.cell 4 y0)] [true],
 .ev (.bin .neq .int y15 y14)]
 (.ite y17 (.ret (.tcons (kb false) (.tcons y16 .tnil))) (ups [.ev (.bin .eql .int y14 (ki 0)),
 .join 0 1 (.ite y18 (ups [.call 22 (.const (.st [])) [(.m4 .noids (.cell 4 y0) .nil .nil .nil)] [true]]
 (.jump 0 [y19] [])) (.jump 0 [(.const (.lst []))] [])),
 .wcall 24 y16 [(.tget 0 y6)] [true],
 .call 23 (.const (.st [])) [(.m4 .noids y20 .nil .nil .nil),(.m4 .noids y19 .nil .nil .nil)] [true],
 .ev (.un .not y22)]
 (.ite y23 (.ret (.tcons (kb false) (.tcons y21 .tnil))) (ups [.ev (.cons (.aggN 3 (agc 3 y0)) (.cons (.scal (.cell 3 y0)) (.cons (.scal y1) .nil))),
 .call 20 (.const (.st [])) [(.m4 .noids y24 .nil .nil .nil)] [true],
 .ev (.un .not y25)]
 (.ite y26 (ups [.wcall 21 y21 [(.tget 0 y6),y1] [true],
 .ev (.bin .eql .int y27 (ki 2)),
 .ev (.guard y29 true (.tget 0 y6)),
 .gen (.wcall [(y29,true)] 24 y28 [y30] [true]),
 .chain false y29 (ups [.call 23 (.const (.st [])) [(.m4 .noids (.tget 0 y31) .nil .nil .nil),(.m4 .noids y19 .nil .nil .nil)] [true]]
 (.ret y32)),
 .gen (.wcall [(y32,true)] 17 (.tget 1 y31) [] [true]),
 .ev (.ite y32 (.tget 0 y33) (kb false))]
 (.ret (.tcons y34 (.tcons (.tget 1 y33) .tnil)))) (ups [.wcall 21 y21 [(.tget 0 y6),y1] [true],
 .ev (.bin .eql .int y27 (ki 0)),
 .ev (.guard y29 true (.tget 0 y6)),
 .gen (.wcall [(y29,true)] 24 y28 [y30] [true]),
 .chain false y29 (ups [.ev (.app 7 56 (.const (.lst [])) y19),
 .ev (.app 7 56 y32 y1),
 .call 22 (.const (.st [])) [(.m4 .noids y33 .nil .nil .nil)] [true],
 .call 23 (.const (.st [])) [(.m4 .noids (.tget 0 y31) .nil .nil .nil),(.m4 .noids y34 .nil .nil .nil)] [true]]
 (.ret y35)),
 .gen (.wcall [(y32,true)] 17 (.tget 1 y31) [] [true]),
 .ev (.ite y32 (.tget 0 y33) (kb false))]
 (.ret (.tcons y34 (.tcons (.tget 1 y33) .tnil))))))))))))))))
theorem ku3:UOk Try.prog 3 .plain (wcd false [] [] [] Try.f3) [false,true] u3:=UOk.plain Try.func3 (by kernel_rfl) (by kernel_rfl)

end Go.Am.Wr

/-
 The law of reports.
-/
namespace Go.Am.Wr
open Go.Proofs
set_option maxRecDepth 100000
set_option maxHeartbeats 4000000

attribute [local irreducible] inR

variable {x:Pla}

theorem log_more (a b:List Rep):logR (logR a++b)=logR (a++b):=log_ext
 (Cov.app (fun r hr=>by
  obtain⟨y,h1,h2,h3⟩:=cov_log a r hr
  exact⟨y,List.mem_append_left _ h1,h2,h3⟩) (Cov.of_sub fun r hr=>List.mem_append_right _ hr))
 (Cov.app (fun r hr=>by
  obtain⟨y,h1,h2,h3⟩:=log_cov a r hr
  exact⟨y,List.mem_append_left _ h1,h2,h3⟩) (Cov.of_sub fun r hr=>List.mem_append_right _ hr))

theorem any_of_all {f:Fld}{ss:List Src}{l:List Rep}(h:l.all (rightB f ss)=false):l.any (fun r=>!rightB f ss r)=true:=by
 rw[List.all_eq_false] at h
 obtain⟨r,hr,h⟩:=h
 rw[List.any_eq_true]
 exact⟨r,hr,by simpa using h⟩

theorem c3 (hx:x.Ok)(more:List Rep):∃h',FSpecWO Try.prog 3 (.st []) [x.d,.lst (more.map Rep.d)] (.ret (B true)) h':=by
 have h16:=c16 (bs:=[]) (x:=x)
 have hn:=noid_pla x
 obtain⟨b0,h170,_⟩:=knownOK (bs:=[]) rfl
 cases hfit:fitB x
 ·rw[hfit] at h16
  refine⟨.st b0,ku3.W rfl ?_⟩
  unfold u3
  simp only[ups_cons,ups_nil,List.cons_append,List.nil_append]
  repeat' (first|(apply nrm;simp only[sbe];rfl)|(apply u_orT;rfl;exact rfl)|(apply u_iteT;rfl;exact rfl)|(apply u_chk;rfl)|(apply u_ev;rfl;simp only[sbe];rfl)|(apply u_call;rfl;exact evN1 rfl hn;exact h16;rfl;simp only[sbe];rfl)|(apply u_wcall;rfl;rfl;exact h170;rfl;simp only[sbe];rfl)|exact u_ret rfl rfl)
 rw[hfit] at h16
 have F:=fit_of hfit
 have f1:=F.least
 have f2:=F.s
 have f3:=F.l
 cases hm:decide ((more.length:Int) > 10)
 ·have hml:more.length≤10:=by simp at hm;omega
  have hml':(!true||decide ((more.length:Int) > 10))=false:=by rw[hm];rfl
  have h19:=c19 (bs:=[]) (f:=x.f) (ss:=x.s) (by omega) (by omega) hx.places
  cases hfl:fielded x.f x.s
  ·rw[hfl] at h19
   have h18:=newbad (bs:=[]) (f:=x.f) (ss:=x.s) (by omega) (by omega) hx.places hfl
   refine⟨.st b0,ku3.W rfl ?_⟩
   unfold u3
   simp only[ups_cons,ups_nil,List.cons_append,List.nil_append]
   repeat' (first|(apply nrm;simp only[sbe];rfl)|(apply u_genW;rfl;exact rfl;rfl;rfl;exact h170;rfl;simp only[sbe];rfl)|(apply u_iteT;rfl;exact rfl)|(apply u_iteF;rfl;exact hml')|(apply u_chk;rfl)|(apply u_lenL;rfl;exact lenL_map;simp only[sbe];rfl)|(apply u_sel;rfl;rfl;rfl;(·simp only[sbe,List.zipWith_cons_cons,List.zipWith_nil_left,selD];rfl))|(apply u_ev;rfl;simp only[sbe];rfl)|(apply u_call;rfl;(·first|exact evN1 rfl hn|exact ev2W rfl rfl (noid_fld x.f) (noid_srcs x.s));(·first|exact h16|exact h19);rfl;simp only[sbe];rfl)|(apply u_wcall;rfl;rfl;exact h18;rfl;simp only[sbe];rfl)|(apply u_or;rfl)|(apply u_and;rfl)|exact u_ret rfl rfl|(intro hz;(try simp only[sbs] at hz)))
  rw[hfl] at h19
  obtain⟨k1,k2,k3,k4⟩:=fok_of hfl
  have k5:=k1.hi
  have k6:=k1.lo
  obtain⟨b1,j,h18,L1,g1,_⟩:=newL hfl (bs:=[]) rfl
  have h20:=c20 (bs:=[]) (x:=x) (by omega) (by omega) (by omega)
  have h20m:=c20 (bs:=[]) (x:=⟨x.f,x.s,more⟩) (by simp only;omega) (by simp only;omega) (by simp only;omega)
  have hnm:=noid_pla ⟨x.f,x.s,more⟩
  have hnx:=noid_reps x.l
  simp only at h20m
  obtain⟨rs,e,b2,hrs,L2,h21,hgd⟩:∃(rs:List Rep) (e:Int) (b2:List D),rs.length≤25∧Lg b2 j x.f x.s rs x.f.places.toNat∧FSpecW Try.prog 21 (.st b1) [.loc j 0,.lst (x.l.map Rep.d)] (I e) (.st b2)∧((x.l.all (rightB x.f x.s)=true∧e=0∧rs=x.l)∨(x.l.all (rightB x.f x.s)=false∧e=2∧rs=[])):=by
   cases hr:x.l.all (rightB x.f x.s)
   ·exact⟨[],2,b1,by simp,L1,addbad L1 (by omega) (any_of_all hr),.inr ⟨rfl,rfl,rfl⟩⟩
   ·have hfl:=fold_len x.l []
    obtain⟨b2,h21,L2,g2⟩:=addL L1 (l:=x.l) (by omega) (List.all_eq_true.1 hr) (by simp at hfl ⊢;omega)
    exact⟨x.l,0,b2,f3,L2,h21,.inl ⟨rfl,rfl,rfl⟩⟩
  obtain⟨b3,h24,g3⟩:=reportsL L2
  have L3:=L2.keep g3
  have hlr:=log_lenN rs
  have h22:=c22 (bs:=[]) (l:=x.l) (by omega)
  have h23:=c23 (bs:=[]) (logR rs) (logR rs) (by omega)
  rw[decide_eq_true rfl] at h23
  cases hmr:more.all (rightB x.f x.s)
  ·rw[hmr] at h20m
   have h21m:=addbad L3 (l:=more) (by omega) (any_of_all hmr)
   obtain⟨b4,h24m,g4⟩:=reportsL L3
   obtain⟨b5,h17,_⟩:=knownOK (L3.keep g4).ny
   refine⟨.st b5,?_⟩
   rcases hgd with⟨r1,rfl,rfl⟩ | ⟨r1,rfl,rfl⟩
   ·rw[r1] at h20
    refine ku3.W rfl ?_
    unfold u3
    simp only[ups_cons,ups_nil,List.cons_append,List.nil_append]
    repeat' (first|(apply nrm;simp only[sbe];rfl)|(apply u_genW;rfl;exact rfl;rfl;rfl;(·first|exact h24m|exact h17);rfl;simp only[sbe];rfl)|(apply u_iteT;rfl;exact rfl)|(apply u_iteF;rfl;(·first|exact hml'|exact rfl))|(apply u_chk;rfl)|(apply u_lenL;rfl;exact lenL_map;simp only[sbe];rfl)|(apply u_sel;rfl;rfl;rfl;(·simp only[sbe,List.zipWith_cons_cons,List.zipWith_nil_left,selD];rfl))|(apply u_ev;rfl;simp only[sbe];rfl)|(apply u_call;rfl;(·first|exact evN1 rfl hn|exact ev2W rfl rfl (noid_fld x.f) (noid_srcs x.s)|exact evN1 rfl hnx|exact ev2W rfl rfl (noid_reps _) (noid_reps _)|exact evN1 rfl hnm);(·first|exact h16|exact h19|exact h20|exact h22|exact h23|exact h20m);rfl;simp only[sbe];rfl)|(apply u_wcall;rfl;rfl;(·first|exact h18|exact h21|exact h24|exact h21m);rfl;simp only[sbe];rfl)|(apply u_or;rfl)|(apply u_and;rfl)|refine u_join ?_|(apply u_jump;rfl;rfl)|refine at_jump ?_|refine kj rfl ?_|(apply u_phi;rfl;(·intro hz;rfl);(·intro hz;rfl);rfl;(·simp only[sbe,List.zipWith_cons_cons,List.zipWith_nil_left,selD];rfl))|exact u_ret rfl rfl|(intro hz;(try simp only[sbs] at hz)))
   ·rw[r1] at h20
    have e0:logR []=[]:=rfl
    rw[e0] at h24 h23 h24m
    refine ku3.W rfl ?_
    unfold u3
    simp only[ups_cons,ups_nil,List.cons_append,List.nil_append]
    repeat' (first|(apply nrm;simp only[sbe];rfl)|(apply u_genW;rfl;exact rfl;rfl;rfl;(·first|exact h24m|exact h17);rfl;simp only[sbe];rfl)|(apply u_iteT;rfl;exact rfl)|(apply u_iteF;rfl;(·first|exact hml'|exact rfl))|(apply u_chk;rfl)|(apply u_lenL;rfl;exact lenL_map;simp only[sbe];rfl)|(apply u_sel;rfl;rfl;rfl;(·simp only[sbe,List.zipWith_cons_cons,List.zipWith_nil_left,selD];rfl))|(apply u_ev;rfl;simp only[sbe];rfl)|(apply u_call;rfl;(·first|exact evN1 rfl hn|exact ev2W rfl rfl (noid_fld x.f) (noid_srcs x.s)|exact ev2W rfl rfl (noid_reps []) (noid_reps [])|exact evN1 rfl hnm);(·first|exact h16|exact h19|exact h20|exact h23|exact h20m);rfl;simp only[sbe];rfl)|(apply u_wcall;rfl;rfl;(·first|exact h18|exact h21|exact h24|exact h21m);rfl;simp only[sbe];rfl)|(apply u_or;rfl)|(apply u_and;rfl)|refine u_join ?_|(apply u_jump;rfl;rfl)|refine at_jump ?_|refine kj rfl ?_|(apply u_phi;rfl;(·intro hz;rfl);(·intro hz;rfl);rfl;(·simp only[sbe,List.zipWith_cons_cons,List.zipWith_nil_left,selD];rfl))|exact u_ret rfl rfl|(intro hz;(try simp only[sbs] at hz)))
  ·rw[hmr] at h20m
   have hfl2:=fold_len (rs++more) []
   obtain⟨b4,h21m,L4,g4⟩:=addL L3 (l:=more) (by omega) (List.all_eq_true.1 hmr) (by simp at hfl2 ⊢;omega)
   obtain⟨b5,h24m,g5⟩:=reportsL L4
   obtain⟨b6,h17,_⟩:=knownOK (L4.keep g5).ny
   have hl2:=log_lenN (rs++more)
   rw[List.length_append] at hl2
   have h22m:=c22 (bs:=[]) (l:=logR rs++more) (by simp;omega)
   rw[log_more] at h22m
   have h23m:=c23 (bs:=[]) (logR (rs++more)) (logR (rs++more)) (by omega)
   rw[decide_eq_true rfl] at h23m
   have hnlm:=noid_reps (logR rs++more)
   have ha1:D.app 7 56 (.lst []) (.lst ((logR rs).map Rep.d))=some (.lst ((logR rs).map Rep.d)):=app_lst (enc:=Rep.d) (xs:=[]) (ys:=logR rs) (by simp;omega) (by simp[maxLen];omega) (fun _=>rfl)
   have ha2:D.app 7 56 (.lst ((logR rs).map Rep.d)) (.lst (more.map Rep.d))=some (.lst ((logR rs++more).map Rep.d)):=app_lst (enc:=Rep.d) (by omega) (by simp[maxLen];omega) (fun _=>rfl)
   refine⟨.st b6,?_⟩
   rcases hgd with⟨r1,rfl,rfl⟩ | ⟨r1,rfl,rfl⟩
   ·rw[r1] at h20
    refine ku3.W rfl ?_
    unfold u3
    simp only[ups_cons,ups_nil,List.cons_append,List.nil_append]
    repeat' (first|(apply nrm;simp only[sbe];rfl)|(apply u_genW;rfl;exact rfl;rfl;rfl;(·first|exact h24m|exact h17);rfl;simp only[sbe];rfl)|(apply u_iteT;rfl;exact rfl)|(apply u_iteF;rfl;(·first|exact hml'|exact rfl))|(apply u_chk;rfl)|(apply u_app;rfl;rfl;(·first|exact ha1|exact ha2);simp only[sbe];rfl)|(apply u_lenL;rfl;exact lenL_map;simp only[sbe];rfl)|(apply u_sel;rfl;rfl;rfl;(·simp only[sbe,List.zipWith_cons_cons,List.zipWith_nil_left,selD];rfl))|(apply u_ev;rfl;simp only[sbe];rfl)|(apply u_call;rfl;(·first|exact evN1 rfl hn|exact ev2W rfl rfl (noid_fld x.f) (noid_srcs x.s)|exact evN1 rfl hnx|exact ev2W rfl rfl (noid_reps _) (noid_reps _)|exact evN1 rfl hnm|exact evN1 rfl hnlm);(·first|exact h16|exact h19|exact h20|exact h22|exact h23|exact h20m|exact h22m|exact h23m);rfl;simp only[sbe];rfl)|(apply u_wcall;rfl;rfl;(·first|exact h18|exact h21|exact h24|exact h21m);rfl;simp only[sbe];rfl)|(apply u_or;rfl)|(apply u_and;rfl)|refine u_join ?_|(apply u_jump;rfl;rfl)|refine at_jump ?_|refine kj rfl ?_|(apply u_phi;rfl;(·intro hz;rfl);(·intro hz;rfl);rfl;(·simp only[sbe,List.zipWith_cons_cons,List.zipWith_nil_left,selD];rfl))|exact u_ret rfl rfl|(intro hz;(try simp only[sbs] at hz)))
   ·rw[r1] at h20
    have e0:logR []=[]:=rfl
    rw[e0] at h24 h23 ha1 ha2 h22m hnlm
    refine ku3.W rfl ?_
    unfold u3
    simp only[ups_cons,ups_nil,List.cons_append,List.nil_append]
    repeat' (first|(apply nrm;simp only[sbe];rfl)|(apply u_genW;rfl;exact rfl;rfl;rfl;(·first|exact h24m|exact h17);rfl;simp only[sbe];rfl)|(apply u_iteF;rfl;(·first|exact hml'|exact rfl))|(apply u_chk;rfl)|(apply u_app;rfl;rfl;(·first|exact ha1|exact ha2);simp only[sbe];rfl)|(apply u_lenL;rfl;exact lenL_map;simp only[sbe];rfl)|(apply u_sel;rfl;rfl;rfl;(·simp only[sbe,List.zipWith_cons_cons,List.zipWith_nil_left,selD];rfl))|(apply u_ev;rfl;simp only[sbe];rfl)|(apply u_call;rfl;(·first|exact evN1 rfl hn|exact ev2W rfl rfl (noid_fld x.f) (noid_srcs x.s)|exact ev2W rfl rfl (noid_reps []) (noid_reps [])|exact evN1 rfl hnm|exact evN1 rfl hnlm|exact ev2W rfl rfl (noid_reps _) (noid_reps _));(·first|exact h16|exact h19|exact h20|exact h23|exact h20m|exact h22m|exact h23m);rfl;simp only[sbe];rfl)|(apply u_wcall;rfl;rfl;(·first|exact h18|exact h21|exact h24|exact h21m);rfl;simp only[sbe];rfl)|(apply u_or;rfl)|(apply u_and;rfl)|refine u_join ?_|(apply u_jump;rfl;rfl)|refine at_jump ?_|refine kj rfl ?_|(apply u_phi;rfl;(·intro hz;rfl);(·intro hz;rfl);rfl;(·simp only[sbe,List.zipWith_cons_cons,List.zipWith_nil_left,selD];rfl))|exact u_ret rfl rfl|(intro hz;(try simp only[sbs] at hz)))
 ·refine⟨.st b0,ku3.W rfl ?_⟩
  have hml':(!true||decide ((more.length:Int) > 10))=true:=by rw[hm];rfl
  unfold u3
  simp only[ups_cons,ups_nil,List.cons_append,List.nil_append]
  repeat' (first|(apply nrm;simp only[sbe];rfl)|(apply u_iteT;rfl;exact hml')|(apply u_chk;rfl)|(apply u_lenL;rfl;exact lenL_map;simp only[sbe];rfl)|(apply u_ev;rfl;simp only[sbe];rfl)|(apply u_call;rfl;exact evN1 rfl hn;exact h16;rfl;simp only[sbe];rfl)|(apply u_wcall;rfl;rfl;exact h170;rfl;simp only[sbe];rfl)|(apply u_or;rfl)|exact u_ret rfl rfl|(intro hz;(try simp only[sbs] at hz)))

end Go.Am.Wr

/-
 Arguments of laws.
-/
namespace Go.Am.Wr

theorem argInt {x:D}(h:ArgSh (.int .i64) x):∃n,x=I n∧i64 n:=by
 obtain⟨n,hn,hb⟩:=ofI (h.2 rfl)
 cases hn
 exact⟨n,rfl,hb⟩

def IsOk (l:List Int):Prop:=(∀x,x∈l→i64 x)∧l.length≤maxLen

theorem argPla {x:D}(h:ArgSh shPla x):∃p:Pla,x=p.d∧p.Ok:=by
 obtain⟨cs,rfl,hh⟩:=h.1 rfl
 exact ofPla hh

def RepsOk (l:List Rep):Prop:=(∀a,a∈l→a.Ok)∧l.length≤maxLen

theorem argReps {x:D}(h:ArgSh (.sl shRep) x):∃l:List Rep,x=.lst (l.map Rep.d)∧RepsOk l:=by
 have h:=h.2 rfl
 simp only[OfSh] at h
 obtain⟨es,hx,hl,hes⟩:=h
 cases hx
 obtain⟨xs,rfl,ho⟩:=ofReps fun x hx=>(hes x hx).1 rfl
 exact⟨xs,rfl,ho,by simpa using hl⟩

def TmsOk (l:List (List Int)):Prop:=(∀a,a∈l→IsOk a)∧l.length≤maxLen

theorem ofTms:∀{es:List D},(∀x,x∈es→OfSh (.sl (.int .i64)) [x])→∃xs:List (List Int),es=xs.map Is∧∀a,a∈xs→IsOk a
 | [],_=>⟨[],rfl,by simp⟩
 | e :: es,h=>by
  obtain⟨l,hx,h1,h2⟩:=ofSl (h e (by simp))
  cases hx
  obtain⟨xs,rfl,hx⟩:=ofTms (es:=es) fun x hx=>h x (by simp[hx])
  exact⟨l :: xs,rfl,by simpa using⟨⟨h1,h2⟩,hx⟩⟩

theorem argTms {x:D}(h:ArgSh (.sl (.sl (.int .i64))) x):∃l:List (List Int),x=.lst (l.map Is)∧TmsOk l:=by
 have h:=h.2 rfl
 rw[OfSh] at h
 obtain⟨es,hx,hl,hes⟩:=h
 cases hx
 obtain⟨xs,rfl,ho⟩:=ofTms fun x hx=>(hes x hx).2 rfl
 exact⟨xs,rfl,ho,by simpa using hl⟩

end Go.Am.Wr

/-
 True reports: are they,and what follows.
-/
namespace Go.Am.Wr
open Go.Proofs
set_option maxRecDepth 100000
set_option maxHeartbeats 4000000

attribute [local irreducible] inR

variable {bs:List D} {n j:Nat} {f:Fld} {ss:List Src} {W:List Rep} {x:Pla}

def holdsB (ss:List Src)(t:List Int)(r:Rep):Bool:=
 if r.kind=1 then((decide ((t.length:Int) > r.place)&&decide (t.getD r.place.toNat 0≥r.time-(srcOf ss r).error))&&decide (t.getD r.place.toNat 0≤r.time+(srcOf ss r).error))&&decide (t.getD r.place.toNat 0≤r.arrived)
 else if r.kind=2 then decide ((t.length:Int)≤r.place)||decide (t.getD r.place.toNat 0 > r.time-(srcOf ss r).error)
 else((t.length:Int)==r.place+1)&&decide (t.getD r.place.toNat 0≤r.arrived)

theorem holds_of {t:List Int}{r:Rep}(h:holdsB ss t r=true):holdsT ss t r:=by
 unfold holdsB at h
 refine⟨fun k=>?_,fun k=>?_,fun k=>?_⟩
 ·rw[if_pos k] at h
  simp only[Bool.and_eq_true,decide_eq_true_eq] at h
  omega
 ·rw[if_neg (by omega),if_pos k] at h
  simp only[Bool.or_eq_true,decide_eq_true_eq] at h
  omega
 ·rw[if_neg (by omega),if_neg (by omega)] at h
  simp only[Bool.and_eq_true,decide_eq_true_eq,beq_iff_eq] at h
  omega

theorem e_mt {ts:List (List Int)}{c:Int}(h:0≤c∧c<ts.length):D.eaddr 1 (.lst (ts.map Is)) (I c)=some (.ptr [Is (ts.getD c.toNat [])]):=by
 have e1:c=((c.toNat:Nat):Int):=by omega
 have hl:c.toNat<ts.length:=by omega
 have:=eaddr_lst (enc:=Is) (sz:=1) (show ts[c.toNat]? = some (ts.getD c.toNat []) by simp[hl]) rfl
 rw[←e1] at this
 exact this

theorem e_tm {t:List Int}{p:Int}(h:0≤p∧p<t.length):D.eaddr 1 (Is t) (I p)=some (.ptr [I (t.getD p.toNat 0)]):=by
 have e1:p=((p.toNat:Nat):Int):=by omega
 have hl:p.toNat<t.length:=by omega
 have:=eaddr_lst (enc:=I) (sz:=1) (show t[p.toNat]? = some (t.getD p.toNat 0) by simp[hl]) rfl
 rw[←e1] at this
 exact this

theorem c39 (F:FOk n x.f.least x.s){ts:List (List Int)}{r:Rep}(hr:ROk n x.s r)(hc:0≤r.car-1∧r.car-1<(ts.length:Int))(hts:ts.length≤1000000):FSpecR Try.prog 39 (.st bs) [x.d,r.d,.lst (ts.map Is)] (B (holdsB x.s (ts.getD (r.car-1).toNat []) r)):=by
 have he:=hr.err F
 have ht:=hr.time
 have hp:=hr.place
 have hnh:=F.hi
 have hk4:(r.kind==4)=false:=by rcases hr.kind with h | h | h <;> simp[h]
 have hcar:r.car-1<9223372036854775808∧-9223372036854775808≤r.car-1:=by omega
 generalize hT:ts.getD (r.car-1).toNat []=T
 have hem:D.eaddr 1 (.lst (ts.map Is)) (I (r.car-1))=some (.ptr [Is T]):=by rw[←hT];exact e_mt hc
 have hes:=ea_src hr.src
 unfold holdsB
 rcases hr.kind with hk | hk | hk
 ·have k1:(r.kind==1)=true:=by simp[hk]
  rw[if_pos hk]
  by_cases hl:r.place<(T.length:Int)
  ·have het:=e_tm (t:=T) (p:=r.place) ⟨hp.1,hl⟩
   refine ku39.R rfl rfl ?_
   unfold u39
   simp only[ups_cons,ups_nil,List.cons_append,List.nil_append]
   repeat' (first|(apply nrm;simp only[sbe];rfl)|(apply u_iteT;rfl;exact k1)|(apply u_iteF;rfl;exact hk4)|(apply u_chk;rfl)|(apply u_eaddr;rfl;rfl;(·first|exact hem|exact hes|exact het);simp only[sbe];rfl)|(apply u_lenL;rfl;exact lenL_map;simp only[sbe];rfl)|(apply u_add;rfl;rfl;omega;simp only[sbe];rfl)|(apply u_sub;rfl;rfl;omega;simp only[sbe];rfl)|(apply u_ev;rfl;simp only[sbe];rfl)|(apply u_and;rfl)|refine u_join ?_|exact u_ret rfl rfl|(apply u_ret;rfl;first|exact rfl|(refine retB ?_)|(refine retI ?_)|(refine retD ?_))|(intro hz;(try simp only[sbs] at hz)))
  ·have hl0:decide ((T.length:Int) > r.place)=false:=by simp;omega
   rw[hl0,Bool.false_and,Bool.false_and,Bool.false_and]
   refine ku39.R rfl rfl ?_
   unfold u39
   simp only[ups_cons,ups_nil,List.cons_append,List.nil_append]
   repeat' (first|(apply nrm;simp only[sbe];rfl)|(apply u_andF;rfl;(·first|exact hl0|exact rfl))|(apply u_iteT;rfl;exact k1)|(apply u_iteF;rfl;exact hk4)|(apply u_chk;rfl)|(apply u_eaddr;rfl;rfl;(·first|exact hem|exact hes);simp only[sbe];rfl)|(apply u_lenL;rfl;exact lenL_map;simp only[sbe];rfl)|(apply u_sub;rfl;rfl;omega;simp only[sbe];rfl)|(apply u_ev;rfl;simp only[sbe];rfl)|refine u_join ?_|(apply u_ret;rfl;first|exact rfl|(refine retB ?_)|(refine retI ?_)|(refine retD ?_)))
 ·have k1:(r.kind==1)=false:=by simp[hk]
  have k2:(r.kind==2)=true:=by simp[hk]
  rw[if_neg (by omega),if_pos hk]
  by_cases hl:r.place<(T.length:Int)
  ·have het:=e_tm (t:=T) (p:=r.place) ⟨hp.1,hl⟩
   refine ku39.R rfl rfl ?_
   unfold u39
   simp only[ups_cons,ups_nil,List.cons_append,List.nil_append]
   repeat' (first|(apply nrm;simp only[sbe];rfl)|(apply u_iteT;rfl;exact k2)|(apply u_iteF;rfl;(·first|exact hk4|exact k1))|(apply u_chk;rfl)|(apply u_eaddr;rfl;rfl;(·first|exact hem|exact hes|exact het);simp only[sbe];rfl)|(apply u_lenL;rfl;exact lenL_map;simp only[sbe];rfl)|(apply u_sub;rfl;rfl;omega;simp only[sbe];rfl)|(apply u_ev;rfl;simp only[sbe];rfl)|(apply u_or;rfl)|refine u_join ?_|exact u_ret rfl rfl|(apply u_ret;rfl;first|exact rfl|(refine retB ?_)|(refine retI ?_)|(refine retD ?_))|(intro hz;(try simp only[sbs] at hz)))
  ·have hl0:decide ((T.length:Int)≤r.place)=true:=by simp;omega
   rw[hl0,Bool.true_or]
   refine ku39.R rfl rfl ?_
   unfold u39
   simp only[ups_cons,ups_nil,List.cons_append,List.nil_append]
   repeat' (first|(apply nrm;simp only[sbe];rfl)|(apply u_orT;rfl;exact hl0)|(apply u_iteT;rfl;exact k2)|(apply u_iteF;rfl;(·first|exact hk4|exact k1))|(apply u_chk;rfl)|(apply u_eaddr;rfl;rfl;(·first|exact hem|exact hes);simp only[sbe];rfl)|(apply u_lenL;rfl;exact lenL_map;simp only[sbe];rfl)|(apply u_sub;rfl;rfl;omega;simp only[sbe];rfl)|(apply u_ev;rfl;simp only[sbe];rfl)|refine u_join ?_|(apply u_ret;rfl;first|exact rfl|(refine retB ?_)|(refine retI ?_)|(refine retD ?_)))
 ·have k1:(r.kind==1)=false:=by simp[hk]
  have k2:(r.kind==2)=false:=by simp[hk]
  rw[if_neg (by omega),if_neg (by omega)]
  by_cases hl:(T.length:Int)=r.place+1
  ·have het:=e_tm (t:=T) (p:=r.place) ⟨hp.1,by omega⟩
   refine ku39.R rfl rfl ?_
   unfold u39
   simp only[ups_cons,ups_nil,List.cons_append,List.nil_append]
   repeat' (first|(apply nrm;simp only[sbe];rfl)|(apply u_iteF;rfl;(·first|exact hk4|exact k1|exact k2))|(apply u_chk;rfl)|(apply u_eaddr;rfl;rfl;(·first|exact hem|exact hes|exact het);simp only[sbe];rfl)|(apply u_lenL;rfl;exact lenL_map;simp only[sbe];rfl)|(apply u_add;rfl;rfl;omega;simp only[sbe];rfl)|(apply u_sub;rfl;rfl;omega;simp only[sbe];rfl)|(apply u_ev;rfl;simp only[sbe];rfl)|(apply u_and;rfl)|refine u_join ?_|(apply u_jump;rfl;rfl)|refine at_jump ?_|refine kj rfl ?_|exact u_ret rfl rfl|(intro hz;(try simp only[sbs] at hz)))
  ·have hl0:((T.length:Int)==r.place+1)=false:=by simp;omega
   rw[hl0,Bool.false_and]
   refine ku39.R rfl rfl ?_
   unfold u39
   simp only[ups_cons,ups_nil,List.cons_append,List.nil_append]
   repeat' (first|(apply nrm;simp only[sbe];rfl)|(apply u_andF;rfl;exact hl0)|(apply u_iteF;rfl;(·first|exact hk4|exact k1|exact k2))|(apply u_chk;rfl)|(apply u_eaddr;rfl;rfl;(·first|exact hem|exact hes);simp only[sbe];rfl)|(apply u_lenL;rfl;exact lenL_map;simp only[sbe];rfl)|(apply u_add;rfl;rfl;omega;simp only[sbe];rfl)|(apply u_sub;rfl;rfl;omega;simp only[sbe];rfl)|(apply u_ev;rfl;simp only[sbe];rfl)|refine u_join ?_|(apply u_jump;rfl;rfl)|refine at_jump ?_|refine kj rfl ?_|exact u_ret rfl rfl)

theorem c39v {ts:List (List Int)}{r:Rep}(hk:r.kind=4):FSpecR Try.prog 39 (.st bs) [x.d,r.d,.lst (ts.map Is)] (B true):=by
 have k4:(r.kind==4)=true:=by simp[hk]
 refine ku39.R rfl rfl ?_
 unfold u39
 simp only[ups_cons,ups_nil,List.cons_append,List.nil_append]
 repeat' (first|(apply u_iteT;rfl;exact k4)|(apply u_chk;rfl)|(apply u_ev;rfl;simp only[sbe];rfl)|exact u_ret rfl rfl)

/-! ## times -/

def badP (least t:List Int)(p:Nat):Bool:=decide (t.getD p 0<0)||decide (t.getD p 0 > 1000000000000)||(decide ((p:Int) > 0)&&decide (t.getD p 0<t.getD (p-1) 0+least.getD (p-1) 0))
def tOkB (n:Nat)(least t:List Int):Bool:=decide ((t.length:Int)≤(n:Int))&&(List.range t.length).all fun p=>!badP least t p

theorem tok_of {least t:List Int}(h:tOkB n least t=true):TOk n least t:=by
 unfold tOkB badP at h
 simp only[Bool.and_eq_true,decide_eq_true_eq,List.all_eq_true,List.mem_range,Bool.not_eq_true',Bool.or_eq_false_iff,decide_eq_false_iff_not,Bool.and_eq_false_iff] at h
 obtain⟨h1,h2⟩:=h
 refine⟨by omega,fun y hy=>?_,fun p hp=>?_⟩
 ·obtain⟨p,hp,rfl⟩:=List.mem_iff_getElem.1 hy
  have:=(h2 p hp).1
  rw[show t.getD p 0=t[p] by simp[hp]] at this
  omega
 ·have:=(h2 (p+1) hp).2
  rw[Nat.add_sub_cancel] at this
  omega

/-! ## what follows -/

theorem car_arrived {t car:Int}:∀r,r∈ofCar W t car→r.arrived≤t:=fun r hr=>by
 obtain⟨_,h2,_⟩:=mem_car.1 hr
 unfold pB sureB there at h2
 simp only[Bool.and_eq_true,decide_eq_true_eq] at h2
 exact h2.1.1

theorem no_quarrel (F:FOk n f.least ss){t car:Int}{tm:List Int}(T:TOk n f.least tm)(hr:∀r,r∈ofCar W t car→ROk n ss r)(ht:∀r,r∈ofCar W t car→holdsT ss tm r):quL ss f.least W (idxC W t car) (idxC W t car)=[]:=by
 have hmap:=idxC_map W t car
 have hq:=quL_iff (W:=W) (L:=idxC W t car) F (by rw[hmap];exact hr)
 rw[hmap] at hq
 refine Classical.byContradiction fun hne=>?_
 obtain⟨a,b,ha,hb,hc⟩:=hq.1 hne
 rw[no_clash F T hr ht ha hb] at hc
 cases hc

theorem on_met (F:FOk n f.least ss) {t from_ to:Int} {tm:List Int} {c k:Nat} (T:TOk n f.least tm) (hr:∀r,r∈ofCar W t ((c+1:Nat):Int)→ROk n ss r) (ht:∀r,r∈ofCar W t ((c+1:Nat):Int)→holdsT ss tm r) (hck:c<k) (hft:0≤from_∧from_<to∧to<(n:Int))
  (h1:from_<(tm.length:Int)) (h2:tm.getD from_.toNat 0≤t) (h3:(tm.length:Int)≤to∨t<tm.getD to.toNat 0):((onL f ss n W t from_ to k).any fun z=>z==((c+1:Nat):Int))=true:=by
 rw[List.any_eq_true]
 refine⟨((c+1:Nat):Int),?_,by simp⟩
 unfold onL
 rw[List.mem_filter]
 refine⟨List.mem_map.2 ⟨c,by simpa using hck,rfl⟩,?_⟩
 have hnp:=not_passed F T hr ht (m:=t) (to:=to.toNat) (fun r hr=>car_arrived r hr) (by omega)
 have hlow:=low_true F T hr ht (p:=from_.toNat) (by omega)
 unfold onB
 have e1:(knAt ss f.least n (ofCar W t ((c+1:Nat):Int)) to.toNat).passed=false:=hnp
 have e2:decide ((knAt ss f.least n (ofCar W t ((c+1:Nat):Int)) from_.toNat).low≤t)=true:=by
  rw[decide_eq_true_eq]
  show lowF f.least (low0 ss (ofCar W t ((c+1:Nat):Int))) from_.toNat≤t
  omega
 have e3:(((knR ss f.least n (ofCar W t ((c+1:Nat):Int))).take from_.toNat).any fun k=>k.out)=false:=by
  rw[List.any_eq_false]
  intro kn hk
  obtain⟨i,hi,rfl⟩:=List.mem_take_iff_getElem.1 hk
  have hin:i<n:=by
   have:=hi
   simp[knR] at this
   omega
  have:=not_out (n:=n) hr ht (p:=i) hin (by simp[knR] at hi;omega)
  have e4:((knR ss f.least n (ofCar W t ((c+1:Nat):Int)))[i]).out=decide ((i:Int)=outAt n (ofCar W t ((c+1:Nat):Int))):=by
   simp only[knR,List.getElem_map,List.getElem_range]
   rfl
  rw[e4,decide_eq_false this]
  simp
 rw[e1,e2,e3]
 simp

end Go.Am.Wr

/-
 The theorem of cover.
-/
namespace Go.Am.Wr
open Go.Proofs
set_option maxRecDepth 100000
set_option maxHeartbeats 4000000

attribute [local irreducible] inR

variable {x:Pla}

def tmAt (ts:List (List Int))(c:Nat):List Int:=ts.getD c []

theorem e_ts {ts:List (List Int)}{c:Nat}(h:c<ts.length):D.eaddr 1 (.lst (ts.map Is)) (In c)=some (.ptr [Is (tmAt ts c)]):=
 eaddr_lst (enc:=Is) (sz:=1) (show ts[c]? = some (tmAt ts c) by simp[tmAt,h]) rfl

theorem e_tp {t:List Int}{p:Nat}(h:p<t.length):D.eaddr 1 (Is t) (In p)=some (.ptr [I (t.getD p 0)]):=
 eaddr_lst (enc:=I) (sz:=1) (show t[p]? = some (t.getD p 0) by simp[h]) rfl

theorem e_le {least:List Int}{p:Nat}(h:p<least.length):D.eaddr 1 (Is least) (In p)=some (.ptr [I (least.getD p 0)]):=
 eaddr_lst (enc:=I) (sz:=1) (show least[p]? = some (least.getD p 0) by simp[h]) rfl

def allH (ss:List Src)(W:List Rep)(ts:List (List Int))(L:List Nat):Bool:=L.all fun i=>(rAt W i).kind==4||holdsB ss (ts.getD ((rAt W i).car-1).toNat []) (rAt W i)

theorem c39r {bs:List D}{n:Nat}{W:List Rep}{ts:List (List Int)}(h:WOk n x.f x.s W)(hts:x.f.cars=(ts.length:Int)){i:Nat}(hi:i<W.length):FSpecR Try.prog 39 (.st bs) [x.d,(rAt W i).d,.lst (ts.map Is)] (B ((rAt W i).kind==4||holdsB x.s (ts.getD ((rAt W i).car-1).toNat []) (rAt W i))):=by
 have hm:rAt W i∈W:=by rw[rAt_get hi];exact List.getElem_mem _
 have hb:=right_bd (h.right _ hm)
 have hc:=h.cars
 by_cases hk:(rAt W i).kind=4
 ·have:=c39v (bs:=bs) (x:=x) (ts:=ts) hk
  rw[show((rAt W i).kind==4)=true by simp[hk],Bool.true_or]
  exact this
 ·have:=c39 (bs:=bs) (ts:=ts) h.fok (h.rok hm hk) (by omega) (by omega)
  rw[show((rAt W i).kind==4)=false by simp[hk],Bool.false_or]
  exact this

theorem held {W:List Rep}{ts:List (List Int)}{t:Int}(hH:allH x.s W ts (idxP W t)=true)(c:Nat):∀r,r∈ofCar W t ((c+1:Nat):Int)→holdsT x.s (tmAt ts c) r:=fun r hr=>by
 obtain⟨h1,h2,h3,h4⟩:=mem_car.1 hr
 obtain⟨i,hi,rfl⟩:=List.mem_iff_getElem.1 h1
 unfold allH at hH
 rw[List.all_eq_true] at hH
 have hm:i∈idxP W t:=by
  unfold idxP
  rw[List.mem_filter,rAt_get hi]
  exact⟨by simpa using hi,h2⟩
 have:=hH i hm
 rw[rAt_get hi,show(W[i].kind==4)=false by simp[h3],Bool.false_or,h4] at this
 have e:(((c+1:Nat):Int)-1).toNat=c:=by omega
 rw[e] at this
 exact holds_of this


theorem c9 (hx:x.Ok){ts:List (List Int)}(hts:TmsOk ts)(from_ to t:Int):∃h',FSpecWO Try.prog 9 (.st []) [x.d,.lst (ts.map Is),I from_,I to,I t] (.ret (B true)) h':=by
 have h27:=c27 (bs:=[]) hx.places
 have hn:=noid_pla x
 obtain⟨b0,h170,_⟩:=knownOK (bs:=[]) rfl
 cases hf:fineB x
 ·rw[hf] at h27
  refine⟨.st b0,ku9.W rfl ?_⟩
  unfold u9
  simp only[ups_cons,ups_nil,List.cons_append,List.nil_append]
  repeat' (first|(apply nrm;simp only[sbe];rfl)|(apply u_orT;rfl;exact rfl)|(apply u_iteT;rfl;exact rfl)|(apply u_chk;rfl)|(apply u_ev;rfl;simp only[sbe];rfl)|(apply u_call;rfl;exact evN1 rfl hn;exact h27;rfl;simp only[sbe];rfl)|(apply u_wcall;rfl;rfl;exact h170;rfl;simp only[sbe];rfl)|exact u_ret rfl rfl)
 rw[hf] at h27
 cases hc:(!true||((ts.length:Int) != x.f.cars)||decide (from_<0)||decide (from_≥to)||decide (to≥x.f.places)||decide (t<0)||decide (t > 1000000000000))
 ·obtain⟨⟨⟨⟨⟨q0,q1⟩,q2⟩,q3⟩,q4⟩,q5⟩:(((((ts.length:Int)=x.f.cars∧0≤from_)∧from_<to)∧to<x.f.places)∧0≤t)∧t≤1000000000000:=by
   simp at hc
   omega
  obtain⟨b1,j,h28,L1,g1,_⟩:=c28 hf (bs:=[]) rfl
  have hpl:=L1.pl
  have hnl:=L1.fok.lo
  have hnh:=L1.fok.hi
  have hcars:=L1.cars
  have F:=L1.fok
  have hl:=(fit_of (by unfold fineB at hf;simp only[Bool.and_eq_true] at hf;exact hf.1.1)).l
  have hW:=L1.wok hl
  obtain⟨n,hnn⟩:∃n,n=x.f.places.toNat:=⟨_,rfl⟩
  rw[←hnn] at hpl hnl hnh F hW
  have h22:=c22 (bs:=[]) (l:=x.l) (by omega)
  have h32:=c32W (bs:=[]) hW t
  have hnx:=noid_reps x.l
  have hWl:=hW.len
  have hil:=idx_le (logR x.l) t
  have h39:=fun i (hi:i∈idxP (logR x.l) t)=>c39r (bs:=[]) (ts:=ts) hW q0.symm (idxP_lt hi)
  obtain⟨W,hWW⟩:∃W,W=logR x.l:=⟨_,rfl⟩
  rw[←hWW] at h22 h32 h39 hW hWl hil
  obtain⟨L,hLL⟩:∃L,L=idxP W t:=⟨_,rfl⟩
  have hLl:L.length≤3000:=by rw[hLL];omega
  have idxL:∀i,i∈L→i<W.length:=fun i hi=>by rw[hLL] at hi;exact idxP_lt hi
  obtain⟨hold,hhold⟩:∃hold:Nat→Bool,hold=fun i=>(rAt W i).kind==4||holdsB x.s (ts.getD ((rAt W i).car-1).toNat []) (rAt W i):=⟨_,rfl⟩
  have h39:∀i,i∈L→FSpecR Try.prog 39 (.st []) [x.d,(rAt W i).d,.lst (ts.map Is)] (B (hold i)):=fun i hi=>by rw[hhold];rw[hLL] at hi;exact h39 i hi
  have hHd:allH x.s W ts L=L.all hold:=by rw[hhold];rfl
  rw[←hLL] at h32
  by_cases hTall:∀k,k<ts.length→tOkB n x.f.least (tmAt ts k)=true
  ·cases hH:allH x.s W ts L
   ·skip
    refine⟨.st b0,ku9.W rfl ?_⟩
    unfold u9
    simp only[ups_cons,ups_nil,List.cons_append,List.nil_append]
    repeat' (first|(apply nrm;simp only[sbe];rfl)|(apply u_iteF;rfl;exact hc)|(apply u_chk;rfl)|(apply u_lenL;rfl;exact lenL_map;simp only[sbe];rfl)|(apply u_ev;rfl;simp only[sbe];rfl)|(apply u_call;rfl;exact evN1 rfl hn;exact h27;rfl;simp only[sbe];rfl)|(apply u_or;rfl)|refine u_join ?_|exact u_ret rfl rfl|(intro hz;(try simp only[sbs] at hz)))
    refine u_range (fun c=>[In c]) (fun c=>∀k,k<c→k<ts.length→tOkB n x.f.least (tmAt ts k)=true) ts.length rfl (fun _=>rfl) (fun k h=>absurd h (Nat.not_lt_zero _)) (fun c hcl hJ R hR=>?_) (fun hJ R=>?_)
    ·have hli:decide ((c:Int)<(ts.length:Int))=true:=by simp;omega
     have hec:=e_ts hcl
     obtain⟨T,hT⟩:∃T,T=tmAt ts c:=⟨_,rfl⟩
     have hstep:tOkB n x.f.least T=true→∀k,k<c+1→k<ts.length→tOkB n x.f.least (tmAt ts k)=true:=fun h k hk hkl=>by
      rcases Nat.lt_or_ge k c with h3 | h3
      ·exact hJ k h3 hkl
      ·have e:k=c:=by omega
       rw[e,←hT];exact h
     rw[←hT] at hec
     cases hlt:decide ((T.length:Int) > x.f.places)
     ·have hTl:T.length≤n:=by simp at hlt;omega
      repeat' (first|(apply nrm;simp only[sbe];rfl)|(apply u_iteT;rfl;exact hli)|(apply u_iteF;rfl;exact hlt)|(apply u_eaddr;rfl;rfl;exact hec;simp only[sbe];rfl)|(apply u_lenL;rfl;exact lenL_map;simp only[sbe];rfl)|(apply u_ev;rfl;simp only[sbe];rfl)|refine u_join ?_)
      refine u_range (fun p=>[In p]) (fun p=>∀k,k<p→k<T.length→badP x.f.least T k=false) T.length rfl (fun _=>rfl) (fun k h=>absurd h (Nat.not_lt_zero _)) (fun p hp hJ' R' hR'=>?_) (fun hJ' R'=>?_)
      ·have hlp:decide ((p:Int)<(T.length:Int))=true:=by simp;omega
       have he1:=e_tp hp
       cases hbad:badP x.f.least T p
       ·have hnext:∀k,k<p+1→k<T.length→badP x.f.least T k=false:=fun k hk hkl=>by
         rcases Nat.lt_or_ge k p with h3 | h3
         ·exact hJ' k h3 hkl
         ·have e:k=p:=by omega
          rw[e];exact hbad
        unfold badP at hbad
        by_cases hp0:p=0
        ·subst hp0
         have h00:decide (((0:Nat):Int) > 0)=false:=rfl
         have hb0:(decide (T.getD 0 0<0)||decide (T.getD 0 0 > 1000000000000)||false)=false:=by
          rw[h00,Bool.false_and] at hbad;exact hbad
         repeat' (first|(apply nrm;simp only[sbe];rfl)|(apply u_andF;rfl;exact h00)|(apply u_iteT;rfl;exact hlp)|(apply u_iteF;rfl;exact hb0)|(apply u_eaddr;rfl;rfl;(·first|exact hec|exact he1);simp only[sbe];rfl)|(apply u_lenL;rfl;exact lenL_map;simp only[sbe];rfl)|(apply u_inc;rfl;omega;simp only[sbe];rfl)|(apply u_ev;rfl;simp only[sbe];rfl)|(apply u_or;rfl)|refine u_join ?_|(apply u_jump;rfl;rfl)|refine at_jump ?_|refine kj rfl ?_|exact u_ret rfl rfl|(intro hz;(try simp only[sbs] at hz)))
         exact hR' hnext
        ·have hpr:=hJ' (p-1) (by omega) (by omega)
         unfold badP at hpr
         simp only[Bool.or_eq_false_iff,decide_eq_false_iff_not] at hpr
         have hlb:=least_bd F (p-1)
         have he2:=e_tp (t:=T) (p:=p-1) (by omega)
         have he3:=e_le (least:=x.f.least) (p:=p-1) (by rw[F.len];omega)
         repeat' (first|(apply nrm;simp only[sbe];rfl)|(apply u_iteT;rfl;exact hlp)|(apply u_iteF;rfl;exact hbad)|(apply u_chk;rfl)|(apply u_eaddr;rfl;rfl;(·first|exact hec|exact he1|exact he2|exact he3);simp only[sbe];rfl)|(apply u_lenL;rfl;exact lenL_map;simp only[sbe];rfl)|(apply u_inc;rfl;omega;simp only[sbe];rfl)|(apply u_pred;rfl;omega;simp only[sbe];rfl)|(apply u_add;rfl;rfl;omega;simp only[sbe];rfl)|(apply u_ev;rfl;simp only[sbe];rfl)|(apply u_or;rfl)|(apply u_and;rfl)|refine u_join ?_|(apply u_jump;rfl;rfl)|refine at_jump ?_|refine kj rfl ?_|exact u_ret rfl rfl|(intro hz;(try simp only[sbs] at hz)))
         exact hR' hnext
       ·-- a time that is wrong
        have hTb:tOkB n x.f.least T=false:=by
         rw[Bool.eq_false_iff]
         intro h
         unfold tOkB at h
         simp only[Bool.and_eq_true,List.all_eq_true,List.mem_range,Bool.not_eq_true'] at h
         rw[h.2 p hp] at hbad
         cases hbad
        rw[hT] at hTb
        rw[hTall c hcl] at hTb
        cases hTb
      ·have hlp:decide ((T.length:Int)<(T.length:Int))=false:=by simp
       repeat' (first|(apply nrm;simp only[sbe];rfl)|(apply u_iteF;rfl;exact hlp)|(apply u_eaddr;rfl;rfl;exact hec;simp only[sbe];rfl)|(apply u_lenL;rfl;exact lenL_map;simp only[sbe];rfl)|(apply u_inc;rfl;omega;simp only[sbe];rfl)|(apply u_ev;rfl;simp only[sbe];rfl)|(apply u_jump;rfl;rfl)|refine at_jump ?_|(refine over_jump (by decide) ?_)|refine kj rfl ?_)
       refine hR (hstep ?_)
       unfold tOkB
       simp only[Bool.and_eq_true,decide_eq_true_eq,List.all_eq_true,List.mem_range,Bool.not_eq_true']
       exact⟨by omega,fun p hp=>hJ' p hp hp⟩
     ·have hTb:=hTall c hcl
      rw[←hT] at hTb
      unfold tOkB at hTb
      simp only[Bool.and_eq_true,decide_eq_true_eq] at hTb
      simp at hlt
      omega
    have hli:decide ((ts.length:Int)<(ts.length:Int))=false:=by simp
    repeat' (first|(apply nrm;simp only[sbe];rfl)|(apply u_iteF;rfl;exact hli)|(apply u_lenL;rfl;exact lenL_map;simp only[sbe];rfl)|(apply u_ev;rfl;simp only[sbe];rfl)|(apply u_call;rfl;(·first|exact evN1 rfl hnx|exact ev2W rfl rfl (noid_reps _) rfl);(·first|exact h22|exact h32);rfl;simp only[sbe];rfl)|refine u_join ?_|(apply u_jump;rfl;rfl)|refine at_jump ?_|(refine over_jump (by decide) ?_)|refine kj rfl ?_)
    refine u_range (fun i=>[In i]) (fun i=>∀k (hk:k<L.length),k<i→hold L[k]=true) L.length rfl (fun _=>rfl) (fun k hk h=>absurd h (Nat.not_lt_zero _)) (fun i hi hJ2 R hR=>?_) (fun hJ2 R=>?_)
    ·have hli2:decide ((i:Int)<(L.length:Int))=true:=by simp;omega
     have hei:=ix_get hi
     have hmi:=List.getElem_mem hi
     have her:=ea_rep (idxL _ hmi)
     have hcl:=h39 L[i] hmi
     cases hcv:hold L[i]
     ·rw[hcv] at hcl
      repeat' (first|(apply nrm;simp only[sbe];rfl)|(apply u_iteT;rfl;(·first|exact hli2|exact rfl))|(apply u_eaddr;rfl;rfl;(·first|exact hei|exact her);simp only[sbe];rfl)|(apply u_lenL;rfl;exact lenL_map;simp only[sbe];rfl)|(apply u_ev;rfl;simp only[sbe];rfl)|(apply u_call;rfl;rfl;exact hcl;rfl;simp only[sbe];rfl)|(apply u_wcall;rfl;rfl;exact h170;rfl;simp only[sbe];rfl)|refine u_join ?_|(apply u_ret;rfl;first|exact rfl|(refine retB ?_)|(refine retI ?_)|(refine retD ?_)))
     ·rw[hcv] at hcl
      repeat' (first|(apply nrm;simp only[sbe];rfl)|(apply u_iteT;rfl;exact hli2)|(apply u_iteF;rfl;exact rfl)|(apply u_eaddr;rfl;rfl;(·first|exact hei|exact her);simp only[sbe];rfl)|(apply u_lenL;rfl;exact lenL_map;simp only[sbe];rfl)|(apply u_inc;rfl;omega;simp only[sbe];rfl)|(apply u_ev;rfl;simp only[sbe];rfl)|(apply u_call;rfl;rfl;exact hcl;rfl;simp only[sbe];rfl)|refine u_join ?_|(apply u_jump;rfl;rfl)|refine at_jump ?_|refine kj rfl ?_)
      refine hR fun k hk hki=>?_
      rcases Nat.lt_or_ge k i with h3 | h3
      ·exact hJ2 k hk h3
      ·have e:k=i:=by omega
       subst e
       exact hcv
    ·exfalso
     have:L.all hold=true:=by
      rw[List.all_eq_true]
      intro y hy
      obtain⟨k,hk,rfl⟩:=List.mem_iff_getElem.1 hy
      exact hJ2 k hk hk
     rw[hHd,this] at hH
     cases hH
   ·skip
    obtain⟨b2,h36,g2⟩:=c36 L1 (from_:=from_) (to:=to) (t:=t) (by unfold inR;simp;omega) (by omega)
    have L2:=L1.keep g2
    have hcN:x.f.cars.toNat=ts.length:=by omega
    obtain⟨g,hg0,hgI,hgR⟩:=seqOf (N:=ts.length) (s0:=b2) (J:=fun k st=>Lg st j x.f x.s x.l x.f.places.toNat) (R:=fun k st st'=>k<ts.length→∃st1,FSpecW Try.prog 29 (.st st) [.loc j 0,I ((k+1:Nat):Int),I t] (.tup [.lst ((knR x.s x.f.least n (ofCar W t ((k+1:Nat):Int))).map Kn.d),I 0]) (.st st1)∧FSpecW Try.prog 33 (.st st1) [.loc j 0,I ((k+1:Nat):Int),I t] (.tup [.lst [],I 0]) (.st st')) L2 (fun k st hk hJ=>by
     have hchk:=chk_of (x:=x) (car:=((k+1:Nat):Int)) (t:=t) hpl hnl (by omega)
     obtain⟨st1,a1,a2⟩:=c29 hJ hchk
     obtain⟨st2,a3,a4⟩:=c33 (hJ.keep a2) hchk
     rw[←hWW,←hnn] at a1
     rw[←hWW,no_quarrel F (tok_of (hTall k hk)) hW.carok (held (x:=x) (W:=W) (ts:=ts) (t:=t) (by rw[←hLL];exact hH) k)] at a3
     exact⟨st2,fun _=>⟨st1,a1,a3⟩,(hJ.keep a2).keep a4⟩)
    obtain⟨b4,h17,_⟩:=knownOK (hgI _ (Nat.le_refl ts.length)).ny
    obtain⟨ON,hON⟩:∃ON,ON=onL x.f x.s n W t from_ to x.f.cars.toNat:=⟨_,rfl⟩
    rw[←hWW,←hnn,←hON] at h36
    have hONl:ON.length≤1000:=by
     have:=onL_len (f:=x.f) (ss:=x.s) (n:=n) (W:=W) t from_ to x.f.cars.toNat
     rw[hON]
     omega
    refine⟨.st b4,ku9.W rfl ?_⟩
    unfold u9
    simp only[ups_cons,ups_nil,List.cons_append,List.nil_append]
    repeat' (first|(apply nrm;simp only[sbe];rfl)|(apply u_iteF;rfl;exact hc)|(apply u_chk;rfl)|(apply u_lenL;rfl;exact lenL_map;simp only[sbe];rfl)|(apply u_ev;rfl;simp only[sbe];rfl)|(apply u_call;rfl;exact evN1 rfl hn;exact h27;rfl;simp only[sbe];rfl)|(apply u_or;rfl)|refine u_join ?_|exact u_ret rfl rfl|(intro hz;(try simp only[sbs] at hz)))
    refine u_range (fun c=>[In c]) (fun c=>∀k,k<c→k<ts.length→tOkB n x.f.least (tmAt ts k)=true) ts.length rfl (fun _=>rfl) (fun k h=>absurd h (Nat.not_lt_zero _)) (fun c hcl hJ R hR=>?_) (fun hJ R=>?_)
    ·have hli:decide ((c:Int)<(ts.length:Int))=true:=by simp;omega
     have hec:=e_ts hcl
     obtain⟨T,hT⟩:∃T,T=tmAt ts c:=⟨_,rfl⟩
     have hstep:tOkB n x.f.least T=true→∀k,k<c+1→k<ts.length→tOkB n x.f.least (tmAt ts k)=true:=fun h k hk hkl=>by
      rcases Nat.lt_or_ge k c with h3 | h3
      ·exact hJ k h3 hkl
      ·have e:k=c:=by omega
       rw[e,←hT];exact h
     rw[←hT] at hec
     cases hlt:decide ((T.length:Int) > x.f.places)
     ·have hTl:T.length≤n:=by simp at hlt;omega
      repeat' (first|(apply nrm;simp only[sbe];rfl)|(apply u_iteT;rfl;exact hli)|(apply u_iteF;rfl;exact hlt)|(apply u_eaddr;rfl;rfl;exact hec;simp only[sbe];rfl)|(apply u_lenL;rfl;exact lenL_map;simp only[sbe];rfl)|(apply u_ev;rfl;simp only[sbe];rfl)|refine u_join ?_)
      refine u_range (fun p=>[In p]) (fun p=>∀k,k<p→k<T.length→badP x.f.least T k=false) T.length rfl (fun _=>rfl) (fun k h=>absurd h (Nat.not_lt_zero _)) (fun p hp hJ' R' hR'=>?_) (fun hJ' R'=>?_)
      ·have hlp:decide ((p:Int)<(T.length:Int))=true:=by simp;omega
       have he1:=e_tp hp
       cases hbad:badP x.f.least T p
       ·have hnext:∀k,k<p+1→k<T.length→badP x.f.least T k=false:=fun k hk hkl=>by
         rcases Nat.lt_or_ge k p with h3 | h3
         ·exact hJ' k h3 hkl
         ·have e:k=p:=by omega
          rw[e];exact hbad
        unfold badP at hbad
        by_cases hp0:p=0
        ·subst hp0
         have h00:decide (((0:Nat):Int) > 0)=false:=rfl
         have hb0:(decide (T.getD 0 0<0)||decide (T.getD 0 0 > 1000000000000)||false)=false:=by
          rw[h00,Bool.false_and] at hbad;exact hbad
         repeat' (first|(apply nrm;simp only[sbe];rfl)|(apply u_andF;rfl;exact h00)|(apply u_iteT;rfl;exact hlp)|(apply u_iteF;rfl;exact hb0)|(apply u_eaddr;rfl;rfl;(·first|exact hec|exact he1);simp only[sbe];rfl)|(apply u_lenL;rfl;exact lenL_map;simp only[sbe];rfl)|(apply u_inc;rfl;omega;simp only[sbe];rfl)|(apply u_ev;rfl;simp only[sbe];rfl)|(apply u_or;rfl)|refine u_join ?_|(apply u_jump;rfl;rfl)|refine at_jump ?_|refine kj rfl ?_|exact u_ret rfl rfl|(intro hz;(try simp only[sbs] at hz)))
         exact hR' hnext
        ·have hpr:=hJ' (p-1) (by omega) (by omega)
         unfold badP at hpr
         simp only[Bool.or_eq_false_iff,decide_eq_false_iff_not] at hpr
         have hlb:=least_bd F (p-1)
         have he2:=e_tp (t:=T) (p:=p-1) (by omega)
         have he3:=e_le (least:=x.f.least) (p:=p-1) (by rw[F.len];omega)
         repeat' (first|(apply nrm;simp only[sbe];rfl)|(apply u_iteT;rfl;exact hlp)|(apply u_iteF;rfl;exact hbad)|(apply u_chk;rfl)|(apply u_eaddr;rfl;rfl;(·first|exact hec|exact he1|exact he2|exact he3);simp only[sbe];rfl)|(apply u_lenL;rfl;exact lenL_map;simp only[sbe];rfl)|(apply u_inc;rfl;omega;simp only[sbe];rfl)|(apply u_pred;rfl;omega;simp only[sbe];rfl)|(apply u_add;rfl;rfl;omega;simp only[sbe];rfl)|(apply u_ev;rfl;simp only[sbe];rfl)|(apply u_or;rfl)|(apply u_and;rfl)|refine u_join ?_|(apply u_jump;rfl;rfl)|refine at_jump ?_|refine kj rfl ?_|exact u_ret rfl rfl|(intro hz;(try simp only[sbs] at hz)))
         exact hR' hnext
       ·-- a time that is wrong
        have hTb:tOkB n x.f.least T=false:=by
         rw[Bool.eq_false_iff]
         intro h
         unfold tOkB at h
         simp only[Bool.and_eq_true,List.all_eq_true,List.mem_range,Bool.not_eq_true'] at h
         rw[h.2 p hp] at hbad
         cases hbad
        rw[hT] at hTb
        rw[hTall c hcl] at hTb
        cases hTb
      ·have hlp:decide ((T.length:Int)<(T.length:Int))=false:=by simp
       repeat' (first|(apply nrm;simp only[sbe];rfl)|(apply u_iteF;rfl;exact hlp)|(apply u_eaddr;rfl;rfl;exact hec;simp only[sbe];rfl)|(apply u_lenL;rfl;exact lenL_map;simp only[sbe];rfl)|(apply u_inc;rfl;omega;simp only[sbe];rfl)|(apply u_ev;rfl;simp only[sbe];rfl)|(apply u_jump;rfl;rfl)|refine at_jump ?_|(refine over_jump (by decide) ?_)|refine kj rfl ?_)
       refine hR (hstep ?_)
       unfold tOkB
       simp only[Bool.and_eq_true,decide_eq_true_eq,List.all_eq_true,List.mem_range,Bool.not_eq_true']
       exact⟨by omega,fun p hp=>hJ' p hp hp⟩
     ·have hTb:=hTall c hcl
      rw[←hT] at hTb
      unfold tOkB at hTb
      simp only[Bool.and_eq_true,decide_eq_true_eq] at hTb
      simp at hlt
      omega
    have hli:decide ((ts.length:Int)<(ts.length:Int))=false:=by simp
    repeat' (first|(apply nrm;simp only[sbe];rfl)|(apply u_iteF;rfl;exact hli)|(apply u_lenL;rfl;exact lenL_map;simp only[sbe];rfl)|(apply u_ev;rfl;simp only[sbe];rfl)|(apply u_call;rfl;(·first|exact evN1 rfl hnx|exact ev2W rfl rfl (noid_reps _) rfl);(·first|exact h22|exact h32);rfl;simp only[sbe];rfl)|refine u_join ?_|(apply u_jump;rfl;rfl)|refine at_jump ?_|(refine over_jump (by decide) ?_)|refine kj rfl ?_)
    refine u_range (fun i=>[In i]) (fun i=>∀k (hk:k<L.length),k<i→hold L[k]=true) L.length rfl (fun _=>rfl) (fun k hk h=>absurd h (Nat.not_lt_zero _)) (fun i hi hJ2 R hR=>?_) (fun hJ2 R=>?_)
    ·have hli2:decide ((i:Int)<(L.length:Int))=true:=by simp;omega
     have hei:=ix_get hi
     have hmi:=List.getElem_mem hi
     have her:=ea_rep (idxL _ hmi)
     have hcl:=h39 L[i] hmi
     have hcv:hold L[i]=true:=by
      rw[hHd,List.all_eq_true] at hH
      exact hH _ hmi
     rw[hcv] at hcl
     repeat' (first|(apply nrm;simp only[sbe];rfl)|(apply u_iteT;rfl;exact hli2)|(apply u_iteF;rfl;exact rfl)|(apply u_eaddr;rfl;rfl;(·first|exact hei|exact her);simp only[sbe];rfl)|(apply u_lenL;rfl;exact lenL_map;simp only[sbe];rfl)|(apply u_inc;rfl;omega;simp only[sbe];rfl)|(apply u_ev;rfl;simp only[sbe];rfl)|(apply u_call;rfl;rfl;exact hcl;rfl;simp only[sbe];rfl)|refine u_join ?_|(apply u_jump;rfl;rfl)|refine at_jump ?_|refine kj rfl ?_)
     exact hR fun k hk hki=>by
      rw[hHd,List.all_eq_true] at hH
      exact hH _ (List.getElem_mem hk)
    ·have hli2:decide ((L.length:Int)<(L.length:Int))=false:=by simp
     repeat' (first|(apply nrm;simp only[sbe];rfl)|(apply u_iteF;rfl;(·first|exact hli2|exact rfl))|(apply u_lenL;rfl;exact lenL_map;simp only[sbe];rfl)|(apply u_ev;rfl;simp only[sbe];rfl)|(apply u_wcall;rfl;rfl;(·first|exact h28|exact h36);rfl;simp only[sbe];rfl)|refine u_join ?_|(apply u_jump;rfl;rfl)|refine at_jump ?_|(refine over_jump (by decide) ?_)|refine kj rfl ?_)
     refine u_range (fun c=>[In c,.st (g c)]) (fun _=>True) ts.length (by rw[hg0];rfl) (fun _=>rfl) trivial (fun c hcl _ R hR=>?_) (fun _ R=>?_)
     ·have hli3:decide ((c:Int)<(ts.length:Int))=true:=by simp;omega
      obtain⟨st1,k29,k33⟩:=hgR c hcl hcl
      have hec:=e_ts hcl
      have hTok:=tok_of (hTall c hcl)
      have hheld:=held (x:=x) (W:=W) (ts:=ts) (t:=t) (by rw[←hLL];exact hH) c
      have hrok:=hW.carok (t:=t) (car:=((c+1:Nat):Int))
      have hlow:=fun p (hp:p<(tmAt ts c).length)=>low_true F hTok hrok hheld hp
      have hhigh:=fun p (hp:p<(tmAt ts c).length)=>high_true F hTok hrok hheld hp
      have hmet:=fun a b d=>on_met (f:=x.f) (k:=x.f.cars.toNat) F hTok hrok hheld (by omega) (from_:=from_) (to:=to) (t:=t) (by omega) a b d
      have hlenT:=hTok.len
      obtain⟨T,hT⟩:∃T,T=tmAt ts c:=⟨_,rfl⟩
      rw[←hT] at hec hlow hhigh hmet hlenT
      obtain⟨K,hK⟩:∃K,K=knR x.s x.f.least n (ofCar W t ((c+1:Nat):Int)):=⟨_,rfl⟩
      have hKl:K.length=n:=by rw[hK];simp[knR]
      have hcl1:(((0:Int) != 0||(0:Int) != 0)||(((K.length:Nat):Int) != x.f.places)||decide (((0:Nat):Int) > 0))=false:=by rw[hKl,hpl];simp
      have hekn:∀p,p<n→D.eaddr 6 (.lst (K.map Kn.d)) (In p)=some (.ptr (knAt x.s x.f.least n (ofCar W t ((c+1:Nat):Int)) p).cs):=fun p hp=>by
       rw[hK]
       have:=ea_kn (f:=x.f) (ss:=x.s) (n:=n) (l:=ofCar W t ((c+1:Nat):Int)) (place:=(p:Int)) (by omega)
       rwa [Int.toNat_natCast] at this
      rw[←hK] at k29
      repeat' (first|(apply nrm;simp only[sbe];rfl)|(apply u_iteT;rfl;exact hli3)|(apply u_iteF;rfl;exact hcl1)|(apply u_chk;rfl)|(apply u_eaddr;rfl;rfl;exact hec;simp only[sbe];rfl)|(apply u_lenL;rfl;exact lenL_map;simp only[sbe];rfl)|(apply u_inc;rfl;omega;simp only[sbe];rfl)|(apply u_ev;rfl;simp only[sbe];rfl)|(apply u_wcall;rfl;rfl;(·first|exact k29|exact k33);rfl;simp only[sbe];rfl)|(apply u_or;rfl)|refine u_join ?_|exact u_ret rfl rfl|(intro hz;(try simp only[sbs] at hz)))
      refine u_range (fun p=>[In p]) (fun _=>True) T.length rfl (fun _=>rfl) trivial (fun p hp _ R' hR'=>?_) (fun _ R'=>?_)
      ·have hlp:decide ((p:Int)<(T.length:Int))=true:=by simp;omega
       have he1:=e_tp hp
       have hek:=hekn p (by omega)
       have hb:(decide (T.getD p 0<(knAt x.s x.f.least n (ofCar W t ((c+1:Nat):Int)) p).low)||decide (T.getD p 0 > (knAt x.s x.f.least n (ofCar W t ((c+1:Nat):Int)) p).high))=false:=by
        have h1:=hlow p hp
        have h2:=hhigh p hp
        unfold knAt
        simp only[Bool.or_eq_false_iff,decide_eq_false_iff_not]
        omega
       repeat' (first|(apply nrm;simp only[sbe];rfl)|(apply u_iteT;rfl;exact hlp)|(apply u_iteF;rfl;exact hb)|(apply u_chk;rfl)|(apply u_eaddr;rfl;rfl;(·first|exact he1|exact hek);simp only[sbe];rfl)|(apply u_lenL;rfl;exact lenL_map;simp only[sbe];rfl)|(apply u_inc;rfl;omega;simp only[sbe];rfl)|(apply u_ev;rfl;simp only[sbe];rfl)|(apply u_or;rfl)|refine u_join ?_|(apply u_jump;rfl;rfl)|refine at_jump ?_|refine kj rfl ?_|exact u_ret rfl rfl|(intro hz;(try simp only[sbs] at hz)))
       exact hR' trivial
      ·have hlp:decide ((T.length:Int)<(T.length:Int))=false:=by simp
       obtain⟨M,hM⟩:∃M,M=(ON.any fun z=>z==((c+1:Nat):Int)):=⟨_,rfl⟩
       have hmet':from_<(T.length:Int)→T.getD from_.toNat 0≤t→((T.length:Int)≤to∨t<T.getD to.toNat 0)→M=true:=fun a b d=>by rw[hM,hON];exact hmet a b d
       by_cases a1:from_<(T.length:Int)
       ·have he1:=e_tm (t:=T) (p:=from_) ⟨q1,a1⟩
        have hd1:decide ((T.length:Int) > from_)=true:=by simp;omega
        by_cases a2:to<(T.length:Int)
        ·have he2:=e_tm (t:=T) (p:=to) ⟨by omega,a2⟩
         have hfin:(((decide ((T.length:Int) > from_)&&decide (T.getD from_.toNat 0≤t))&&(decide ((T.length:Int)≤to)||decide (T.getD to.toNat 0 > t)))&&!M)=false:=by
          cases hMv:M
          ·rw[hMv] at hmet'
           simp only[Bool.not_false,Bool.and_true,Bool.and_eq_false_iff,Bool.or_eq_false_iff,decide_eq_false_iff_not]
           have:=hmet' a1
           by_cases b1:T.getD from_.toNat 0≤t
           ·have h2:=this b1
            right
            refine⟨by omega,fun h3=>?_⟩
            have:=h2 (.inr (by omega))
            cases this
           ·exact .inl (.inr b1)
          ·simp
         repeat' (first|(apply nrm;simp only[sbe];rfl)|(apply u_iteF;rfl;exact hlp)|(apply u_eaddr;rfl;rfl;(·first|exact he1|exact he2);simp only[sbe];rfl)|(apply u_lenL;rfl;exact lenL_map;simp only[sbe];rfl)|(apply u_ev;rfl;simp only[sbe];rfl)|(apply u_or;rfl)|(apply u_and;rfl)|refine u_join ?_|(apply u_jump;rfl;rfl)|refine at_jump ?_|(refine over_jump (by decide) ?_)|refine kj rfl ?_|exact u_ret rfl rfl|(intro hz;(try simp only[sbs] at hz)))
         refine u_range (fun i=>[B ((ON.take i).any fun z=>z==((c+1:Nat):Int)),In i]) (fun _=>True) ON.length rfl (fun _=>rfl) trivial (fun i hi _ R'' hR''=>?_) (fun _ R''=>?_)
         ·have hlo:decide ((i:Int)<(ON.length:Int))=true:=by simp;omega
          have heo:D.eaddr 1 (Is ON) (In i)=some (.ptr [I ON[i]]):=eaddr_get hi rfl
          have hst:(ON.take (i+1)).any (fun z=>z==((c+1:Nat):Int))=((ON.take i).any (fun z=>z==((c+1:Nat):Int))||ON[i]==((c+1:Nat):Int)):=by
           rw[List.take_succ_eq_append_getElem hi,List.any_append]
           simp
          rw[hst] at hR''
          repeat' (first|(apply nrm;simp only[sbe];rfl)|(apply u_iteT;rfl;exact hlo)|(apply u_chk;rfl)|(apply u_eaddr;rfl;rfl;exact heo;simp only[sbe];rfl)|(apply u_lenL;rfl;exact lenL_map;simp only[sbe];rfl)|(apply u_inc;rfl;omega;simp only[sbe];rfl)|(apply u_ev;rfl;simp only[sbe];rfl)|(apply u_or;rfl)|refine u_join ?_|(apply u_jump;rfl;rfl)|refine at_jump ?_|refine kj rfl ?_|exact u_ret rfl rfl|(intro hz;(try simp only[sbs] at hz)))
          exact hR'' trivial
         ·have hlo:decide ((ON.length:Int)<(ON.length:Int))=false:=by simp
          rw[List.take_length,←hM]
          repeat' (first|(apply nrm;simp only[sbe];rfl)|(apply u_iteF;rfl;(·first|exact hlo|exact hfin))|(apply u_lenL;rfl;exact lenL_map;simp only[sbe];rfl)|(apply u_inc;rfl;omega;simp only[sbe];rfl)|(apply u_ev;rfl;simp only[sbe];rfl)|(apply u_and;rfl)|(apply u_jump;rfl;rfl)|refine at_jump ?_|(refine over_jump (by decide) ?_)|refine kj rfl ?_|exact u_ret rfl rfl|(intro hz;(try simp only[sbs] at hz)))
          exact hR trivial
        ·have hd2:decide ((T.length:Int)≤to)=true:=by simp;omega
         have hfin:(((decide ((T.length:Int) > from_)&&decide (T.getD from_.toNat 0≤t))&&true)&&!M)=false:=by
          cases hMv:M
          ·rw[hMv] at hmet'
           simp only[Bool.not_false,Bool.and_true,Bool.and_eq_false_iff,decide_eq_false_iff_not]
           right
           intro b1
           have:=hmet' a1 b1 (.inl (by omega))
           cases this
          ·simp
         repeat' (first|(apply nrm;simp only[sbe];rfl)|(apply u_orT;rfl;exact hd2)|(apply u_iteF;rfl;exact hlp)|(apply u_eaddr;rfl;rfl;exact he1;simp only[sbe];rfl)|(apply u_lenL;rfl;exact lenL_map;simp only[sbe];rfl)|(apply u_ev;rfl;simp only[sbe];rfl)|(apply u_and;rfl)|refine u_join ?_|(apply u_jump;rfl;rfl)|refine at_jump ?_|(refine over_jump (by decide) ?_)|refine kj rfl ?_|exact u_ret rfl rfl|(intro hz;(try simp only[sbs] at hz)))
         refine u_range (fun i=>[B ((ON.take i).any fun z=>z==((c+1:Nat):Int)),In i]) (fun _=>True) ON.length rfl (fun _=>rfl) trivial (fun i hi _ R'' hR''=>?_) (fun _ R''=>?_)
         ·have hlo:decide ((i:Int)<(ON.length:Int))=true:=by simp;omega
          have heo:D.eaddr 1 (Is ON) (In i)=some (.ptr [I ON[i]]):=eaddr_get hi rfl
          have hst:(ON.take (i+1)).any (fun z=>z==((c+1:Nat):Int))=((ON.take i).any (fun z=>z==((c+1:Nat):Int))||ON[i]==((c+1:Nat):Int)):=by
           rw[List.take_succ_eq_append_getElem hi,List.any_append]
           simp
          rw[hst] at hR''
          repeat' (first|(apply nrm;simp only[sbe];rfl)|(apply u_iteT;rfl;exact hlo)|(apply u_chk;rfl)|(apply u_eaddr;rfl;rfl;exact heo;simp only[sbe];rfl)|(apply u_lenL;rfl;exact lenL_map;simp only[sbe];rfl)|(apply u_inc;rfl;omega;simp only[sbe];rfl)|(apply u_ev;rfl;simp only[sbe];rfl)|(apply u_or;rfl)|refine u_join ?_|(apply u_jump;rfl;rfl)|refine at_jump ?_|refine kj rfl ?_|exact u_ret rfl rfl|(intro hz;(try simp only[sbs] at hz)))
          exact hR'' trivial
         ·have hlo:decide ((ON.length:Int)<(ON.length:Int))=false:=by simp
          rw[List.take_length,←hM]
          repeat' (first|(apply nrm;simp only[sbe];rfl)|(apply u_iteF;rfl;(·first|exact hlo|exact hfin))|(apply u_lenL;rfl;exact lenL_map;simp only[sbe];rfl)|(apply u_inc;rfl;omega;simp only[sbe];rfl)|(apply u_ev;rfl;simp only[sbe];rfl)|(apply u_and;rfl)|(apply u_jump;rfl;rfl)|refine at_jump ?_|(refine over_jump (by decide) ?_)|refine kj rfl ?_|exact u_ret rfl rfl|(intro hz;(try simp only[sbs] at hz)))
          exact hR trivial
       ·have hd1:decide ((T.length:Int) > from_)=false:=by simp;omega
        repeat' (first|(apply nrm;simp only[sbe];rfl)|(apply u_andF;rfl;(·first|exact hd1|exact rfl))|(apply u_iteF;rfl;exact hlp)|(apply u_lenL;rfl;exact lenL_map;simp only[sbe];rfl)|(apply u_ev;rfl;simp only[sbe];rfl)|refine u_join ?_|(apply u_jump;rfl;rfl)|refine at_jump ?_|(refine over_jump (by decide) ?_)|refine kj rfl ?_)
        refine u_range (fun i=>[B ((ON.take i).any fun z=>z==((c+1:Nat):Int)),In i]) (fun _=>True) ON.length rfl (fun _=>rfl) trivial (fun i hi _ R'' hR''=>?_) (fun _ R''=>?_)
        ·have hlo:decide ((i:Int)<(ON.length:Int))=true:=by simp;omega
         have heo:D.eaddr 1 (Is ON) (In i)=some (.ptr [I ON[i]]):=eaddr_get hi rfl
         have hst:(ON.take (i+1)).any (fun z=>z==((c+1:Nat):Int))=((ON.take i).any (fun z=>z==((c+1:Nat):Int))||ON[i]==((c+1:Nat):Int)):=by
          rw[List.take_succ_eq_append_getElem hi,List.any_append]
          simp
         rw[hst] at hR''
         repeat' (first|(apply nrm;simp only[sbe];rfl)|(apply u_iteT;rfl;exact hlo)|(apply u_chk;rfl)|(apply u_eaddr;rfl;rfl;exact heo;simp only[sbe];rfl)|(apply u_lenL;rfl;exact lenL_map;simp only[sbe];rfl)|(apply u_inc;rfl;omega;simp only[sbe];rfl)|(apply u_ev;rfl;simp only[sbe];rfl)|(apply u_or;rfl)|refine u_join ?_|(apply u_jump;rfl;rfl)|refine at_jump ?_|refine kj rfl ?_|exact u_ret rfl rfl|(intro hz;(try simp only[sbs] at hz)))
         exact hR'' trivial
        ·have hlo:decide ((ON.length:Int)<(ON.length:Int))=false:=by simp
         rw[List.take_length,←hM]
         repeat' (first|(apply nrm;simp only[sbe];rfl)|(apply u_andF;rfl;exact rfl)|(apply u_iteF;rfl;(·first|exact hlo|exact rfl))|(apply u_lenL;rfl;exact lenL_map;simp only[sbe];rfl)|(apply u_inc;rfl;omega;simp only[sbe];rfl)|(apply u_ev;rfl;simp only[sbe];rfl)|(apply u_jump;rfl;rfl)|refine at_jump ?_|(refine over_jump (by decide) ?_)|refine kj rfl ?_)
         exact hR trivial
     ·have hli3:decide ((ts.length:Int)<(ts.length:Int))=false:=by simp
      repeat' (first|(apply nrm;simp only[sbe];rfl)|(apply u_iteF;rfl;exact hli3)|(apply u_lenL;rfl;exact lenL_map;simp only[sbe];rfl)|(apply u_ev;rfl;simp only[sbe];rfl)|(apply u_wcall;rfl;rfl;exact h17;rfl;simp only[sbe];rfl)|(apply u_jump;rfl;rfl)|refine at_jump ?_|(refine over_jump (by decide) ?_)|refine kj rfl ?_|exact u_ret rfl rfl)
  ·skip
   refine⟨.st b0,ku9.W rfl ?_⟩
   unfold u9
   simp only[ups_cons,ups_nil,List.cons_append,List.nil_append]
   repeat' (first|(apply nrm;simp only[sbe];rfl)|(apply u_iteF;rfl;exact hc)|(apply u_chk;rfl)|(apply u_lenL;rfl;exact lenL_map;simp only[sbe];rfl)|(apply u_ev;rfl;simp only[sbe];rfl)|(apply u_call;rfl;exact evN1 rfl hn;exact h27;rfl;simp only[sbe];rfl)|(apply u_or;rfl)|refine u_join ?_|exact u_ret rfl rfl|(intro hz;(try simp only[sbs] at hz)))
   refine u_range (fun c=>[In c]) (fun c=>∀k,k<c→k<ts.length→tOkB n x.f.least (tmAt ts k)=true) ts.length rfl (fun _=>rfl) (fun k h=>absurd h (Nat.not_lt_zero _)) (fun c hcl hJ R hR=>?_) (fun hJ R=>?_)
   ·have hli:decide ((c:Int)<(ts.length:Int))=true:=by simp;omega
    have hec:=e_ts hcl
    obtain⟨T,hT⟩:∃T,T=tmAt ts c:=⟨_,rfl⟩
    have hstep:tOkB n x.f.least T=true→∀k,k<c+1→k<ts.length→tOkB n x.f.least (tmAt ts k)=true:=fun h k hk hkl=>by
     rcases Nat.lt_or_ge k c with h3 | h3
     ·exact hJ k h3 hkl
     ·have e:k=c:=by omega
      rw[e,←hT];exact h
    rw[←hT] at hec
    cases hlt:decide ((T.length:Int) > x.f.places)
    ·have hTl:T.length≤n:=by simp at hlt;omega
     repeat' (first|(apply nrm;simp only[sbe];rfl)|(apply u_iteT;rfl;exact hli)|(apply u_iteF;rfl;exact hlt)|(apply u_eaddr;rfl;rfl;exact hec;simp only[sbe];rfl)|(apply u_lenL;rfl;exact lenL_map;simp only[sbe];rfl)|(apply u_ev;rfl;simp only[sbe];rfl)|refine u_join ?_)
     refine u_range (fun p=>[In p]) (fun p=>∀k,k<p→k<T.length→badP x.f.least T k=false) T.length rfl (fun _=>rfl) (fun k h=>absurd h (Nat.not_lt_zero _)) (fun p hp hJ' R' hR'=>?_) (fun hJ' R'=>?_)
     ·have hlp:decide ((p:Int)<(T.length:Int))=true:=by simp;omega
      have he1:=e_tp hp
      cases hbad:badP x.f.least T p
      ·have hnext:∀k,k<p+1→k<T.length→badP x.f.least T k=false:=fun k hk hkl=>by
        rcases Nat.lt_or_ge k p with h3 | h3
        ·exact hJ' k h3 hkl
        ·have e:k=p:=by omega
         rw[e];exact hbad
       unfold badP at hbad
       by_cases hp0:p=0
       ·subst hp0
        have h00:decide (((0:Nat):Int) > 0)=false:=rfl
        have hb0:(decide (T.getD 0 0<0)||decide (T.getD 0 0 > 1000000000000)||false)=false:=by
         rw[h00,Bool.false_and] at hbad;exact hbad
        repeat' (first|(apply nrm;simp only[sbe];rfl)|(apply u_andF;rfl;exact h00)|(apply u_iteT;rfl;exact hlp)|(apply u_iteF;rfl;exact hb0)|(apply u_eaddr;rfl;rfl;(·first|exact hec|exact he1);simp only[sbe];rfl)|(apply u_lenL;rfl;exact lenL_map;simp only[sbe];rfl)|(apply u_inc;rfl;omega;simp only[sbe];rfl)|(apply u_ev;rfl;simp only[sbe];rfl)|(apply u_or;rfl)|refine u_join ?_|(apply u_jump;rfl;rfl)|refine at_jump ?_|refine kj rfl ?_|exact u_ret rfl rfl|(intro hz;(try simp only[sbs] at hz)))
        exact hR' hnext
       ·have hpr:=hJ' (p-1) (by omega) (by omega)
        unfold badP at hpr
        simp only[Bool.or_eq_false_iff,decide_eq_false_iff_not] at hpr
        have hlb:=least_bd F (p-1)
        have he2:=e_tp (t:=T) (p:=p-1) (by omega)
        have he3:=e_le (least:=x.f.least) (p:=p-1) (by rw[F.len];omega)
        repeat' (first|(apply nrm;simp only[sbe];rfl)|(apply u_iteT;rfl;exact hlp)|(apply u_iteF;rfl;exact hbad)|(apply u_chk;rfl)|(apply u_eaddr;rfl;rfl;(·first|exact hec|exact he1|exact he2|exact he3);simp only[sbe];rfl)|(apply u_lenL;rfl;exact lenL_map;simp only[sbe];rfl)|(apply u_inc;rfl;omega;simp only[sbe];rfl)|(apply u_pred;rfl;omega;simp only[sbe];rfl)|(apply u_add;rfl;rfl;omega;simp only[sbe];rfl)|(apply u_ev;rfl;simp only[sbe];rfl)|(apply u_or;rfl)|(apply u_and;rfl)|refine u_join ?_|(apply u_jump;rfl;rfl)|refine at_jump ?_|refine kj rfl ?_|exact u_ret rfl rfl|(intro hz;(try simp only[sbs] at hz)))
        exact hR' hnext
      ·-- a time that is wrong
       unfold badP at hbad
       by_cases hp0:p=0
       ·subst hp0
        have h00:decide (((0:Nat):Int) > 0)=false:=rfl
        have hb0:(decide (T.getD 0 0<0)||decide (T.getD 0 0 > 1000000000000)||false)=true:=by
         rw[h00,Bool.false_and] at hbad;exact hbad
        repeat' (first|(apply nrm;simp only[sbe];rfl)|(apply u_andF;rfl;exact h00)|(apply u_iteT;rfl;(·first|exact hlp|exact hb0))|(apply u_eaddr;rfl;rfl;(·first|exact hec|exact he1);simp only[sbe];rfl)|(apply u_lenL;rfl;exact lenL_map;simp only[sbe];rfl)|(apply u_ev;rfl;simp only[sbe];rfl)|(apply u_wcall;rfl;rfl;exact h170;rfl;simp only[sbe];rfl)|(apply u_or;rfl)|refine u_join ?_|exact u_ret rfl rfl|(apply u_ret;rfl;first|exact rfl|(refine retB ?_)|(refine retI ?_)|(refine retD ?_))|(intro hz;(try simp only[sbs] at hz)))
       ·have hpr:=hJ' (p-1) (by omega) (by omega)
        unfold badP at hpr
        simp only[Bool.or_eq_false_iff,decide_eq_false_iff_not] at hpr
        have hlb:=least_bd F (p-1)
        have he2:=e_tp (t:=T) (p:=p-1) (by omega)
        have he3:=e_le (least:=x.f.least) (p:=p-1) (by rw[F.len];omega)
        repeat' (first|(apply nrm;simp only[sbe];rfl)|(apply u_iteT;rfl;(·first|exact hlp|exact hbad))|(apply u_chk;rfl)|(apply u_eaddr;rfl;rfl;(·first|exact hec|exact he1|exact he2|exact he3);simp only[sbe];rfl)|(apply u_lenL;rfl;exact lenL_map;simp only[sbe];rfl)|(apply u_pred;rfl;omega;simp only[sbe];rfl)|(apply u_add;rfl;rfl;omega;simp only[sbe];rfl)|(apply u_ev;rfl;simp only[sbe];rfl)|(apply u_wcall;rfl;rfl;exact h170;rfl;simp only[sbe];rfl)|(apply u_or;rfl)|(apply u_and;rfl)|refine u_join ?_|exact u_ret rfl rfl|(apply u_ret;rfl;first|exact rfl|(refine retB ?_)|(refine retI ?_)|(refine retD ?_))|(intro hz;(try simp only[sbs] at hz)))
     ·have hlp:decide ((T.length:Int)<(T.length:Int))=false:=by simp
      repeat' (first|(apply nrm;simp only[sbe];rfl)|(apply u_iteF;rfl;exact hlp)|(apply u_eaddr;rfl;rfl;exact hec;simp only[sbe];rfl)|(apply u_lenL;rfl;exact lenL_map;simp only[sbe];rfl)|(apply u_inc;rfl;omega;simp only[sbe];rfl)|(apply u_ev;rfl;simp only[sbe];rfl)|(apply u_jump;rfl;rfl)|refine at_jump ?_|(refine over_jump (by decide) ?_)|refine kj rfl ?_)
      refine hR (hstep ?_)
      unfold tOkB
      simp only[Bool.and_eq_true,decide_eq_true_eq,List.all_eq_true,List.mem_range,Bool.not_eq_true']
      exact⟨by omega,fun p hp=>hJ' p hp hp⟩
    ·repeat' (first|(apply nrm;simp only[sbe];rfl)|(apply u_iteT;rfl;(·first|exact hli|exact hlt))|(apply u_eaddr;rfl;rfl;exact hec;simp only[sbe];rfl)|(apply u_lenL;rfl;exact lenL_map;simp only[sbe];rfl)|(apply u_ev;rfl;simp only[sbe];rfl)|(apply u_wcall;rfl;rfl;exact h170;rfl;simp only[sbe];rfl)|refine u_join ?_|(apply u_ret;rfl;first|exact rfl|(refine retB ?_)|(refine retI ?_)|(refine retD ?_)))
   exact absurd (fun k hk=>hJ k hk hk) hTall
 ·refine⟨.st b0,ku9.W rfl ?_⟩
  unfold u9
  simp only[ups_cons,ups_nil,List.cons_append,List.nil_append]
  repeat' (first|(apply nrm;simp only[sbe];rfl)|(apply u_iteT;rfl;exact hc)|(apply u_chk;rfl)|(apply u_lenL;rfl;exact lenL_map;simp only[sbe];rfl)|(apply u_ev;rfl;simp only[sbe];rfl)|(apply u_call;rfl;exact evN1 rfl hn;exact h27;rfl;simp only[sbe];rfl)|(apply u_wcall;rfl;rfl;exact h170;rfl;simp only[sbe];rfl)|(apply u_or;rfl)|exact u_ret rfl rfl|(intro hz;(try simp only[sbs] at hz)))

end Go.Am.Wr
