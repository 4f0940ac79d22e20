/-
  Several texts, one behind the other.
-/
import Derived.Test.YtgebemgmpfpjbaaWrP8toWrE8
import Derived.Test.YtgebemgmpfpjbaaAmOut
import Derived.Test.YtgebemgmpfpjbaaWrU1toWrE1
set_option linter.unusedSimpArgs false
set_option linter.unusedVariables false
/-
 The best report of a car at a place.
-/
namespace Go.Am.Wr
open Go.Proofs
set_option maxRecDepth 100000
set_option maxHeartbeats 4000000

attribute [local irreducible] inR

variable {bs:List D} {j n v:Nat} {f:Fld} {ss:List Src} {rs:List Rep} {W:List Rep}

structure Vw (bs:List D)(v j:Nat)(f:Fld)(ss:List Src)(W:List Rep):Prop where
 v:∃s,bs[v]? = some (.blk 121 3 [.loc j 0,.lst (W.map Rep.d),s])
 l:∃m,bs[j]? = some (.blk 80 5 [I f.cars,I f.places,Is f.least,.lst (ss.map Src.d),.mp m])

theorem Vw.keep {bs':List D}(h:Vw bs v j f ss W)(hk:∀i,i<bs.length→bs'[i]? = bs[i]?):Vw bs' v j f ss W where
 v:=by
  obtain⟨s,hs⟩:=h.v
  exact⟨s,by rw[hk _ (List.getElem?_eq_some_iff.1 hs).1];exact hs⟩
 l:=by
  obtain⟨s,hs⟩:=h.l
  exact⟨s,by rw[hk _ (List.getElem?_eq_some_iff.1 hs).1];exact hs⟩

theorem vwOf {s:D}{idx:List Nat}(h:Lg bs j f ss rs n)(hV:ViewAt bs v j W s idx):Vw bs v j f ss W where
 v:=⟨s,hV.blk⟩
 l:=by
  obtain⟨m,hm⟩:=h.log
  exact⟨m,hm.blk⟩

theorem ea_rep {a:Nat}(ha:a<W.length):D.eaddr 7 (.lst (W.map Rep.d)) (In a)=some (.ptr (rAt W a).cs):=by
 rw[rAt_get ha];exact eaddr_get ha rfl

theorem Lg.src (h:Lg bs j f ss rs n){i:Nat}(hi:i<(logR rs).length):0≤(rAt (logR rs) i).source∧(rAt (logR rs) i).source<ss.length:=by
 rw[rAt_get hi]
 exact(right_bd (h.right _ ((mem_log _).1 (List.getElem_mem hi)).1)).1

end Go.Am.Wr

/-
 Time,Best,Merge's comparisons,and whether two reports quarrel.
-/
namespace Go.Am.Wr
open Go.Proofs
set_option maxRecDepth 100000
set_option maxHeartbeats 4000000

attribute [local irreducible] inR

variable {bs:List D} {j n v:Nat} {f:Fld} {ss:List Src} {rs:List Rep} {W:List Rep}

theorem ea_kn {f:Fld}{ss:List Src}{n:Nat}{l:List Rep}{place:Int}(h:0≤place∧place<(n:Int)):D.eaddr 6 (.lst ((knR ss f.least n l).map Kn.d)) (I place)=some (.ptr (knAt ss f.least n l place.toNat).cs):=by
 have e1:place=((place.toNat:Nat):Int):=by omega
 have hlt:place.toNat<n:=by omega
 have hg:(knR ss f.least n l)[place.toNat]? = some (knAt ss f.least n l place.toNat):=by simp[knR,hlt]
 have:=eaddr_lst (enc:=Kn.d) (sz:=6) hg rfl
 rw[←e1] at this
 exact this

/-! ## quarrels -/

theorem c96 (h:Vw bs v j f ss W)(F:FOk n f.least ss){r:Rep}(hr:ROk n ss r):FSpecR Try.prog 96 (.st bs) [.loc v 0,r.d] (.tup [I (r.time+(srcOf ss r).error),B (r.kind==1)]):=by
 obtain⟨s,hv⟩:=h.v
 obtain⟨m,hl⟩:=h.l
 have he:=hr.err F
 have ht:=hr.time
 refine ku96.R rfl rfl ?_
 unfold u96
 simp only[ups_cons,ups_nil,List.cons_append,List.nil_append]
 repeat' (first|(apply u_chk;rfl)|(apply u_ld;rfl;rfl;(·first|exact ld_blk hv rfl|exact ld_blk hl rfl);simp only[sbe];rfl)|(apply u_eaddr;rfl;rfl;exact ea_src hr.src;simp only[sbe];rfl)|(apply u_add;rfl;rfl;omega;simp only[sbe];rfl)|(apply u_ev;rfl;simp only[sbe];rfl)|exact u_ret rfl rfl)

theorem c97 (h:Vw bs v j f ss W)(F:FOk n f.least ss){r:Rep}(hr:ROk n ss r)(hk:r.kind≠3):FSpecR Try.prog 97 (.st bs) [.loc v 0,r.d] (I (lowB ss r)):=by
 obtain⟨s,hv⟩:=h.v
 obtain⟨m,hl⟩:=h.l
 have he:=hr.err F
 have ht:=hr.time
 have hlow:lowB ss r=if r.kind=2 then r.time-(srcOf ss r).error+1 else r.time-(srcOf ss r).error:=by
  unfold lowB
  rcases hr.kind with h | h | h
  ·rw[if_pos h,if_neg (by omega)]
  ·rw[if_neg (by omega),if_pos h,if_pos h]
  ·exact absurd h hk
 rw[hlow]
 refine ku97.R rfl rfl ?_
 unfold u97
 simp only[ups_cons,ups_nil,List.cons_append,List.nil_append]
 by_cases h2:r.kind=2
 ·have hd:(r.kind==2)=true:=by simp[h2]
  rw[if_pos h2]
  repeat' (first|(apply nrm;simp only[sbe];rfl)|(apply u_iteT;rfl;exact hd)|(apply u_chk;rfl)|(apply u_ld;rfl;rfl;(·first|exact ld_blk hv rfl|exact ld_blk hl rfl);simp only[sbe];rfl)|(apply u_eaddr;rfl;rfl;exact ea_src hr.src;simp only[sbe];rfl)|(apply u_add;rfl;rfl;omega;simp only[sbe];rfl)|(apply u_sub;rfl;rfl;omega;simp only[sbe];rfl)|(apply u_ev;rfl;simp only[sbe];rfl)|refine u_join ?_|(apply u_jump;rfl;rfl)|refine at_jump ?_|refine kj rfl ?_|exact u_ret rfl rfl)
 ·have hd:(r.kind==2)=false:=by simp[h2]
  rw[if_neg h2]
  repeat' (first|(apply nrm;simp only[sbe];rfl)|(apply u_iteF;rfl;exact hd)|(apply u_chk;rfl)|(apply u_ld;rfl;rfl;(·first|exact ld_blk hv rfl|exact ld_blk hl rfl);simp only[sbe];rfl)|(apply u_eaddr;rfl;rfl;exact ea_src hr.src;simp only[sbe];rfl)|(apply u_sub;rfl;rfl;omega;simp only[sbe];rfl)|(apply u_ev;rfl;simp only[sbe];rfl)|refine u_join ?_|(apply u_jump;rfl;rfl)|refine at_jump ?_|refine kj rfl ?_|exact u_ret rfl rfl)

def quB (ss:List Src)(least:List Int)(a b:Rep):Bool:=b.kind==1&&decide (highB ss b<lowB ss a+btw least a.place.toNat (b.place.toNat-a.place.toNat))

theorem btw_snoc (least:List Int)(a d:Nat):btw least a (d+1)=btw least a d+least.getD (a+d) 0:=by
 rw[btw_add]
 simp[btw]

theorem c70 (h:Vw bs v j f ss W)(F:FOk n f.least ss){a b:Rep}(ha:ROk n ss a)(hb:ROk n ss b)(hk:a.kind≠3):FSpecR Try.prog 70 (.st bs) [.loc v 0,a.d,b.d] (B (quB ss f.least a b)):=by
 obtain⟨s,hv⟩:=h.v
 obtain⟨m,hl⟩:=h.l
 have h96:=c96 h F hb
 have h97:=c97 h F ha hk
 have hpa:=ha.place
 have hpb:=hb.place
 have hnh:=F.hi
 have hlen:=F.len
 have hlb:=lowB_bd F ha
 have hll:-10000000000000≤lowB ss a:=by
  have he:=ha.err F
  have ht:=ha.time
  unfold lowB
  split
  ·omega
  ·split <;> omega
 refine ku70.R rfl rfl ?_
 unfold u70
 simp only[ups_cons,ups_nil,List.cons_append,List.nil_append]
 by_cases h1:b.kind=1
 ·have hq:quB ss f.least a b=decide (b.time+(srcOf ss b).error<lowB ss a+btw f.least a.place.toNat (b.place.toNat-a.place.toNat)):=by
   unfold quB highB
   simp[h1]
  have hk1:(b.kind==1)=true:=by simp[h1]
  rw[hk1] at h96
  rw[hq]
  obtain⟨d,hd⟩:∃d,d=b.place.toNat-a.place.toNat:=⟨_,rfl⟩
  rw[←hd]
  have hbt:=btw_small F a.place.toNat (d:=d) (by omega)
  repeat' (first|(apply u_iteF;rfl;exact rfl)|(apply u_chk;rfl)|(apply u_ev;rfl;simp only[sbe];rfl)|(apply u_call;rfl;rfl;exact h96;rfl;simp only[sbe];rfl)|refine u_join ?_)
  refine u_range (fun k=>[I (btw f.least a.place.toNat k),I (a.place+(k:Int))]) (fun _=>True) d (by rw[show a.place+((0:Nat):Int)=a.place by omega];rfl) (fun _=>rfl) trivial (fun k hkd _ R hR=>?_) (fun _ R=>?_)
  ·have hc:decide (a.place+(k:Int)<b.place)=true:=by simp;omega
   have e1:a.place+(k:Int)=((a.place.toNat+k:Nat):Int):=by omega
   have hlt:a.place.toNat+k<f.least.length:=by rw[hlen];omega
   have hea:D.eaddr 1 (Is f.least) (I (a.place+(k:Int)))=some (.ptr [I (f.least.getD (a.place.toNat+k) 0)]):=by
    have hg:f.least[a.place.toNat+k]? = some (f.least.getD (a.place.toNat+k) 0):=by simp[hlt]
    rw[e1]
    exact eaddr_lst (enc:=I) hg rfl
   have b1:=btw_small F a.place.toNat (d:=k) (by omega)
   have b2:=least_bd F (a.place.toNat+k)
   have e2:a.place+(k:Int)+1=a.place+((k+1:Nat):Int):=by omega
   have e3:=btw_snoc f.least a.place.toNat k
   rw[e3,←e2] at hR
   repeat' (first|(apply nrm;simp only[sbe];rfl)|(apply u_iteT;rfl;exact hc)|(apply u_chk;rfl)|(apply u_ld;rfl;rfl;(·first|exact ld_blk hv rfl|exact ld_blk hl rfl);simp only[sbe];rfl)|(apply u_eaddr;rfl;rfl;exact hea;simp only[sbe];rfl)|(apply u_add;rfl;rfl;omega;simp only[sbe];rfl)|(apply u_ev;rfl;simp only[sbe];rfl)|refine u_join ?_|(apply u_jump;rfl;rfl)|refine at_jump ?_|refine kj rfl ?_)
   exact hR trivial
  ·have hc:decide (a.place+(d:Int)<b.place)=false:=by simp;omega
   repeat' (first|(apply nrm;simp only[sbe];rfl)|(apply u_iteF;rfl;exact hc)|(apply u_add;rfl;rfl;omega;simp only[sbe];rfl)|(apply u_ev;rfl;simp only[sbe];rfl)|(apply u_call;rfl;rfl;exact h97;rfl;simp only[sbe];rfl)|(apply u_jump;rfl;rfl)|refine at_jump ?_|(refine over_jump (by decide) ?_)|refine kj rfl ?_|exact u_ret rfl rfl)
 ·have hk1:(b.kind==1)=false:=by simp[h1]
  have hq:quB ss f.least a b=false:=by unfold quB;rw[hk1];rfl
  rw[hk1] at h96
  rw[hq]
  repeat' (first|(apply u_iteT;rfl;exact rfl)|(apply u_chk;rfl)|(apply u_ev;rfl;simp only[sbe];rfl)|(apply u_call;rfl;rfl;exact h96;rfl;simp only[sbe];rfl)|exact u_ret rfl rfl)

end Go.Am.Wr

/-
 Quarrels.
-/
namespace Go.Am.Wr
open Go.Proofs
set_option maxRecDepth 100000
set_option maxHeartbeats 4000000

attribute [local irreducible] inR

variable {bs:List D} {j n v:Nat} {f:Fld} {ss:List Src} {rs:List Rep} {W:List Rep}

def quS (W:List Rep)(i q:Nat):Bool:=decide ((i:Int)≥(q:Int))||(rAt W i).kind==3||(rAt W q).kind==3||((rAt W i).kind==2&&(rAt W q).kind==2)
def quK (ss:List Src)(least:List Int)(a b:Rep):Bool:=(decide (a.place≤b.place)&&quB ss least a b)||(decide (b.place≤a.place)&&quB ss least b a)
def quH (ss:List Src)(least:List Int)(W:List Rep)(i q:Nat):Bool:=!quS W i q&&quK ss least (rAt W i) (rAt W q)

def quL (ss:List Src)(least:List Int)(W:List Rep)(l r:List Nat):List (Nat×Nat):=l.flatMap fun i=>(r.filter (quH ss least W i)).map fun q=>(i,q)

def qcs (p:Nat×Nat):List D:=[In p.1,In p.2]
def qD (p:Nat×Nat):D:=.agg (qcs p)

def QR (ss:List Src)(least:List Int)(W:List Rep)(o i q:Nat)(st st':List D):Prop:=
 (quH ss least W i q=true→∃s bs1 m,(st++[D.blk 45 7 (rAt W q).cs])[o]? = some (.blk 56 1 [s])∧D.apph 94 2 16 (.st (st++[D.blk 45 7 (rAt W q).cs])) s (.lst [.agg [In i,In q]])=some (.st bs1)∧D.apps (.st (st++[D.blk 45 7 (rAt W q).cs])) s (.lst [.agg [In i,In q]])=some m∧D.sto 1 (.st bs1) (.loc o 0) m=some (.st st')) ∧
 (quH ss least W i q=false→st'=st++[D.blk 45 7 (rAt W q).cs])

structure QJ (b1:List D)(o A:Nat)(W:List Rep)(i:Nat)(st:List D)(xs:List (Nat×Nat)):Prop where
 out:OutI b1 o 56 94 2 qcs st xs
 vi:st[A]? = some (.blk 3 1 [In i])
 va:st[A+1]? = some (.blk 45 7 (rAt W i).cs)

theorem QJ.step {b1:List D}{o A i:Nat}{st:List D}{xs:List (Nat×Nat)}{least:List Int}(h:QJ b1 o A W i st xs)(ho:o<b1.length)(hA:b1.length≤A)(hl:xs.length≤100000000000)(q:Nat) :
  ∃st',QR ss least W o i q st st'∧QJ b1 o A W i st' (xs++if quH ss least W i q=true then[(i,q)] else[]):=by
 have hp:=h.out.push ho (x:=D.blk 45 7 (rAt W q).cs) (by simp[D.noyl,Rep.cs,noyls])
 have hAl:A+1<st.length:=(List.getElem?_eq_some_iff.1 h.va).1
 have hvi:(st++[D.blk 45 7 (rAt W q).cs])[A]? = some (.blk 3 1 [In i]):=by rw[List.getElem?_append_left (by omega)];exact h.vi
 have hva:(st++[D.blk 45 7 (rAt W q).cs])[A+1]? = some (.blk 45 7 (rAt W i).cs):=by rw[List.getElem?_append_left hAl];exact h.va
 cases hq:quH ss least W i q
 ·refine⟨st++[D.blk 45 7 (rAt W q).cs],⟨fun e=>(by rw[hq] at e;cases e),fun _=>rfl⟩,⟨?_,hvi,hva⟩⟩
  simpa using hp
 ·obtain⟨s,bs1,st2,q1,q2,q3,q4,q5,q6,q7⟩:=hp.app ho (bytes:=16) (x:=(i,q)) (y:=.agg [In i,In q]) (fun _=>rfl) rfl rfl rfl (by omega) (by simp[maxLen];omega)
  refine⟨st2,⟨fun _=>⟨s,bs1,_,q1,q2,q3,q4⟩,fun e=>(by rw[hq] at e;cases e)⟩,⟨by simpa using q5,q7 _ _ _ _ hvi (by decide) (by omega),q7 _ _ _ _ hva (by decide) (by omega)⟩⟩

theorem innerQ {b1:List D}{o A i:Nat}{st:List D}{xs:List (Nat×Nat)}{least:List Int}{L:List Nat}(h:QJ b1 o A W i st xs)(ho:o<b1.length)(hA:b1.length≤A)(hL:L.length≤100000)(hl:xs.length≤10000000000) :
  ∃g:Nat→List D,g 0=st∧(∀k,k≤L.length→QJ b1 o A W i (g k) (xs++((L.take k).filter (quH ss least W i)).map fun q=>(i,q)))∧∀k (hk:k<L.length),QR ss least W o i L[k] (g k) (g (k+1)):=by
 obtain⟨g,g0,g1,g2⟩:=seqOf (N:=L.length) (s0:=st) (J:=fun k st=>QJ b1 o A W i st (xs++((L.take k).filter (quH ss least W i)).map fun q=>(i,q)))
  (R:=fun k st st'=>∀hk:k<L.length,QR ss least W o i L[k] st st') (by simpa using h) (fun k st hk hJ=>by
   have hlen:(((L.take k).filter (quH ss least W i)).map fun q=>(i,q)).length≤100000:=by
    have h1:=List.length_filter_le (quH ss least W i) (L.take k)
    have h2:(L.take k).length≤L.length:=by simp;omega
    simp only[List.length_map]
    omega
   obtain⟨st',r1,r2⟩:=hJ.step (ss:=ss) (least:=least) ho hA (by rw[List.length_append];omega) L[k]
   refine⟨st',fun _=>r1,?_⟩
   rw[List.take_succ_eq_append_getElem hk,List.filter_append,List.map_append,←List.append_assoc]
   have hf:([L[k]].filter (quH ss least W i)).map (fun q=>(i,q))=if quH ss least W i L[k]=true then[(i,L[k])] else[]:=by
    rw[List.filter_cons,List.filter_nil]
    split <;> rfl
   rw[hf]
   exact r2)
 exact⟨g,g0,g1,fun k hk=>g2 k hk hk⟩

theorem outerQ {b1:List D}{o:Nat}{least:List Int}{L:List Nat}(h:OutI b1 o 56 94 2 qcs b1 [])(ho:o<b1.length)(hL:L.length≤100000) :
  ∃f:Nat→List D,f 0=b1∧(∀k,k≤L.length→OutI b1 o 56 94 2 qcs (f k) (quL ss least W (L.take k) L))∧∀k (hk:k<L.length),∃g:Nat→List D,g 0=f k++[D.blk 3 1 [In L[k]]]++[D.blk 45 7 (rAt W L[k]).cs]∧g L.length=f (k+1)∧(∀q,q≤L.length→∃xs,QJ b1 o (f k).length W L[k] (g q) xs)∧∀q (hq:q<L.length),QR ss least W o L[k] L[q] (g q) (g (q+1)):=by
 obtain⟨f,f0,f1,f2⟩:=seqOf (N:=L.length) (s0:=b1) (J:=fun k st=>OutI b1 o 56 94 2 qcs st (quL ss least W (L.take k) L)∧(quL ss least W (L.take k) L).length≤k*100000)
  (R:=fun k st st'=>∀hk:k<L.length,∃g:Nat→List D,g 0=st++[D.blk 3 1 [In L[k]]]++[D.blk 45 7 (rAt W L[k]).cs]∧g L.length=st'∧(∀q,q≤L.length→∃xs,QJ b1 o st.length W L[k] (g q) xs)∧∀q (hq:q<L.length),QR ss least W o L[k] L[q] (g q) (g (q+1)))
  ⟨h,by simp[quL]⟩ (fun k st hk hJ=>by
   obtain⟨hO,hlen⟩:=hJ
   have hp:=(hO.push ho (x:=D.blk 3 1 [In L[k]]) (by simp[D.noyl,noyls])).push ho (x:=D.blk 45 7 (rAt W L[k]).cs) (by simp[D.noyl,Rep.cs,noyls])
   have hQ:QJ b1 o st.length W L[k] (st++[D.blk 3 1 [In L[k]]]++[D.blk 45 7 (rAt W L[k]).cs]) (quL ss least W (L.take k) L):=⟨hp,by simp,by simp⟩
   obtain⟨g,g0,g1,g2⟩:=innerQ (ss:=ss) (least:=least) (L:=L) hQ ho hO.len hL (by omega)
   have hend:=g1 _ (Nat.le_refl L.length)
   rw[List.take_length] at hend
   have hqs:quL ss least W (L.take (k+1)) L=quL ss least W (L.take k) L++(L.filter (quH ss least W L[k])).map fun q=>(L[k],q):=by
    unfold quL
    rw[List.take_succ_eq_append_getElem hk,List.flatMap_append,List.flatMap_cons,List.flatMap_nil,List.append_nil]
   have hfl:=List.length_filter_le (quH ss least W L[k]) L
   refine⟨g L.length,fun _=>⟨g,g0,rfl,fun q hq=>⟨_,g1 q hq⟩,g2⟩,?_,?_⟩
   ·rw[hqs];exact hend.out
   ·rw[hqs,List.length_append,List.length_map];omega)
 exact⟨f,f0,fun k hk=>(f1 k hk).1,fun k hk=>f2 k hk hk⟩

theorem vw_of {b0 st:List D}{i A:Nat}{xs:List (Nat×Nat)}(hVw:Vw b0 v j f ss W)(h:QJ (b0++[D.blk 106 1 [.loc v 0]]++[D.blk 56 1 [.snil]]) (b0.length+1) A W i st xs)(x:D) :
  Vw (st++[x]) v j f ss W∧(st++[x])[b0.length]? = some (.blk 106 1 [.loc v 0])∧(st++[x])[A]? = some (.blk 3 1 [In i])∧(st++[x])[A+1]? = some (.blk 45 7 (rAt W i).cs):=by
 have hl:=h.out.len
 simp only[List.length_append,List.length_cons,List.length_nil] at hl
 have hAl:=(List.getElem?_eq_some_iff.1 h.va).1
 refine⟨hVw.keep fun k hk=>?_,?_,?_,?_⟩
 ·rw[List.getElem?_append_left (by omega),h.out.old k (by simp;omega) (by omega),List.append_assoc,List.getElem?_append_left hk]
 ·rw[List.getElem?_append_left (by omega),h.out.old _ (by simp) (by omega)]
  simp
 ·rw[List.getElem?_append_left (by omega)];exact h.vi
 ·rw[List.getElem?_append_left (by omega)];exact h.va

theorem c33raw (h:Lg bs j f ss rs n){car t:Int}(hb:chkB f car 0 t=true):∃s b0 v fN,FSpecW Try.prog 33 (.st bs) [.loc j 0,I car,I t] (.tup [s,I 0]) (.st fN)∧Grow bs b0∧OutI (b0++[D.blk 106 1 [.loc v 0]]++[D.blk 56 1 [.snil]]) (b0.length+1) 56 94 2 qcs fN (quL ss f.least (logR rs) (idxC (logR rs) t car) (idxC (logR rs) t car))∧fN[b0.length+1]? = some (.blk 56 1 [s]):=by
 have h65:=c65 h car 0 t
 rw[if_pos hb] at h65
 obtain⟨b0,v,sv,h66,g1,hV,_⟩:=viewL h t
 have h':=h.keep g1
 have hVw:=vwOf h' hV
 have hny:=h'.ny
 have hWl:(logR rs).length≤100000:=h.logL
 have hidx:=idxC_le (logR rs) t car
 obtain⟨b1,hb1⟩:∃b1,b1=b0++[D.blk 106 1 [.loc v 0]]++[D.blk 56 1 [.snil]]:=⟨_,rfl⟩
 have hb1l:b1.length=b0.length+2:=by rw[hb1];simp
 have hO0:OutI b1 (b0.length+1) 56 94 2 qcs b1 []:=⟨Nat.le_refl _,fun _ _ _=>rfl,⟨.snil,by rw[hb1];simp,.inl ⟨rfl,rfl⟩,fun b hb=>by cases hb⟩,by rw[hb1,noyls_app,noyls_app,hny];simp[noyls,D.noyl]⟩
 obtain⟨F,F0,F1,F2⟩:=outerQ (W:=logR rs) (ss:=ss) (least:=f.least) (L:=idxC (logR rs) t car) hO0 (by omega) (by omega)
 have hend:=F1 _ (Nat.le_refl _)
 rw[List.take_length] at hend
 obtain⟨s,ho1,ho2,_⟩:=hend.ov
 have hkeep:∀st xs,OutI b1 (b0.length+1) 56 94 2 qcs st xs→∀i,i<b0.length→st[i]? = b0[i]?:=fun st xs hst i hi=>by
  rw[hst.old i (by omega) (by omega),hb1,List.append_assoc,List.getElem?_append_left hi]
 refine⟨s,b0,v,F (idxC (logR rs) t car).length,?_,g1,by rw[←hb1];exact hend,ho1⟩
 have hroks:∀k (hk:k<(idxC (logR rs) t car).length),ROk n ss (rAt (logR rs) (idxC (logR rs) t car)[k]):=fun k hk=>by
  refine h.rok (t:=t) (car:=car) _ ?_
  rw[←idxC_map]
  exact List.mem_map_of_mem (List.getElem_mem hk)
 refine ku33.W rfl ?_
 unfold u33
 simp only[ups_cons,ups_nil,List.cons_append,List.nil_append]
 have hvv1:(b0++[D.blk 106 1 [.loc v 0]]++[D.blk 56 1 [.snil]])[b0.length]? = some (.blk 106 1 [.loc v 0]):=by simp
 repeat' (first|(apply u_iteF;rfl;exact rfl)|(apply u_ld;rfl;rfl;exact ld_blk hvv1 rfl;simp only[sbe];rfl)|(apply u_sto;rfl;rfl;rfl;exact sto_all rfl rfl rfl;simp only[sbe];rfl)|(apply u_ev;rfl;simp only[sbe];rfl)|(apply u_call;rfl;rfl;(·first|exact h65|exact c69 _ _);rfl;simp only[sbe];rfl)|(apply u_wcall;rfl;rfl;exact h66;rfl;simp only[sbe];rfl)|refine u_join ?_)
 refine u_rfor2 (.tup []) (.st (F (idxC (logR rs) t car).length)) rfl (by kernel_rfl) rfl ?_ ?_ (fun cds m0 rec hyl=>?_) (by simp only[sbe];rfl) ?_
 ·repeat' (first|exact evN_nil|((apply evN_cons);rfl;(·first|rfl|(simp[noyls,D.noyl,D.cells]))))
 ·simpa[D.noyl] using hend.ny
 ·have h95:=c95L (m0:=m0) (rec:=rec) (cds:=cds) (car:=car) (sl:=[0,1,2,4,7,8,9,10,15,16,17,18,19,20,22,23,24,25,26,27]) F (fun k hk=>hV.keep (hkeep _ _ (F1 k hk))) (by omega) (fun k hk=>?_)
  ·rw[F0,hb1] at h95
   exact h95
  ·have hI:=F1 k (by omega)
   have hI2:=(F1 (k+1) hk).ny
   obtain⟨g,g0,gN,gJ,gR⟩:=F2 k hk
   have hra:=hroks k hk
   obtain⟨i,hi⟩:∃i,i=(idxC (logR rs) t car)[k]:=⟨_,rfl⟩
   rw[←hi] at g0 gJ gR hra ⊢
   generalize F k=st at hI g0 gJ ⊢
   generalize F (k+1)=st' at hI2 gN ⊢
   refine hyl _ _ _ (by simpa[D.noyl] using hI.ny) (by simp[noyls,D.noyl,rep_noyl]) rfl ?_
   obtain⟨xs0,hJ0⟩:=gJ 0 (Nat.zero_le _)
   have hvv0:(st++[D.blk 3 1 [In i]]++[D.blk 45 7 (rAt (logR rs) i).cs])[b0.length]? = some (.blk 106 1 [.loc v 0]):=by
    rw[←g0,hJ0.out.old _ (by omega) (by omega),hb1]
    simp
   repeat' (first|(apply u_ld;rfl;rfl;exact ld_blk hvv0 rfl;simp only[sbe];rfl)|(apply u_sto;rfl;rfl;rfl;exact sto_all rfl rfl rfl;simp only[sbe];rfl)|(apply u_ev;rfl;simp only[sbe];rfl)|(apply u_call;rfl;rfl;exact c69 _ _;rfl;simp only[sbe];rfl)|refine u_join ?_)
   refine u_rfor2 (.tup []) (.st (g (idxC (logR rs) t car).length)) rfl (by kernel_rfl) rfl ?_ ?_ (fun cds m0 rec hyl=>?_) (by simp only[sbe];rfl) ?_
   ·repeat' (first|exact evN_nil|((apply evN_cons);rfl;(·first|rfl|(simp[noyls,D.noyl,D.cells,rep_noyl]))))
   ·rw[gN]
    simpa[D.noyl] using hI2
   ·have h95:=c95L (m0:=m0) (rec:=rec) (cds:=cds) (car:=car) (sl:=[0,1,2,4,7,8,9,10,11,12,15,16,17,18,19,20,22,23,24,25,26,27,28,29,30,31,32]) g (fun q hq=>by
     obtain⟨xs,hJ⟩:=gJ q hq
     exact hV.keep (hkeep _ _ hJ.out)) (by omega) (fun q hq=>?_)
    ·rw[g0] at h95
     exact h95
    ·obtain⟨xs,hJ⟩:=gJ q (by omega)
     obtain⟨xs2,hJ2⟩:=gJ (q+1) hq
     have hn2:=hJ2.out.ny
     obtain⟨r1,r2⟩:=gR q hq
     have hrb:=hroks q hq
     obtain⟨p,hp⟩:∃p,p=(idxC (logR rs) t car)[q]:=⟨_,rfl⟩
     rw[←hp] at r1 r2 hrb ⊢
     clear hJ2
     generalize g q=st2 at hJ r1 r2 ⊢
     generalize g (q+1)=st3 at hn2 r1 r2 ⊢
     refine hyl _ _ _ (by simpa[D.noyl] using hJ.out.ny) (by simp[noyls,D.noyl,rep_noyl]) rfl ?_
     rw[hb1] at hJ
     obtain⟨k1,k2,k3,k4⟩:=vw_of hVw hJ (D.blk 45 7 (rAt (logR rs) p).cs)
     have k4':(st2++[D.blk 45 7 (rAt (logR rs) p).cs])[(st++[D.blk 3 1 [In i]]).length]? = some (.blk 45 7 (rAt (logR rs) i).cs):=by
      rw[show(st++[D.blk 3 1 [In i]]).length=st.length+1 by simp]
      exact k4
     have k5:(st2++[D.blk 45 7 (rAt (logR rs) p).cs])[st2.length]? = some (.blk 45 7 (rAt (logR rs) p).cs):=by simp
     have l4:D.ld true 7 (.st (st2++[D.blk 45 7 (rAt (logR rs) p).cs])) (.loc (st++[D.blk 3 1 [In i]]).length 0)=some (rAt (logR rs) i).d:=ldN_blk k4' (by simp[Rep.cs])
     have l5:D.ld true 7 (.st (st2++[D.blk 45 7 (rAt (logR rs) p).cs])) (.loc st2.length 0)=some (rAt (logR rs) p).d:=ldN_blk k5 (by simp[Rep.cs])
     cases hS:quS (logR rs) i p
     ·have hS':=hS
      unfold quS at hS'
      have hka:(rAt (logR rs) i).kind≠3:=by
       simp only[Bool.or_eq_false_iff,beq_eq_false_iff_ne] at hS'
       exact hS'.1.1.2
      have hkb:(rAt (logR rs) p).kind≠3:=by
       simp only[Bool.or_eq_false_iff,beq_eq_false_iff_ne] at hS'
       exact hS'.1.2
      have q1:=c70 k1 h.fok hra hrb hka
      have q2:=c70 k1 h.fok hrb hra hkb
      cases hK:quK ss f.least (rAt (logR rs) i) (rAt (logR rs) p)
      ·have hK':=hK
       unfold quK at hK'
       have e:=r2 (by unfold quH;rw[hS,hK];rfl)
       subst e
       repeat' (first|(apply nrm;simp only[sbe];rfl)|(apply u_iteF;rfl;(·first|exact hS'|exact hK'))|(apply u_ld;rfl;rfl;(·first|exact ld_blk k2 rfl|exact ld_blk k3 rfl|exact ld_blk k4' rfl|exact ld_blk k5 rfl|exact l4|exact l5);simp only[sbe];rfl)|(apply u_sto;rfl;rfl;rfl;exact sto_all rfl rfl rfl;simp only[sbe];rfl)|(apply u_ev;rfl;simp only[sbe];rfl)|(apply u_call;rfl;rfl;(·first|exact q1|exact q2);rfl;simp only[sbe];rfl)|(apply u_or;rfl)|(apply u_and;rfl)|refine u_join ?_|(apply u_jump;rfl;rfl)|refine at_jump ?_|refine kj rfl ?_|exact u_ret rfl rfl|(intro hz;(try simp only[sbs] at hz)))
       rfl
      ·have hK':=hK
       unfold quK at hK'
       obtain⟨s2,bs1,m2,a1,a2,a3,a4⟩:=r1 (by unfold quH;rw[hS,hK];rfl)
       have ho1':b0.length+1=(b0++[D.blk 106 1 [.loc v 0]]).length:=by simp
       rw[ho1'] at a1 a4
       repeat' (first|(apply nrm;simp only[sbe];rfl)|(apply u_iteT;rfl;exact hK')|(apply u_iteF;rfl;exact hS')|(apply u_stoa;rfl;rfl;rfl;rfl;rfl;exact a3;exact a4;simp only[sbe];rfl)|(apply u_ld;rfl;rfl;(·first|exact ld_blk k2 rfl|exact ld_blk k3 rfl|exact ld_blk k4' rfl|exact ld_blk k5 rfl|exact l4|exact l5|exact ld_blk a1 rfl);simp only[sbe];rfl)|(apply u_sto;rfl;rfl;rfl;exact sto_all rfl rfl rfl;simp only[sbe];rfl)|(apply u_apph;rfl;rfl;rfl;exact a2;simp only[sbe];rfl)|(apply u_ev;rfl;simp only[sbe];rfl)|(apply u_call;rfl;rfl;(·first|exact q1|exact q2);rfl;simp only[sbe];rfl)|(apply u_or;rfl)|(apply u_and;rfl)|refine u_join ?_|(apply u_jump;rfl;rfl)|refine at_jump ?_|refine kj rfl ?_|exact u_ret rfl rfl|(intro hz;(try simp only[sbs] at hz)))
       rfl
     ·have hS':=hS
      unfold quS at hS'
      have e:=r2 (by unfold quH;rw[hS];rfl)
      subst e
      repeat' (first|(apply nrm;simp only[sbe];rfl)|(apply u_iteT;rfl;exact hS')|(apply u_ld;rfl;rfl;(·first|exact ld_blk k3 rfl|exact ld_blk k4' rfl|exact ld_blk k5 rfl);simp only[sbe];rfl)|(apply u_sto;rfl;rfl;rfl;exact sto_all rfl rfl rfl;simp only[sbe];rfl)|(apply u_ev;rfl;simp only[sbe];rfl)|(apply u_or;rfl)|(apply u_and;rfl)|refine u_join ?_|(apply u_jump;rfl;rfl)|refine at_jump ?_|refine kj rfl ?_|exact u_ret rfl rfl|(intro hz;(try simp only[sbs] at hz)))
      rfl
   ·rw[gN]
    repeat' (first|(apply nrm;simp only[sbe];rfl)|(apply u_jump;rfl;rfl)|refine at_jump ?_|refine kj rfl ?_)
    rfl
 ·have ho1':b0.length+1=(b0++[D.blk 106 1 [.loc v 0]]).length:=by simp
  rw[ho1'] at ho1
  repeat' (first|(apply nrm;simp only[sbe];rfl)|(apply u_ld;rfl;rfl;exact ld_blk ho1 rfl;simp only[sbe];rfl)|(apply u_jump;rfl;rfl)|refine at_jump ?_|refine kj rfl ?_|exact u_ret rfl rfl)

theorem c33 (h:Lg bs j f ss rs n){car t:Int}(hb:chkB f car 0 t=true):∃bs',FSpecW Try.prog 33 (.st bs) [.loc j 0,I car,I t] (.tup [.lst ((quL ss f.least (logR rs) (idxC (logR rs) t car) (idxC (logR rs) t car)).map qD),I 0]) (.st bs')∧Grow bs bs':=by
 obtain⟨s,b0,v,fN,h1,g1,hO,hs⟩:=c33raw h hb
 obtain⟨s',e1,e2,e3⟩:=hO.ov
 rw[hs] at e1
 cases e1
 obtain⟨b2,h2,hl2,ho2,hn2⟩:=FSpecW.frzS (sz:=2) (enc:=qcs) (d:=qD) (fun _=>rfl) (fun _=>rfl) h1 e2
 have hol:=hO.len
 simp only[List.length_append,List.length_cons,List.length_nil] at hol
 refine⟨b2,h2,by rw[hl2];have:=g1.le;omega,fun i hi=>?_,fun _=>hn2 hO.ny⟩
 have hg:=g1.le
 rw[ho2 i (fun e=>by have:=e3 i e;simp at this;omega),hO.old i (by simp;omega) (by omega),List.append_assoc,List.getElem?_append_left (by omega),g1.old i hi]

end Go.Am.Wr

/-
 On.
-/
namespace Go.Am.Wr
open Go.Proofs
set_option maxRecDepth 100000
set_option maxHeartbeats 4000000

attribute [local irreducible] inR

variable {bs:List D} {j n v:Nat} {f:Fld} {ss:List Src} {rs:List Rep} {W:List Rep}

theorem c74 (k:Kn):FSpecR Try.prog 74 (.st bs) [k.d] (B k.out):=by
 refine ku74.R rfl rfl ?_
 unfold u74
 simp only[ups_cons,ups_nil,List.cons_append,List.nil_append]
 repeat' (first|(apply u_chk;rfl)|exact u_ret rfl rfl)

theorem c98 {P:Kn→Bool}{f:Nat}{us cs:List D}{l:List Kn}(hL:l.length≤1000000000)(hc:callable Try.prog f=true)(hf:∀x,x∈l→FSpecR Try.prog f (.st bs) (us++[Kn.d x]++cs) (B (P x))):FSpecR Try.prog 98 (.st bs) [.lst (l.map Kn.d),.fn f us cs] (I (fi P l)):=by
 refine ku98.R rfl rfl ?_
 unfold u98
 simp only[ups_cons,ups_nil,List.cons_append,List.nil_append]
 repeat' (first|(apply u_lenL;rfl;exact lenL_map;simp only[sbe];rfl)|refine u_join ?_)
 refine u_range (fun i=>[I i]) (fun i=>∀k (h:k<i) (h2:k<l.length),P l[k]=false) l.length rfl (fun _=>rfl) (fun k h=>absurd h (Nat.not_lt_zero _)) (fun i hi hJ R hR=>?_) (fun hJ R=>?_)
 ·have hcal:=hf l[i] (List.getElem_mem hi)
  have hli:decide ((i:Int)<(l.length:Int))=true:=by simp;omega
  cases hP:P l[i]
  ·rw[hP] at hcal
   repeat' (first|(apply nrm;simp only[sbe];rfl)|(apply u_iteT;rfl;exact hli)|(apply u_iteF;rfl;exact rfl)|(apply u_eaddr;rfl;rfl;exact eaddr_get hi rfl;simp only[sbe];rfl)|(apply u_inc;rfl;omega;simp only[sbe];rfl)|(apply u_ev;rfl;simp only[sbe];rfl)|(apply u_callv;rfl;exact hc;rfl;rfl;exact hcal;rfl;simp only[sbe];rfl)|refine u_join ?_|(apply u_jump;rfl;rfl)|refine at_jump ?_|refine kj rfl ?_)
   refine hR fun k hk h2=>?_
   rcases Nat.lt_or_ge k i with h3 | h3
   ·exact hJ k h3 h2
   ·have e:k=i:=by omega
    subst e
    exact hP
  ·rw[hP] at hcal
   repeat' (first|(apply nrm;simp only[sbe];rfl)|(apply u_iteT;rfl;(·first|exact hli|exact rfl))|(apply u_eaddr;rfl;rfl;exact eaddr_get hi rfl;simp only[sbe];rfl)|(apply u_ev;rfl;simp only[sbe];rfl)|(apply u_callv;rfl;exact hc;rfl;rfl;exact hcal;rfl;simp only[sbe];rfl)|refine u_join ?_|(apply u_ret;rfl;first|exact rfl|(refine retB ?_)|(refine retI ?_)|(refine retD ?_)))
   exact(fi_at hi hP fun k hk=>hJ k hk (by omega)).symm
 ·repeat' (first|(apply nrm;simp only[sbe];rfl)|(apply u_ev;rfl;simp only[sbe];rfl)|(apply u_jump;rfl;rfl)|refine at_jump ?_|(refine over_jump (by decide) ?_)|refine kj rfl ?_|(apply u_ite;rfl;all_goals (intro hz;(try simp only[sbs] at hz);first|(exact absurd hz (by decide))|(exfalso;omega)|skip))|(apply u_ret;rfl;first|exact rfl|(refine retB ?_)|(refine retI ?_)|(refine retD ?_)))
  refine(fi_no fun a ha=>?_).symm
  obtain⟨k,hk,rfl⟩:=List.mem_iff_getElem.1 ha
  exact hJ k hk hk

theorem c73 {l:List Kn}(hL:l.length≤1000000000):FSpecR Try.prog 73 (.st bs) [.lst (l.map Kn.d),.fn 74 [] []] (B (l.any fun k=>k.out)):=by
 have h98:=c98 (bs:=bs) (P:=fun k=>k.out) (f:=74) (us:=[]) (cs:=[]) (l:=l) hL (by kernel_rfl) (fun x _=>c74 x)
 refine ku73.R rfl rfl ?_
 unfold u73
 simp only[ups_cons,ups_nil,List.cons_append,List.nil_append]
 repeat' (first|(apply u_ev;rfl;simp only[sbe];rfl)|(apply u_call;rfl;rfl;exact h98;rfl;simp only[sbe];rfl)|(apply u_ret;rfl;first|exact rfl|(refine retB ?_)|(refine retI ?_)|(refine retD ?_)))
 exact fi_any _ l

def onB (f:Fld)(ss:List Src)(n:Nat)(W:List Rep)(t from_ to car:Int):Bool:=
 !(knAt ss f.least n (ofCar W t car) to.toNat).passed&&((knAt ss f.least n (ofCar W t car) from_.toNat).passed||(!(((knR ss f.least n (ofCar W t car)).take from_.toNat).any fun k=>k.out)&&decide ((knAt ss f.least n (ofCar W t car) from_.toNat).low≤t)))

def onL (f:Fld)(ss:List Src)(n:Nat)(W:List Rep)(t from_ to:Int)(k:Nat):List Int:=((List.range k).map fun(i:Nat)=>(i:Int)+1).filter (onB f ss n W t from_ to)

theorem onL_succ (t from_ to:Int)(k:Nat):onL f ss n W t from_ to (k+1)=onL f ss n W t from_ to k++if onB f ss n W t from_ to ((k:Int)+1)=true then[(k:Int)+1] else[]:=by
 unfold onL
 rw[List.range_succ,List.map_append,List.filter_append,List.map_cons,List.map_nil,List.filter_cons,List.filter_nil]

theorem onL_len (t from_ to:Int)(k:Nat):(onL f ss n W t from_ to k).length≤k:=by
 unfold onL
 refine Nat.le_trans (List.length_filter_le _ _) ?_
 simp

theorem sub_kn {l:List Kn}{x:Int}(h:0≤x∧x≤l.length):D.sub 6 (.lst (l.map Kn.d)) (I 0) (I x)=some (.lst ((l.take x.toNat).map Kn.d)):=by
 simp only[D.sub]
 rw[if_pos ⟨Int.le_refl _,h.1,by simpa using h.2,by simp[allCells,Kn.d,Kn.cs,D.cells]⟩]
 simp[List.map_take]

theorem c36 (h:Lg bs j f ss rs n){from_ to t:Int}(hb:inR t 0 1000000000000=true)(hft:0≤from_∧from_<to∧to<(n:Int)):∃bs',FSpecW Try.prog 36 (.st bs) [.loc j 0,I from_,I to,I t] (.tup [Is (onL f ss n (logR rs) t from_ to f.cars.toNat),I 0]) (.st bs')∧Grow bs bs':=by
 have h65:=c65 h 1 0 t
 have hcars:=h.cars
 have hpl:=h.pl
 have hnh:=h.fok.hi
 rw[if_pos (by unfold chkB;rw[hb];simp[inR,hcars,hpl];omega)] at h65
 obtain⟨b1,v,s,h66,g1,hV,_⟩:=viewL h t
 have h':=h.keep g1
 obtain⟨F,F0,F1,F2⟩:=seqOf (N:=f.cars.toNat) (s0:=b1) (J:=fun k st=>Grow b1 st) (R:=fun k st st'=>FSpecW Try.prog 67 (.st st) [.loc v 0,I ((k:Int)+1)] (.lst ((knR ss f.least n (ofCar (logR rs) t ((k:Int)+1))).map Kn.d)) (.st st')) (Grow.refl b1) (fun k st _ hJ=>by
  obtain⟨st',h1,h2⟩:=knownL (h'.keep hJ) (hV.keep hJ.old) ((k:Int)+1)
  exact⟨st',h1,hJ.trans h2⟩)
 refine⟨F f.cars.toNat,?_,g1.trans (F1 _ (Nat.le_refl _))⟩
 obtain⟨m,hm⟩:=h.log
 obtain⟨m',hm'⟩:=h'.log
 have c1:decide (from_<0)=false:=by simp;omega
 have c2:decide (from_≥to)=false:=by simp;omega
 have c3:decide (to≥f.places)=false:=by simp;omega
 have c4:(decide (from_<0)||decide (from_≥to)||decide (to≥f.places))=false:=by rw[c1,c2,c3];rfl
 refine ku36.W rfl ?_
 unfold u36
 simp only[ups_cons,ups_nil,List.cons_append,List.nil_append]
 repeat' (first|(apply nrm;simp only[sbe];rfl)|(apply u_iteF;rfl;(·first|exact rfl|exact c4))|(apply u_chk;rfl)|(apply u_ld;rfl;rfl;exact ld_blk hm.blk rfl;simp only[sbe];rfl)|(apply u_ev;rfl;simp only[sbe];rfl)|(apply u_call;rfl;rfl;exact h65;rfl;simp only[sbe];rfl)|(apply u_wcall;rfl;rfl;exact h66;rfl;simp only[sbe];rfl)|(apply u_or;rfl)|refine u_join ?_|exact u_ret rfl rfl|(intro hz;(try simp only[sbs] at hz)))
 refine u_range (fun k=>[Is (onL f ss n (logR rs) t from_ to k),I ((k:Int)+1),.st (F k)]) (fun _=>True) f.cars.toNat (by rw[F0];rfl) (fun _=>rfl) trivial (fun k hk _ R hR=>?_) (fun _ R=>?_)
 ·have hli:decide ((k:Int)+1≤f.cars)=true:=by simp;omega
  have hlk:(F k)[j]? = some (.blk 80 5 [I f.cars,I f.places,Is f.least,.lst (ss.map Src.d),.mp m']):=by
   rw[(F1 k (by omega)).old j (List.getElem?_eq_some_iff.1 hm'.blk).1];exact hm'.blk
  have h67:=F2 k hk
  have hkl:(knR ss f.least n (ofCar (logR rs) t ((k:Int)+1))).length=n:=by simp[knR]
  have hsub:=sub_kn (l:=knR ss f.least n (ofCar (logR rs) t ((k:Int)+1))) (x:=from_) (by rw[hkl];omega)
  have h73:=c73 (bs:=F (k+1)) (l:=(knR ss f.least n (ofCar (logR rs) t ((k:Int)+1))).take from_.toNat) (by simp;omega)
  have he1:=ea_kn (f:=f) (ss:=ss) (n:=n) (l:=ofCar (logR rs) t ((k:Int)+1)) (place:=from_) (by omega)
  have he2:=ea_kn (f:=f) (ss:=ss) (n:=n) (l:=ofCar (logR rs) t ((k:Int)+1)) (place:=to) (by omega)
  have hon:onB f ss n (logR rs) t from_ to ((k:Int)+1)=onB f ss n (logR rs) t from_ to ((k:Int)+1):=rfl
  have hsc:=onL_succ (f:=f) (ss:=ss) (n:=n) (W:=logR rs) t from_ to k
  have hll:=onL_len (f:=f) (ss:=ss) (n:=n) (W:=logR rs) t from_ to k
  have happ:=app_int (out:=onL f ss n (logR rs) t from_ to k) (x:=(k:Int)+1) (by omega)
  have e2:(k:Int)+1+1=((k+1:Nat):Int)+1:=by omega
  cases hc:onB f ss n (logR rs) t from_ to ((k:Int)+1)
  ·have hc':=hc
   unfold onB at hc'
   rw[hc,if_neg (by decide),List.append_nil] at hsc
   rw[hsc,←e2] at hR
   repeat' (first|(apply nrm;simp only[sbe];rfl)|(apply u_iteT;rfl;exact hli)|(apply u_iteF;rfl;exact hc')|(apply u_chk;rfl)|(apply u_ld;rfl;rfl;exact ld_blk hlk rfl;simp only[sbe];rfl)|(apply u_eaddr;rfl;rfl;(·first|exact he1|exact he2);simp only[sbe];rfl)|(apply u_subl;rfl;rfl;rfl;exact hsub;simp only[sbe];rfl)|(apply u_add;rfl;rfl;omega;simp only[sbe];rfl)|(apply u_ev;rfl;simp only[sbe];rfl)|(apply u_call;rfl;rfl;exact h73;rfl;simp only[sbe];rfl)|(apply u_wcall;rfl;rfl;exact h67;rfl;simp only[sbe];rfl)|(apply u_or;rfl)|(apply u_and;rfl)|refine u_join ?_|(apply u_jump;rfl;rfl)|refine at_jump ?_|refine kj rfl ?_|exact u_ret rfl rfl|(intro hz;(try simp only[sbs] at hz)))
   exact hR trivial
  ·have hc':=hc
   unfold onB at hc'
   rw[hc,if_pos rfl] at hsc
   rw[hsc,←e2] at hR
   repeat' (first|(apply nrm;simp only[sbe];rfl)|(apply u_iteT;rfl;(·first|exact hli|exact hc'))|(apply u_chk;rfl)|(apply u_ld;rfl;rfl;exact ld_blk hlk rfl;simp only[sbe];rfl)|(apply u_eaddr;rfl;rfl;(·first|exact he1|exact he2);simp only[sbe];rfl)|(apply u_app;rfl;rfl;exact happ;simp only[sbe];rfl)|(apply u_subl;rfl;rfl;rfl;exact hsub;simp only[sbe];rfl)|(apply u_add;rfl;rfl;omega;simp only[sbe];rfl)|(apply u_ev;rfl;simp only[sbe];rfl)|(apply u_call;rfl;rfl;exact h73;rfl;simp only[sbe];rfl)|(apply u_wcall;rfl;rfl;exact h67;rfl;simp only[sbe];rfl)|(apply u_or;rfl)|(apply u_and;rfl)|refine u_join ?_|(apply u_jump;rfl;rfl)|refine at_jump ?_|refine kj rfl ?_|exact u_ret rfl rfl|(intro hz;(try simp only[sbs] at hz)))
   exact hR trivial
 ·have hli:decide ((f.cars.toNat:Int)+1≤f.cars)=false:=by simp;omega
  have hlk:(F f.cars.toNat)[j]? = some (.blk 80 5 [I f.cars,I f.places,Is f.least,.lst (ss.map Src.d),.mp m']):=by
   rw[(F1 _ (Nat.le_refl _)).old j (List.getElem?_eq_some_iff.1 hm'.blk).1];exact hm'.blk
  repeat' (first|(apply nrm;simp only[sbe];rfl)|(apply u_iteF;rfl;exact hli)|(apply u_chk;rfl)|(apply u_ld;rfl;rfl;exact ld_blk hlk rfl;simp only[sbe];rfl)|(apply u_ev;rfl;simp only[sbe];rfl)|(apply u_jump;rfl;rfl)|refine at_jump ?_|(refine over_jump (by decide) ?_)|refine kj rfl ?_|exact u_ret rfl rfl)

end Go.Am.Wr

/-
 New,Add: what comes of a log;comparisons of lists.
-/
namespace Go.Am.Wr
open Go.Proofs
set_option maxRecDepth 100000
set_option maxHeartbeats 4000000

attribute [local irreducible] inR

variable {bs:List D} {j n v:Nat} {f:Fld} {ss:List Src} {rs:List Rep} {W:List Rep}

structure GrowX (bs bs':List D)(j:Nat):Prop where
 le:bs.length≤bs'.length
 old:∀i,i<bs.length→i≠j→bs'[i]? = bs[i]?
 ny:noyls bs=true→noyls bs'=true

theorem mapOk_fold:∀(rs:List Rep) {m:List (Rep×Int)},MapOk m→MapOk (rs.foldl put m)
 | [],_,h=>h
 | r :: rs,_,h=>mapOk_fold rs (put_ok h r)

theorem fld_noyl (f:Fld)(ss:List Src)(m:Nat):(D.blk 80 5 [I f.cars,I f.places,Is f.least,.lst (ss.map Src.d),.mp m]).noyl=true:=by
 have h1:noyls (f.least.map I)=true:=noyls_map fun _ _=>rfl
 have h2:noyls (ss.map Src.d)=true:=noyls_map fun s _=>by simp[Src.d,Src.cs,D.noyl,noyls]
 simp[D.noyl,noyls,h1,h2]

theorem kv_noyl (kv:List (Rep×Int)):(D.mblk (kv.map kvD)).noyl=true:=by
 have h:noyls (kv.map kvD)=true:=noyls_map fun e _=>by simp[kvD,D.noyl,noyls,rep_noyl]
 simpa[D.noyl] using h

theorem addL (h:Lg bs j f ss rs n){l:List Rep}(hl:l.length≤1000000)(hr:∀r,r∈l→rightB f ss r=true)(hlen:((rs++l).foldl put []).length≤5000) :
  ∃bs',FSpecW Try.prog 21 (.st bs) [.loc j 0,.lst (l.map Rep.d)] (I 0) (.st bs')∧Lg bs' j f ss (rs++l) n∧GrowX bs bs' j:=by
 obtain⟨m,hm⟩:=h.log
 have hs:=h.srcs
 have hp:=h.pl
 have hnh:=h.fok.hi
 have hjl:j<bs.length:=(List.getElem?_eq_some_iff.1 hm.blk).1
 have hfold:l.foldl put (rs.foldl put [])=(rs++l).foldl put []:=by rw[List.foldl_append]
 have hany:l.any (fun r=>!rightB f ss r)=false:=by
  rw[List.any_eq_false]
  intro r hr'
  simp[hr r hr']
 have h21:=c21 hm (mapOk_fold rs map_nil) (by omega) (by omega) hl hany
 rw[hfold,if_neg (by omega),if_neg (by omega)] at h21
 refine⟨_,h21,⟨⟨bs.length,?_,?_⟩,by omega,h.fok,hp,h.cars,hs,fun r hr'=>?_,?_⟩,⟨by simp,fun i hi hne=>?_,fun hn=>?_⟩⟩
 ·rw[List.getElem?_set_self (by simp;omega)]
 ·rw[List.getElem?_set_ne (by omega)]
  simp
 ·rcases List.mem_append.1 hr' with h1 | h1
  ·exact h.right r h1
  ·exact hr r h1
 ·refine noyls_set _ _ _ ?_ (fld_noyl _ _ _)
  rw[noyls_app,h.ny]
  simp[noyls,kv_noyl]
 ·rw[List.getElem?_set_ne (Ne.symm hne),List.getElem?_append_left hi]
 ·refine noyls_set _ _ _ ?_ (fld_noyl _ _ _)
  rw[noyls_app,hn]
  simp[noyls,kv_noyl]

theorem addbad (h:Lg bs j f ss rs n){l:List Rep}(hl:l.length≤1000000)(hbad:l.any (fun r=>!rightB f ss r)=true):FSpecW Try.prog 21 (.st bs) [.loc j 0,.lst (l.map Rep.d)] (I 2) (.st bs):=by
 obtain⟨m,hm⟩:=h.log
 have hs:=h.srcs
 have hp:=h.pl
 have hnh:=h.fok.hi
 exact c21bad hm (by omega) (by omega) hl hbad

theorem put_len (m:List (Rep×Int))(r:Rep):(put m r).length≤m.length+1:=by
 cases h:m.any (fun e=>decide (e.1=plainR r)) with
 | true=>rw[put_len_has h];omega
 | false=>rw[put_len_new h];omega

theorem fold_len:∀(rs:List Rep) (m:List (Rep×Int)),(rs.foldl put m).length≤m.length+rs.length
 | [],m=>by simp
 | r :: rs,m=>by
  have h1:=fold_len rs (put m r)
  have h2:=put_len m r
  simp only[List.foldl_cons,List.length_cons]
  omega

theorem fok_of (hf:fielded f ss=true):FOk f.places.toNat f.least ss∧f.places=((f.places.toNat:Nat):Int)∧(1≤f.cars∧f.cars≤200)∧ss.length≤50:=by
 unfold fielded inR srcBad inR at hf
 simp only[Bool.and_eq_true,decide_eq_true_eq,Bool.not_eq_true',List.any_eq_false,Bool.not_eq_false'] at hf
 obtain⟨h1,h2,h3,h4,h5,h6⟩:=hf
 refine⟨⟨by omega,by omega,by omega,fun x hx=>?_,fun s hs=>?_⟩,by omega,by omega,by omega⟩
 ·have:=h5 x hx
  simp at this
  omega
 ·have:=h6 s hs
  simp at this
  omega

theorem newL (hf:fielded f ss=true)(hn:noyls bs=true):∃bs' j,FSpecW Try.prog 18 (.st bs) [f.d,.lst (ss.map Src.d)] (.tup [.loc j 0,I 0]) (.st bs')∧Lg bs' j f ss [] f.places.toNat∧Grow bs bs'∧bs.length≤j:=by
 obtain⟨h1,h2,h3,h4⟩:=fok_of hf
 have h5:=h1.len
 have h6:=h1.hi
 have hi:i64 f.places:=⟨by omega,by omega⟩
 have hny:noyls (newSt bs f ss)=true:=by
  have:=fld_noyl f ss bs.length
  rw[newSt,noyls_app,hn]
  simp only[noyls,this]
  rfl
 refine⟨newSt bs f ss,bs.length+1,c18 (by omega) (by omega) hi hf,⟨⟨bs.length,newSt_log⟩,by simp,h1,h2,h3,h4,by simp,hny⟩,⟨by simp[newSt],fun i hi=>?_,fun _=>hny⟩,by omega⟩
 simp only[newSt]
 rw[List.getElem?_append_left hi]

theorem newbad (h1:f.least.length≤1000000000)(h2:ss.length≤1000000000)(hp:i64 f.places)(hb:fielded f ss=false):FSpecW Try.prog 18 (.st bs) [f.d,.lst (ss.map Src.d)] (.tup [.v (.pointer none),I 2]) (.st bs):=c18bad h1 h2 hp hb

/-! ## equal lists -/

theorem neq_rep (a b:Rep):D.bin .neq KR a.d b.d=some (B (decide (a≠b))):=by
 obtain⟨a1,a2,a3,a4,a5,a6,a7⟩:=a
 obtain⟨b1,b2,b3,b4,b5,b6,b7⟩:=b
 simp only[Rep.d,Rep.cs,D.bin,D.eqs,cmpI,Rep.mk.injEq,ne_eq]
 by_cases h1:a1=b1 <;> by_cases h2:a2=b2 <;> by_cases h3:a3=b3 <;> by_cases h4:a4=b4 <;> by_cases h5:a5=b5 <;> by_cases h6:a6=b6 <;> by_cases h7:a7=b7 <;> simp_all

theorem neq_kn (a b:Kn):D.bin .neq (.agg [0,0,1,1,1,1]) a.d b.d=some (B (decide (a≠b))):=by
 obtain⟨a1,a2,a3,a4,a5,a6⟩:=a
 obtain⟨b1,b2,b3,b4,b5,b6⟩:=b
 simp only[Kn.d,Kn.cs,D.bin,D.eqs,cmpI,Kn.mk.injEq,ne_eq]
 by_cases h1:a1=b1 <;> by_cases h2:a2=b2 <;> by_cases h3:a3=b3 <;> by_cases h4:a4=b4 <;> by_cases h5:a5=b5 <;> by_cases h6:a6=b6 <;> simp_all

theorem neq_q (a b:Nat×Nat):D.bin .neq (.agg [0,0]) (qD a) (qD b)=some (B (decide (a≠b))):=by
 obtain⟨a1,a2⟩:=a
 obtain⟨b1,b2⟩:=b
 simp only[qD,qcs,D.bin,D.eqs,cmpI,Prod.mk.injEq,ne_eq]
 by_cases h1:a1=b1 <;> by_cases h2:a2=b2 <;> simp_all <;> omega

theorem neq_int (a b:Int):D.bin .neq .int (I a) (I b)=some (B (decide (a≠b))):=by
 by_cases h:a=b
 ·subst h;simp[D.bin,cmpI]
 ·simp[D.bin,cmpI,h]


theorem c23 (a b:List Rep)(hL:a.length≤1000000):FSpecR Try.prog 23 (.st bs) [.lst (a.map Rep.d),.lst (b.map Rep.d)] (B (decide (a=b))):=by
 refine ku23.R rfl rfl ?_
 unfold u23
 simp only[ups_cons,ups_nil,List.cons_append,List.nil_append]
 by_cases hlen:a.length=b.length
 ·have h1:(((a.length:Nat):Int) != ((b.length:Nat):Int))=false:=by simp[hlen]
  repeat' (first|(apply u_iteF;rfl;exact h1)|(apply u_lenL;rfl;exact lenL_map;simp only[sbe];rfl)|(apply u_ev;rfl;simp only[sbe];rfl)|refine u_join ?_)
  refine u_range (fun i=>[In i]) (fun i=>∀k (h:k<i) (h2:k<a.length),a[k]=b[k]'(by omega)) a.length rfl (fun _=>rfl) (fun k h=>absurd h (Nat.not_lt_zero _)) (fun i hi hJ R hR=>?_) (fun hJ R=>?_)
  ·have hli:decide ((i:Int)<((a.length:Nat):Int))=true:=by simp;omega
   have hib:i<b.length:=by omega
   have hn:=neq_rep a[i] b[i]
   by_cases he:a[i]=b[i]
   ·have hne:decide (a[i]≠b[i])=false:=by simp[he]
    repeat' (first|(apply nrm;simp only[sbe];rfl)|(apply u_iteT;rfl;exact hli)|(apply u_iteF;rfl;exact hne)|(apply u_eaddr;rfl;rfl;(·first|exact eaddr_get hi rfl|exact eaddr_get hib rfl);simp only[sbe];rfl)|(apply u_bin;rfl;rfl;exact hn;simp only[sbe];rfl)|(apply u_lenL;rfl;exact lenL_map;simp only[sbe];rfl)|(apply u_inc;rfl;omega;simp only[sbe];rfl)|(apply u_ev;rfl;simp only[sbe];rfl)|refine u_join ?_|(apply u_jump;rfl;rfl)|refine at_jump ?_|refine kj rfl ?_)
    refine hR fun k hk h2=>?_
    rcases Nat.lt_or_ge k i with h3 | h3
    ·exact hJ k h3 h2
    ·have e:k=i:=by omega
     subst e
     exact he
   ·have hne:decide (a[i]≠b[i])=true:=by simp[he]
    repeat' (first|(apply nrm;simp only[sbe];rfl)|(apply u_iteT;rfl;(·first|exact hli|exact hne))|(apply u_eaddr;rfl;rfl;(·first|exact eaddr_get hi rfl|exact eaddr_get hib rfl);simp only[sbe];rfl)|(apply u_bin;rfl;rfl;exact hn;simp only[sbe];rfl)|(apply u_lenL;rfl;exact lenL_map;simp only[sbe];rfl)|(apply u_ev;rfl;simp only[sbe];rfl)|refine u_join ?_|(apply u_ret;rfl;first|exact rfl|(refine retB ?_)|(refine retI ?_)|(refine retD ?_)))
    rw[decide_eq_false]
    rintro rfl
    exact he rfl
  ·have hli:decide (((a.length:Nat):Int)<((a.length:Nat):Int))=false:=by simp
   repeat' (first|(apply nrm;simp only[sbe];rfl)|(apply u_iteF;rfl;exact hli)|(apply u_lenL;rfl;exact lenL_map;simp only[sbe];rfl)|(apply u_ev;rfl;simp only[sbe];rfl)|(apply u_jump;rfl;rfl)|refine at_jump ?_|(refine over_jump (by decide) ?_)|refine kj rfl ?_|(apply u_ret;rfl;first|exact rfl|(refine retB ?_)|(refine retI ?_)|(refine retD ?_)))
   rw[decide_eq_true]
   exact List.ext_getElem hlen fun k h1 h2=>hJ k h1 h1
 ·have h1:(((a.length:Nat):Int) != ((b.length:Nat):Int))=true:=by simp;omega
  repeat' (first|(apply u_iteT;rfl;exact h1)|(apply u_lenL;rfl;exact lenL_map;simp only[sbe];rfl)|(apply u_ev;rfl;simp only[sbe];rfl)|(apply u_ret;rfl;first|exact rfl|(refine retB ?_)|(refine retI ?_)|(refine retD ?_)))
  rw[decide_eq_false]
  rintro rfl
  exact hlen rfl

theorem c30 (a b:List Kn)(hL:a.length≤1000000):FSpecR Try.prog 30 (.st bs) [.lst (a.map Kn.d),.lst (b.map Kn.d)] (B (decide (a=b))):=by
 refine ku30.R rfl rfl ?_
 unfold u30
 simp only[ups_cons,ups_nil,List.cons_append,List.nil_append]
 by_cases hlen:a.length=b.length
 ·have h1:(((a.length:Nat):Int) != ((b.length:Nat):Int))=false:=by simp[hlen]
  repeat' (first|(apply u_iteF;rfl;exact h1)|(apply u_lenL;rfl;exact lenL_map;simp only[sbe];rfl)|(apply u_ev;rfl;simp only[sbe];rfl)|refine u_join ?_)
  refine u_range (fun i=>[In i]) (fun i=>∀k (h:k<i) (h2:k<a.length),a[k]=b[k]'(by omega)) a.length rfl (fun _=>rfl) (fun k h=>absurd h (Nat.not_lt_zero _)) (fun i hi hJ R hR=>?_) (fun hJ R=>?_)
  ·have hli:decide ((i:Int)<((a.length:Nat):Int))=true:=by simp;omega
   have hib:i<b.length:=by omega
   have hn:=neq_kn a[i] b[i]
   by_cases he:a[i]=b[i]
   ·have hne:decide (a[i]≠b[i])=false:=by simp[he]
    repeat' (first|(apply nrm;simp only[sbe];rfl)|(apply u_iteT;rfl;exact hli)|(apply u_iteF;rfl;exact hne)|(apply u_eaddr;rfl;rfl;(·first|exact eaddr_get hi rfl|exact eaddr_get hib rfl);simp only[sbe];rfl)|(apply u_bin;rfl;rfl;exact hn;simp only[sbe];rfl)|(apply u_lenL;rfl;exact lenL_map;simp only[sbe];rfl)|(apply u_inc;rfl;omega;simp only[sbe];rfl)|(apply u_ev;rfl;simp only[sbe];rfl)|refine u_join ?_|(apply u_jump;rfl;rfl)|refine at_jump ?_|refine kj rfl ?_)
    refine hR fun k hk h2=>?_
    rcases Nat.lt_or_ge k i with h3 | h3
    ·exact hJ k h3 h2
    ·have e:k=i:=by omega
     subst e
     exact he
   ·have hne:decide (a[i]≠b[i])=true:=by simp[he]
    repeat' (first|(apply nrm;simp only[sbe];rfl)|(apply u_iteT;rfl;(·first|exact hli|exact hne))|(apply u_eaddr;rfl;rfl;(·first|exact eaddr_get hi rfl|exact eaddr_get hib rfl);simp only[sbe];rfl)|(apply u_bin;rfl;rfl;exact hn;simp only[sbe];rfl)|(apply u_lenL;rfl;exact lenL_map;simp only[sbe];rfl)|(apply u_ev;rfl;simp only[sbe];rfl)|refine u_join ?_|(apply u_ret;rfl;first|exact rfl|(refine retB ?_)|(refine retI ?_)|(refine retD ?_)))
    rw[decide_eq_false]
    rintro rfl
    exact he rfl
  ·have hli:decide (((a.length:Nat):Int)<((a.length:Nat):Int))=false:=by simp
   repeat' (first|(apply nrm;simp only[sbe];rfl)|(apply u_iteF;rfl;exact hli)|(apply u_lenL;rfl;exact lenL_map;simp only[sbe];rfl)|(apply u_ev;rfl;simp only[sbe];rfl)|(apply u_jump;rfl;rfl)|refine at_jump ?_|(refine over_jump (by decide) ?_)|refine kj rfl ?_|(apply u_ret;rfl;first|exact rfl|(refine retB ?_)|(refine retI ?_)|(refine retD ?_)))
   rw[decide_eq_true]
   exact List.ext_getElem hlen fun k h1 h2=>hJ k h1 h1
 ·have h1:(((a.length:Nat):Int) != ((b.length:Nat):Int))=true:=by simp;omega
  repeat' (first|(apply u_iteT;rfl;exact h1)|(apply u_lenL;rfl;exact lenL_map;simp only[sbe];rfl)|(apply u_ev;rfl;simp only[sbe];rfl)|(apply u_ret;rfl;first|exact rfl|(refine retB ?_)|(refine retI ?_)|(refine retD ?_)))
  rw[decide_eq_false]
  rintro rfl
  exact hlen rfl

theorem c34 (a b:List (Nat×Nat))(hL:a.length≤1000000):FSpecR Try.prog 34 (.st bs) [.lst (a.map qD),.lst (b.map qD)] (B (decide (a=b))):=by
 refine ku34.R rfl rfl ?_
 unfold u34
 simp only[ups_cons,ups_nil,List.cons_append,List.nil_append]
 by_cases hlen:a.length=b.length
 ·have h1:(((a.length:Nat):Int) != ((b.length:Nat):Int))=false:=by simp[hlen]
  repeat' (first|(apply u_iteF;rfl;exact h1)|(apply u_lenL;rfl;exact lenL_map;simp only[sbe];rfl)|(apply u_ev;rfl;simp only[sbe];rfl)|refine u_join ?_)
  refine u_range (fun i=>[In i]) (fun i=>∀k (h:k<i) (h2:k<a.length),a[k]=b[k]'(by omega)) a.length rfl (fun _=>rfl) (fun k h=>absurd h (Nat.not_lt_zero _)) (fun i hi hJ R hR=>?_) (fun hJ R=>?_)
  ·have hli:decide ((i:Int)<((a.length:Nat):Int))=true:=by simp;omega
   have hib:i<b.length:=by omega
   have hn:=neq_q a[i] b[i]
   by_cases he:a[i]=b[i]
   ·have hne:decide (a[i]≠b[i])=false:=by simp[he]
    repeat' (first|(apply nrm;simp only[sbe];rfl)|(apply u_iteT;rfl;exact hli)|(apply u_iteF;rfl;exact hne)|(apply u_eaddr;rfl;rfl;(·first|exact eaddr_get hi rfl|exact eaddr_get hib rfl);simp only[sbe];rfl)|(apply u_bin;rfl;rfl;exact hn;simp only[sbe];rfl)|(apply u_lenL;rfl;exact lenL_map;simp only[sbe];rfl)|(apply u_inc;rfl;omega;simp only[sbe];rfl)|(apply u_ev;rfl;simp only[sbe];rfl)|refine u_join ?_|(apply u_jump;rfl;rfl)|refine at_jump ?_|refine kj rfl ?_)
    refine hR fun k hk h2=>?_
    rcases Nat.lt_or_ge k i with h3 | h3
    ·exact hJ k h3 h2
    ·have e:k=i:=by omega
     subst e
     exact he
   ·have hne:decide (a[i]≠b[i])=true:=by simp[he]
    repeat' (first|(apply nrm;simp only[sbe];rfl)|(apply u_iteT;rfl;(·first|exact hli|exact hne))|(apply u_eaddr;rfl;rfl;(·first|exact eaddr_get hi rfl|exact eaddr_get hib rfl);simp only[sbe];rfl)|(apply u_bin;rfl;rfl;exact hn;simp only[sbe];rfl)|(apply u_lenL;rfl;exact lenL_map;simp only[sbe];rfl)|(apply u_ev;rfl;simp only[sbe];rfl)|refine u_join ?_|(apply u_ret;rfl;first|exact rfl|(refine retB ?_)|(refine retI ?_)|(refine retD ?_)))
    rw[decide_eq_false]
    rintro rfl
    exact he rfl
  ·have hli:decide (((a.length:Nat):Int)<((a.length:Nat):Int))=false:=by simp
   repeat' (first|(apply nrm;simp only[sbe];rfl)|(apply u_iteF;rfl;exact hli)|(apply u_lenL;rfl;exact lenL_map;simp only[sbe];rfl)|(apply u_ev;rfl;simp only[sbe];rfl)|(apply u_jump;rfl;rfl)|refine at_jump ?_|(refine over_jump (by decide) ?_)|refine kj rfl ?_|(apply u_ret;rfl;first|exact rfl|(refine retB ?_)|(refine retI ?_)|(refine retD ?_)))
   rw[decide_eq_true]
   exact List.ext_getElem hlen fun k h1 h2=>hJ k h1 h1
 ·have h1:(((a.length:Nat):Int) != ((b.length:Nat):Int))=true:=by simp;omega
  repeat' (first|(apply u_iteT;rfl;exact h1)|(apply u_lenL;rfl;exact lenL_map;simp only[sbe];rfl)|(apply u_ev;rfl;simp only[sbe];rfl)|(apply u_ret;rfl;first|exact rfl|(refine retB ?_)|(refine retI ?_)|(refine retD ?_)))
  rw[decide_eq_false]
  rintro rfl
  exact hlen rfl

theorem c37 (a b:List Int)(hL:a.length≤1000000):FSpecR Try.prog 37 (.st bs) [.lst (a.map I),.lst (b.map I)] (B (decide (a=b))):=by
 refine ku37.R rfl rfl ?_
 unfold u37
 simp only[ups_cons,ups_nil,List.cons_append,List.nil_append]
 by_cases hlen:a.length=b.length
 ·have h1:(((a.length:Nat):Int) != ((b.length:Nat):Int))=false:=by simp[hlen]
  repeat' (first|(apply u_iteF;rfl;exact h1)|(apply u_lenL;rfl;exact lenL_map;simp only[sbe];rfl)|(apply u_ev;rfl;simp only[sbe];rfl)|refine u_join ?_)
  refine u_range (fun i=>[In i]) (fun i=>∀k (h:k<i) (h2:k<a.length),a[k]=b[k]'(by omega)) a.length rfl (fun _=>rfl) (fun k h=>absurd h (Nat.not_lt_zero _)) (fun i hi hJ R hR=>?_) (fun hJ R=>?_)
  ·have hli:decide ((i:Int)<((a.length:Nat):Int))=true:=by simp;omega
   have hib:i<b.length:=by omega
   have hn:=neq_int a[i] b[i]
   by_cases he:a[i]=b[i]
   ·have hne:decide (a[i]≠b[i])=false:=by simp[he]
    repeat' (first|(apply nrm;simp only[sbe];rfl)|(apply u_iteT;rfl;exact hli)|(apply u_iteF;rfl;exact hne)|(apply u_eaddr;rfl;rfl;(·first|exact eaddr_get hi rfl|exact eaddr_get hib rfl);simp only[sbe];rfl)|(apply u_bin;rfl;rfl;exact hn;simp only[sbe];rfl)|(apply u_lenL;rfl;exact lenL_map;simp only[sbe];rfl)|(apply u_inc;rfl;omega;simp only[sbe];rfl)|(apply u_ev;rfl;simp only[sbe];rfl)|refine u_join ?_|(apply u_jump;rfl;rfl)|refine at_jump ?_|refine kj rfl ?_)
    refine hR fun k hk h2=>?_
    rcases Nat.lt_or_ge k i with h3 | h3
    ·exact hJ k h3 h2
    ·have e:k=i:=by omega
     subst e
     exact he
   ·have hne:decide (a[i]≠b[i])=true:=by simp[he]
    repeat' (first|(apply nrm;simp only[sbe];rfl)|(apply u_iteT;rfl;(·first|exact hli|exact hne))|(apply u_eaddr;rfl;rfl;(·first|exact eaddr_get hi rfl|exact eaddr_get hib rfl);simp only[sbe];rfl)|(apply u_bin;rfl;rfl;exact hn;simp only[sbe];rfl)|(apply u_lenL;rfl;exact lenL_map;simp only[sbe];rfl)|(apply u_ev;rfl;simp only[sbe];rfl)|refine u_join ?_|(apply u_ret;rfl;first|exact rfl|(refine retB ?_)|(refine retI ?_)|(refine retD ?_)))
    rw[decide_eq_false]
    rintro rfl
    exact he rfl
  ·have hli:decide (((a.length:Nat):Int)<((a.length:Nat):Int))=false:=by simp
   repeat' (first|(apply nrm;simp only[sbe];rfl)|(apply u_iteF;rfl;exact hli)|(apply u_lenL;rfl;exact lenL_map;simp only[sbe];rfl)|(apply u_ev;rfl;simp only[sbe];rfl)|(apply u_jump;rfl;rfl)|refine at_jump ?_|(refine over_jump (by decide) ?_)|refine kj rfl ?_|(apply u_ret;rfl;first|exact rfl|(refine retB ?_)|(refine retI ?_)|(refine retD ?_)))
   rw[decide_eq_true]
   exact List.ext_getElem hlen fun k h1 h2=>hJ k h1 h1
 ·have h1:(((a.length:Nat):Int) != ((b.length:Nat):Int))=true:=by simp;omega
  repeat' (first|(apply u_iteT;rfl;exact h1)|(apply u_lenL;rfl;exact lenL_map;simp only[sbe];rfl)|(apply u_ev;rfl;simp only[sbe];rfl)|(apply u_ret;rfl;first|exact rfl|(refine retB ?_)|(refine retI ?_)|(refine retD ?_)))
  rw[decide_eq_false]
  rintro rfl
  exact hlen rfl

theorem c25:FSpecR Try.prog 25 (.st bs) [] (Fld.d ⟨2,3,[100,100]⟩):=by
 refine ku25.R rfl rfl ?_
 unfold u25
 simp only[ups_cons,ups_nil,List.cons_append,List.nil_append]
 repeat' (first|(apply u_chk;rfl)|(apply u_ev;rfl;simp only[sbe];rfl)|exact u_ret rfl rfl)

theorem c26:FSpecR Try.prog 26 (.st bs) [] (.lst ([⟨1,1⟩,⟨3,50⟩].map Src.d)):=by
 refine ku26.R rfl rfl ?_
 unfold u26
 simp only[ups_cons,ups_nil,List.cons_append,List.nil_append]
 repeat' (first|(apply u_ev;rfl;simp only[sbe];rfl)|exact u_ret rfl rfl)

end Go.Am.Wr

/-
 The laws' functions,as texts.
-/
namespace Go.Am.Wr
open Go.Proofs

noncomputable def u9:U:=(ups [.chk (.aggN 5 y0),
 .call 27 (.const (.st [])) [(.m4 .noids (agc 5 y0) .nil .nil .nil)] [true],
 .ev (.un .not y6),
 .chain true y7 (ups [.ev (.lenL y1),
 .chk (.cell 0 y0),
 .ev (.bin .neq .int y8 (.cell 0 y0))]
 (.ret y9)),
 .chain true y8 (ups [.ev (.bin .lss .int y2 (ki 0))]
 (.ret y9)),
 .chain true y9 (ups [.ev (.bin .geq .int y2 y3)]
 (.ret y10)),
 .chain true y10 (ups [.chk (.cell 1 y0),
 .ev (.bin .geq .int y3 (.cell 1 y0))]
 (.ret y11)),
 .chain true y11 (ups [.ev (.bin .lss .int y4 (ki 0))]
 (.ret y12)),
 .chain true y12 (ups [.ev (.bin .gtr .int y4 (ki 1000000000000))]
 (.ret y13))]
 (.ite y13 (ups [.wcall 17 y5 [] [true]]
 (.ret (.tcons y14 (.tcons y15 .tnil)))) (ups [.join 0 0 (.loop 1 [(ki 0)] (ups [.ev (.lenL y1),
 .ev (.bin .lss .int y14 y15)]
 (.ite y16 (ups [.join 2 0 (ups [.ev (.eaddr 1 y1 y14),
 .ev (.ld false 1 y5 y17),
 .ev (.lenL y18),
 .ev (.bin .gtr .int y19 (.cell 1 y0))]
 (.ite y20 (ups [.wcall 17 y5 [] [true]]
 (.ret (.tcons y21 (.tcons y22 .tnil)))) (ups [.join 3 6 (.loop 4 [(ki 0)] (ups [.ev (.eaddr 1 y1 y14),
 .ev (.ld false 1 y5 y22),
 .ev (.lenL y23),
 .ev (.bin .lss .int y21 y24)]
 (.ite y25 (ups [.join 5 0 (ups [.ev (.eaddr 1 y1 y14),
 .ev (.ld false 1 y5 y26),
 .ev (.eaddr 1 y27 y21),
 .ev (.ld false 1 y5 y28),
 .ev (.bin .lss .int y29 (ki 0)),
 .chain true y30 (ups [.ev (.eaddr 1 y1 y14),
 .ev (.ld false 1 y5 y31),
 .ev (.eaddr 1 y32 y21),
 .ev (.ld false 1 y5 y33),
 .ev (.bin .gtr .int y34 (ki 1000000000000))]
 (.ret y35)),
 .chain true y31 (ups [.ev (.bin .gtr .int y21 (ki 0)),
 .chain false y32 (ups [.ev (.eaddr 1 y1 y14),
 .ev (.ld false 1 y5 y33),
 .ev (.eaddr 1 y34 y21),
 .ev (.ld false 1 y5 y35),
 .ev (.eaddr 1 y1 y14),
 .ev (.ld false 1 y5 y37),
 .ev (.bin .sub .int y21 (ki 1)),
 .ev (.eaddr 1 y38 y39),
 .ev (.ld false 1 y5 y40),
 .chk (.cell 2 y0),
 .ev (.bin .sub .int y21 (ki 1)),
 .ev (.eaddr 1 (.cell 2 y0) y42),
 .ev (.ld false 1 y5 y43),
 .ev (.bin .add .int y41 y44),
 .ev (.bin .lss .int y36 y45)]
 (.ret y46))]
 (.ret y33))]
 (.ite y32 (ups [.wcall 17 y5 [] [true]]
 (.ret (.tcons y33 (.tcons y34 .tnil)))) (.jump 5 [] []))),
 .ev (.bin .add .int y21 (ki 1))]
 (.jump 4 [y26] [])) (.jump 3 [y21,y21,y22,y23,y24,y25] []))))]
 (.jump 2 [] [])))),
 .ev (.bin .add .int y14 (ki 1))]
 (.jump 1 [y17] [])) (.jump 0 [] [])))),
 .call 22 (.const (.st [])) [(.m4 .noids (.cell 4 y0) .nil .nil .nil)] [true],
 .call 32 (.const (.st [])) [(.m4 .noids y14 .nil .nil .nil),(.m4 .noids y4 .nil .nil .nil)] [true],
 .join 0 0 (.loop 1 [(ki 0)] (ups [.ev (.lenL y15),
 .ev (.bin .lss .int y16 y17)]
 (.ite y18 (ups [.join 2 0 (ups [.ev (.eaddr 1 y15 y16),
 .ev (.ld false 1 y5 y19),
 .ev (.eaddr 7 y14 y20),
 .ev (.ld true 7 y5 y21),
 .call 39 y5 [(agc 5 y0),y22,y1] [true],
 .ev (.un .not y23)]
 (.ite y24 (ups [.wcall 17 y5 [] [true]]
 (.ret (.tcons y25 (.tcons y26 .tnil)))) (.jump 2 [] []))),
 .ev (.bin .add .int y16 (ki 1))]
 (.jump 1 [y19] [])) (.jump 0 [] [])))),
 .wcall 28 y5 [(agc 5 y0)] [true,true],
 .ev (.un .not (.tget 1 y16))]
 (.ite y18 (.ret (.tcons (kb false) (.tcons y17 .tnil))) (ups [.wcall 36 y17 [(.tget 0 y16),y2,y3,y4] [true,true],
 .ev (.bin .neq .int (.tget 1 y19) (ki 0))]
 (.ite y21 (.ret (.tcons (kb false) (.tcons y20 .tnil))) (ups [.join 0 1 (.loop 1 [(ki 0),y20] (ups [.ev (.lenL y1),
 .ev (.bin .lss .int y22 y24)]
 (.ite y25 (ups [.join 2 1 (ups [.ev (.bin .add .int y22 (ki 1)),
 .wcall 29 y23 [(.tget 0 y16),y26,y4] [true,true],
 .ev (.bin .add .int y22 (ki 1)),
 .wcall 33 y28 [(.tget 0 y16),y29,y4] [true,true],
 .ev (.bin .neq .int (.tget 1 y27) (ki 0)),
 .chain true y32 (ups [.chk (.tget 1 y30),
 .ev (.bin .neq .int (.tget 1 y30) (ki 0))]
 (.ret y33)),
 .chain true y33 (ups [.chk (.tget 0 y27),
 .ev (.lenL (.tget 0 y27)),
 .chk (.cell 1 y0),
 .ev (.bin .neq .int y34 (.cell 1 y0))]
 (.ret y35)),
 .chain true y34 (ups [.chk (.tget 0 y30),
 .ev (.lenL (.tget 0 y30)),
 .ev (.bin .gtr .int y35 (ki 0))]
 (.ret y36))]
 (.ite y35 (.ret (.tcons (kb false) (.tcons y31 .tnil))) (ups [.ev (.eaddr 1 y1 y22),
 .ev (.ld false 1 y31 y36),
 .join 3 4 (.loop 4 [(ki 0)] (ups [.ev (.lenL y37),
 .ev (.bin .lss .int y38 y39)]
 (.ite y40 (ups [.join 5 0 (ups [.ev (.eaddr 1 y37 y38),
 .ev (.ld false 1 y31 y41),
 .ev (.eaddr 6 (.tget 0 y27) y38),
 .chk (.padd 0 y43),
 .ev (.ld false 1 y31 (.padd 0 y43)),
 .ev (.bin .lss .int y42 y44),
 .chain true y45 (ups [.ev (.eaddr 1 y37 y38),
 .ev (.ld false 1 y31 y46),
 .chk (.tget 0 y27),
 .ev (.eaddr 6 (.tget 0 y27) y38),
 .chk (.padd 1 y48),
 .ev (.ld false 1 y31 (.padd 1 y48)),
 .ev (.bin .gtr .int y47 y49)]
 (.ret y50))]
 (.ite y46 (.ret (.tcons (kb false) (.tcons y31 .tnil))) (.jump 5 [] []))),
 .ev (.bin .add .int y38 (ki 1))]
 (.jump 4 [y41] [])) (.jump 3 [y38,y38,y39,y40] [])))),
 .ev (.lenL y37),
 .ev (.bin .gtr .int y42 y2),
 .chain false y43 (ups [.ev (.eaddr 1 y37 y2),
 .ev (.ld false 1 y31 y44),
 .ev (.bin .leq .int y45 y4)]
 (.ret y46)),
 .chain false y44 (ups [.ev (.lenL y37),
 .ev (.bin .leq .int y45 y3),
 .chain true y46 (ups [.ev (.eaddr 1 y37 y3),
 .ev (.ld false 1 y31 y47),
 .ev (.bin .gtr .int y48 y4)]
 (.ret y49))]
 (.ret y47)),
 .join 3 5 (.loop 4 [(kb false),(ki 0)] (ups [.ev (.lenL (.tget 0 y19)),
 .ev (.bin .lss .int y47 y48)]
 (.ite y49 (ups [.join 5 1 (ups [.chain true y46 (ups [.chk (.tget 0 y19),
 .ev (.eaddr 1 (.tget 0 y19) y47),
 .ev (.ld false 1 y31 y50),
 .ev (.bin .add .int y22 (ki 1)),
 .ev (.bin .eql .int y51 y52)]
 (.ret y53))]
 (.jump 5 [y50] [])),
 .ev (.bin .add .int y47 (ki 1))]
 (.jump 4 [y50,y51] [])) (.jump 3 [y46,y47,y47,y48,y49] [])))),
 .chain false y45 (ups [.ev (.un .not y46)]
 (.ret y51))]
 (.ite y51 (.ret (.tcons (kb false) (.tcons y31 .tnil))) (.jump 2 [y31] [(.tget 0 y27),(.tget 1 y27),(.tget 0 y30),(.tget 1 y30),(.tcons (.tget 0 y27) (.tcons (.tget 1 y27) .tnil)),(.tcons (.tget 0 y27) (.tcons (.tget 1 y27) .tnil)),(.tget 0 y27),(.tget 1 y27),(.tcons (.tget 0 y30) (.tcons (.tget 1 y30) .tnil)),(.tcons (.tget 0 y30) (.tcons (.tget 1 y30) .tnil)),(.tget 0 y30),(.tget 1 y30),(.tget 1 y27)]))))),
 .ev (.bin .add .int y22 (ki 1))]
 (.jump 1 [y27,y26] [])) (.jump 0 [y23] [])))),
 .wcall 17 y22 [] [true]]
 (.ret (.tcons y23 (.tcons y24 .tnil))))))))))
theorem ku9:UOk Try.prog 9 .plain (wcf false [] [] Try.f9) [false,true,true,true,true] u9:=UOk.plain Try.func9 (by kernel_rfl) (by kernel_rfl)

noncomputable def u17:U:=(ups [.ev (.cons (.const (.agg [(.v (.int .i64 0))])) (.cons (.const (.agg [(.v (.int .i64 0))])) (.cons (.scal (ki 1)) (.cons (.scal (ki 1)) (.cons (.const (.agg [(.v (.int .i64 0))])) (.cons (.scal (ki 1000)) (.cons (.scal (ki 2000)) .nil))))))),
 .chk (.aggN 7 y1),
 .ev (.cons (.scal (ki 1)) (.cons (.const (.agg [(.v (.int .i64 0))])) (.cons (.scal (ki 1)) (.cons (.scal (ki 1)) (.cons (.scal (ki 1)) (.cons (.scal (ki 1180)) (.cons (.scal (ki 1500)) .nil))))))),
 .chk (.aggN 7 y2),
 .ev (.cons (.scal (ki 1)) (.cons (.scal (ki 3)) (.cons (.scal (ki 1)) (.cons (.scal (ki 1)) (.cons (.scal (ki 2)) (.cons (.scal (ki 1100)) (.cons (.scal (ki 3000)) .nil))))))),
 .chk (.aggN 7 y3),
 .call 25 (.const (.st [])) [] [false],
 .call 26 (.const (.st [])) [] [true],
 .wcall 18 y0 [y4,y5] [true,true],
 .ev (.bin .neq .int (.tget 1 y6) (ki 0)),
 .chain true y8 (ups [.chk (.tget 0 y6),
 .ev (.bin .eql .ptr (.tget 0 y6) (.const (.v (.pointer none))))]
 (.ret y9)),
 .ev (.guard y9 false (.tget 0 y6)),
 .ev (.guard y9 false (.lcons (.aggN 7 (agc 7 y3)) (.lcons (.aggN 7 (agc 7 y1)) (.lcons (.aggN 7 (agc 7 y2)) (.const (.lst [])))))),
 .gen (.wcall [(y9,false)] 21 y7 [y10,y11] [true]),
 .chain true y9 (ups [.ev (.bin .neq .int (.tget 0 y12) (ki 0))]
 (.ret y13))]
 (.ite y13 (.ret (.tcons (kb false) (.tcons (.tget 1 y12) .tnil))) (ups [.wcall 29 (.tget 1 y12) [(.tget 0 y6),(ki 1),(ki 2500)] [true,true],
 .wcall 33 y15 [(.tget 0 y6),(ki 1),(ki 3000)] [true,true],
 .wcall 36 y17 [(.tget 0 y6),(ki 0),(ki 2),(ki 2500)] [true,true],
 .wcall 42 y19 [(.tget 0 y6),(ki 1)] [true,true],
 .ev (.bin .neq .int (.tget 1 y14) (ki 0)),
 .chain true y22 (ups [.chk (.tget 1 y16),
 .ev (.bin .neq .int (.tget 1 y16) (ki 0))]
 (.ret y23)),
 .chain true y23 (ups [.chk (.tget 1 y18),
 .ev (.bin .neq .int (.tget 1 y18) (ki 0))]
 (.ret y24)),
 .chain true y24 (ups [.chk (.tget 1 y20),
 .ev (.bin .neq .int (.tget 1 y20) (ki 0))]
 (.ret y25))]
 (.ite y25 (.ret (.tcons (kb false) (.tcons y21 .tnil))) (ups [.ev (.cons (.scal (ki 999)) (.cons (.scal (ki 1001)) (.cons (.scal (kb true)) (.cons (.const (.agg [(.v (.bool false))])) (.cons (.const (.agg [(.v (.bool false))])) (.cons (.const (.agg [(.v (.bool false))])) .nil)))))),
 .ev (.cons (.scal (ki 1130)) (.cons (.scal (ki 1230)) (.cons (.scal (kb true)) (.cons (.const (.agg [(.v (.bool false))])) (.cons (.scal (kb true)) (.cons (.const (.agg [(.v (.bool false))])) .nil)))))),
 .ev (.cons (.scal (ki 1230)) (.cons (.scal (ki 10000000000000)) (.cons (.const (.agg [(.v (.bool false))])) (.cons (.const (.agg [(.v (.bool false))])) (.cons (.const (.agg [(.v (.bool false))])) (.cons (.const (.agg [(.v (.bool false))])) .nil)))))),
 .ev (.lcons (.aggN 6 y26) (.lcons (.aggN 6 y27) (.lcons (.aggN 6 y28) (.const (.lst []))))),
 .call 30 (.const (.st [])) [(.m4 .noids (.tget 0 y14) .nil .nil .nil),(.m4 .noids y29 .nil .nil .nil)] [true],
 .chain false y30 (ups [.chk (.tget 0 y16),
 .ev (.cons (.scal (ki 0)) (.cons (.scal (ki 2)) .nil)),
 .ev (.cons (.scal (ki 1)) (.cons (.scal (ki 2)) .nil)),
 .ev (.lcons (.aggN 2 y31) (.lcons (.aggN 2 y32) (.const (.lst [])))),
 .call 34 (.const (.st [])) [(.m4 .noids (.tget 0 y16) .nil .nil .nil),(.m4 .noids y33 .nil .nil .nil)] [true]]
 (.ret y34)),
 .chain false y31 (ups [.chk (.tget 0 y18),
 .ev (.lcons (.scal (ki 1)) (.lcons (.scal (ki 2)) (.const (.lst [])))),
 .call 37 (.const (.st [])) [(.m4 .noids (.tget 0 y18) .nil .nil .nil),(.m4 .noids y32 .nil .nil .nil)] [true]]
 (.ret y33)),
 .chain false y32 (ups [.chk (.tget 0 y20),
 .ev (.lcons (.scal (ki 1)) (.lcons (.scal (ki 2)) (.const (.lst [])))),
 .call 37 (.const (.st [])) [(.m4 .noids (.tget 0 y20) .nil .nil .nil),(.m4 .noids y33 .nil .nil .nil)] [true]]
 (.ret y34))]
 (.ret (.tcons y33 (.tcons y21 .tnil))))))))
theorem ku17:UOk Try.prog 17 .plain (wcf false [19] [] Try.f17) [] u17:=UOk.plain Try.func17 (by kernel_rfl) (by kernel_rfl)

end Go.Am.Wr

/-
 The chapter's example.
-/
namespace Go.Am.Wr
open Go.Proofs
set_option maxRecDepth 100000
set_option maxHeartbeats 4000000

attribute [local irreducible] inR

variable {bs:List D}

theorem GrowX.grow {bs bs':List D}{j:Nat}{b0:List D}(h:GrowX bs bs' j)(h0:Grow b0 bs)(hj:b0.length≤j):Grow b0 bs':=⟨Nat.le_trans h0.le h.le,fun i hi=>by rw[h.old i (Nat.lt_of_lt_of_le hi h0.le) (by omega),h0.old i hi],fun hn=>h.ny (h0.ny hn)⟩

def FK:Fld:=⟨2,3,[100,100]⟩
def SK:List Src:=[⟨1,1⟩,⟨3,50⟩]
def RA:Rep:=⟨0,0,1,1,0,1000,2000⟩
def RB:Rep:=⟨1,0,1,1,1,1180,1500⟩
def RC:Rep:=⟨1,3,1,1,2,1100,3000⟩
def KW:List Kn:=[⟨999,1001,true,false,false,false⟩,⟨1130,1230,true,false,true,false⟩,⟨1230,10000000000000,false,false,false,false⟩]

theorem k_kn:knR SK FK.least 3 (ofCar (logR [RC,RA,RB]) 2500 1)=KW:=by decide +kernel
theorem k_qu:quL SK FK.least (logR [RC,RA,RB]) (idxC (logR [RC,RA,RB]) 3000 1) (idxC (logR [RC,RA,RB]) 3000 1)=[(0,2),(1,2)]:=by decide +kernel
theorem k_on:onL FK SK 3 (logR [RC,RA,RB]) 2500 0 2 2=[1,2]:=by decide +kernel
theorem k_gaps:gapsR (logR [RC,RA,RB]) 1=[1,2]:=by decide +kernel

set_option allowUnsafeReducibility true in
attribute [local semireducible] inR in
theorem k_f:fielded FK SK=true:=by decide +kernel
set_option allowUnsafeReducibility true in
attribute [local semireducible] inR in
theorem k_r:∀r,r∈[RC,RA,RB]→rightB FK SK r=true:=by decide +kernel
set_option allowUnsafeReducibility true in
attribute [local semireducible] inR in
theorem k_c:chkB FK 1 0 2500=true∧chkB FK 1 0 3000=true∧inR 2500 0 1000000000000=true∧inR 1 0 ((SK.length:Int)-1)=true:=by decide +kernel

theorem knownOK (hn:noyls bs=true):∃bs',FSpecW Try.prog 17 (.st bs) [] (B true) (.st bs')∧Grow bs bs':=by
 obtain⟨b1,j,h18,L1,g1,hj⟩:=newL k_f hn
 have hlen:((([]:List Rep)++[RC,RA,RB]).foldl put []).length≤5000:=by decide +kernel
 obtain⟨b2,h21,L2,g2⟩:=addL L1 (l:=[RC,RA,RB]) (by decide) k_r hlen
 obtain⟨b3,h29,g3⟩:=c29 L2 (car:=1) (t:=2500) k_c.1
 have L3:=L2.keep g3
 obtain⟨b4,h33,g4⟩:=c33 L3 (car:=1) (t:=3000) k_c.2.1
 have L4:=L3.keep g4
 obtain⟨b5,h36,g5⟩:=c36 L4 (from_:=0) (to:=2) (t:=2500) k_c.2.2.1 (by decide)
 have L5:=L4.keep g5
 obtain⟨b6,h42,g6⟩:=c42 L5 (src:=1) k_c.2.2.2
 refine⟨b6,?_,(((g2.grow g1 hj).trans g3).trans g4).trans (g5.trans g6)⟩
 rw[show([]++[RC,RA,RB]:List Rep)=[RC,RA,RB] from rfl] at h29 h33 h36 h42
 rw[show FK.places.toNat=3 from rfl] at h29 h36
 rw[k_kn] at h29
 rw[k_qu] at h33
 rw[show FK.cars.toNat=2 from rfl,k_on] at h36
 rw[k_gaps] at h42
 have q30:=c30 (bs:=[]) KW KW (by decide)
 have q34:=c34 (bs:=[]) [(0,2),(1,2)] [(0,2),(1,2)] (by decide)
 have q37:=c37 (bs:=[]) [1,2] [1,2] (by decide)
 refine ku17.W rfl ?_
 unfold u17
 simp only[ups_cons,ups_nil,List.cons_append,List.nil_append]
 repeat' (first|(apply nrm;simp only[sbe];rfl)|(apply u_genW;rfl;exact rfl;rfl;rfl;exact h21;rfl;simp only[sbe];rfl)|(apply u_iteF;rfl;exact rfl)|(apply u_chk;rfl)|(apply u_ev;rfl;simp only[sbe];rfl)|(apply u_call;rfl;rfl;(·first|exact c25|exact c26);rfl;simp only[sbe];rfl)|(apply u_call;rfl;(·exact evA2 (ev_noids rfl rfl) (ev_noids rfl rfl));(·first|exact q30|exact q34|exact q37);rfl;simp only[sbe];rfl)|(apply u_wcall;rfl;rfl;(·first|exact h18|exact h29|exact h33|exact h36|exact h42);rfl;simp only[sbe];rfl)|(apply u_or;rfl)|(apply u_and;rfl)|exact u_ret rfl rfl|(intro hz;(try simp only[sbs] at hz)))

end Go.Am.Wr

/-
 What the specification tells of fields,sources and reports;a play begins.
-/
namespace Go.Am.Wr
open Go.Proofs
set_option maxRecDepth 100000
set_option maxHeartbeats 4000000

attribute [local irreducible] inR

variable {bs:List D} {f:Fld} {ss:List Src}

theorem evA3 {env:List D}{x y z:E}{d e g:D}(hx:x.eval env=some d)(hy:y.eval env=some e)(hz:z.eval env=some g):evalAll env [x,y,z]=some [d,e,g]:=by simp[evalAll,hx,hy,hz]

theorem c54 (x lo hi:Int):FSpecR Try.prog 54 (.st bs) [I x,I lo,I hi] (B (inR x lo hi)):=by
 have h:=ku54
 refine h.R rfl rfl ?_
 unfold u54 inR
 simp only[ups_cons,ups_nil,List.cons_append,List.nil_append]
 repeat' (first|(apply nrm;simp only[sbe];rfl)|(apply u_ev;rfl;simp only[sbe];rfl)|(apply u_and;rfl)|exact u_ret rfl rfl|(intro hz;(try simp only[sbs] at hz)))

theorem fielded_iff:fielded f ss=true↔(inR f.cars 1 200=true∧inR f.places 2 30=true∧(f.least.length:Int)=f.places-1∧(ss.length:Int)≤50)∧(∀x,x∈f.least→inR x 0 100000000=true)∧∀s,s∈ss→srcBad s=false:=by
 unfold fielded
 simp only[Bool.and_eq_true,decide_eq_true_eq,Bool.not_eq_true',List.any_eq_false]
 constructor
 ·rintro⟨h1,h2,h3,h4,h5,h6⟩
  exact⟨⟨h1,h2,h3,h4⟩,fun x hx=>by have:=h5 x hx;simpa using this,fun s hs=>by have:=h6 s hs;simpa using this⟩
 ·rintro⟨⟨h1,h2,h3,h4⟩,h5,h6⟩
  exact⟨h1,h2,h3,h4,fun x hx=>by simp[h5 x hx],fun s hs=>by simp[h6 s hs]⟩

theorem c19 (h1:f.least.length≤1000000000)(h2:ss.length≤1000000000)(hp:i64 f.places):FSpecR Try.prog 19 (.st bs) [f.d,.lst (ss.map Src.d)] (B (fielded f ss)):=by
 have a1:=c54 (bs:=[]) f.cars 1 200
 have a2:=c54 (bs:=[]) f.places 2 30
 cases hc:(!inR f.cars 1 200||!inR f.places 2 30||((f.least.length:Int) != f.places-1)||decide ((ss.length:Int) > 50))
 ·obtain⟨⟨⟨g1,g2⟩,g3⟩,g4⟩:((inR f.cars 1 200=true∧inR f.places 2 30=true)∧(f.least.length:Int)=f.places-1)∧(ss.length:Int)≤50:=by
   simpa using hc
  have g2':=g2
  unfold inR at g2'
  simp only[Bool.and_eq_true,decide_eq_true_eq] at g2'
  refine ku19.R rfl rfl ?_
  unfold u19
  simp only[ups_cons,ups_nil,List.cons_append,List.nil_append]
  repeat' (first|(apply nrm;simp only[sbe];rfl)|(apply u_iteF;rfl;exact hc)|(apply u_chk;rfl)|(apply u_lenL;rfl;exact lenL_map;simp only[sbe];rfl)|(apply u_sub;rfl;rfl;omega;simp only[sbe];rfl)|(apply u_ev;rfl;simp only[sbe];rfl)|(apply u_call;rfl;(·exact evA3 (ev_noids rfl rfl) (ev_noids rfl rfl) (ev_noids rfl rfl));(·first|exact a1|exact a2);rfl;simp only[sbe];rfl)|(apply u_or;rfl)|refine u_join ?_|exact u_ret rfl rfl|(intro hz;(try simp only[sbs] at hz)))
  refine u_range (fun i=>[In i]) (fun i=>∀k (h:k<i) (h2:k<f.least.length),inR f.least[k] 0 100000000=true) f.least.length rfl (fun _=>rfl) (fun k h=>absurd h (Nat.not_lt_zero _)) (fun i hi hJ R hR=>?_) (fun hJ R=>?_)
  ·have hli:decide ((i:Int)<(f.least.length:Int))=true:=by simp;omega
   have a3:=c54 (bs:=[]) f.least[i] 0 100000000
   have hea:D.eaddr 1 (Is f.least) (In i)=some (.ptr [I f.least[i]]):=eaddr_get hi rfl
   cases he:inR f.least[i] 0 100000000
   ·rw[he] at a3
    have hf:fielded f ss=false:=by
     cases hf:fielded f ss with
     | false=>rfl
     | true=>have:=(fielded_iff.1 hf).2.1 _ (List.getElem_mem hi);rw[he] at this;cases this
    rw[hf]
    repeat' (first|(apply nrm;simp only[sbe];rfl)|(apply u_iteT;rfl;(·first|exact hli|exact rfl))|(apply u_eaddr;rfl;rfl;exact hea;simp only[sbe];rfl)|(apply u_lenL;rfl;exact lenL_map;simp only[sbe];rfl)|(apply u_ev;rfl;simp only[sbe];rfl)|(apply u_call;rfl;(·exact evA3 (ev_noids rfl rfl) (ev_noids rfl rfl) (ev_noids rfl rfl));exact a3;rfl;simp only[sbe];rfl)|refine u_join ?_|(apply u_ret;rfl;first|exact rfl|(refine retB ?_)|(refine retI ?_)|(refine retD ?_)))
   ·rw[he] at a3
    repeat' (first|(apply nrm;simp only[sbe];rfl)|(apply u_iteT;rfl;exact hli)|(apply u_iteF;rfl;exact rfl)|(apply u_eaddr;rfl;rfl;exact hea;simp only[sbe];rfl)|(apply u_lenL;rfl;exact lenL_map;simp only[sbe];rfl)|(apply u_inc;rfl;omega;simp only[sbe];rfl)|(apply u_ev;rfl;simp only[sbe];rfl)|(apply u_call;rfl;(·exact evA3 (ev_noids rfl rfl) (ev_noids rfl rfl) (ev_noids rfl rfl));exact a3;rfl;simp only[sbe];rfl)|refine u_join ?_|(apply u_jump;rfl;rfl)|refine at_jump ?_|refine kj rfl ?_)
    refine hR fun k hk h2=>?_
    rcases Nat.lt_or_ge k i with h3 | h3
    ·exact hJ k h3 h2
    ·have e:k=i:=by omega
     subst e
     exact he
  ·have hli:decide ((f.least.length:Int)<(f.least.length:Int))=false:=by simp
   have hall:∀x,x∈f.least→inR x 0 100000000=true:=fun x hx=>by
    obtain⟨k,hk,rfl⟩:=List.mem_iff_getElem.1 hx
    exact hJ k hk hk
   repeat' (first|(apply nrm;simp only[sbe];rfl)|(apply u_iteF;rfl;exact hli)|(apply u_lenL;rfl;exact lenL_map;simp only[sbe];rfl)|(apply u_ev;rfl;simp only[sbe];rfl)|refine u_join ?_|(apply u_jump;rfl;rfl)|refine at_jump ?_|(refine over_jump (by decide) ?_)|refine kj rfl ?_)
   refine u_range (fun i=>[In i]) (fun i=>∀k (h:k<i) (h2:k<ss.length),srcBad ss[k]=false) ss.length rfl (fun _=>rfl) (fun k h=>absurd h (Nat.not_lt_zero _)) (fun i hi hJ R hR=>?_) (fun hJ R=>?_)
   ·have hli:decide ((i:Int)<(ss.length:Int))=true:=by simp;omega
    have a3:=c54 (bs:=[]) ss[i].error 0 10000000
    have hea:D.eaddr 2 (.lst (ss.map Src.d)) (In i)=some (.ptr ss[i].cs):=eaddr_get hi rfl
    have hsb:(decide (ss[i].kind<1)||decide (ss[i].kind > 3)||!inR ss[i].error 0 10000000)=srcBad ss[i]:=by simp[srcBad,Bool.or_assoc]
    cases he:srcBad ss[i]
    ·rw[he] at hsb
     repeat' (first|(apply nrm;simp only[sbe];rfl)|(apply u_iteT;rfl;exact hli)|(apply u_iteF;rfl;exact hsb)|(apply u_chk;rfl)|(apply u_eaddr;rfl;rfl;exact hea;simp only[sbe];rfl)|(apply u_lenL;rfl;exact lenL_map;simp only[sbe];rfl)|(apply u_inc;rfl;omega;simp only[sbe];rfl)|(apply u_ev;rfl;simp only[sbe];rfl)|(apply u_call;rfl;(·exact evA3 (ev_noids rfl rfl) (ev_noids rfl rfl) (ev_noids rfl rfl));exact a3;rfl;simp only[sbe];rfl)|(apply u_or;rfl)|refine u_join ?_|(apply u_jump;rfl;rfl)|refine at_jump ?_|refine kj rfl ?_|exact u_ret rfl rfl|(intro hz;(try simp only[sbs] at hz)))
     refine hR fun k hk h2=>?_
     rcases Nat.lt_or_ge k i with h3 | h3
     ·exact hJ k h3 h2
     ·have e:k=i:=by omega
      subst e
      exact he
    ·rw[he] at hsb
     have hf:fielded f ss=false:=by
      cases hf:fielded f ss with
      | false=>rfl
      | true=>have:=(fielded_iff.1 hf).2.2 _ (List.getElem_mem hi);rw[he] at this;cases this
     rw[hf]
     repeat' (first|(apply nrm;simp only[sbe];rfl)|(apply u_iteT;rfl;(·first|exact hli|exact hsb))|(apply u_chk;rfl)|(apply u_eaddr;rfl;rfl;exact hea;simp only[sbe];rfl)|(apply u_lenL;rfl;exact lenL_map;simp only[sbe];rfl)|(apply u_ev;rfl;simp only[sbe];rfl)|(apply u_call;rfl;(·exact evA3 (ev_noids rfl rfl) (ev_noids rfl rfl) (ev_noids rfl rfl));exact a3;rfl;simp only[sbe];rfl)|(apply u_or;rfl)|refine u_join ?_|exact u_ret rfl rfl|(apply u_ret;rfl;first|exact rfl|(refine retB ?_)|(refine retI ?_)|(refine retD ?_))|(intro hz;(try simp only[sbs] at hz)))
   ·have hli:decide ((ss.length:Int)<(ss.length:Int))=false:=by simp
    have hf:fielded f ss=true:=fielded_iff.2 ⟨⟨g1,g2,g3,g4⟩,hall,fun s hs=>by
     obtain⟨k,hk,rfl⟩:=List.mem_iff_getElem.1 hs
     exact hJ k hk hk⟩
    rw[hf]
    repeat' (first|(apply nrm;simp only[sbe];rfl)|(apply u_iteF;rfl;exact hli)|(apply u_lenL;rfl;exact lenL_map;simp only[sbe];rfl)|(apply u_ev;rfl;simp only[sbe];rfl)|(apply u_jump;rfl;rfl)|refine at_jump ?_|(refine over_jump (by decide) ?_)|refine kj rfl ?_|exact u_ret rfl rfl)
 ·have hf:fielded f ss=false:=by
   cases hf:fielded f ss with
   | false=>rfl
   | true=>
    obtain⟨⟨g1,g2,g3,g4⟩,_⟩:=fielded_iff.1 hf
    rw[g1,g2,g3] at hc
    simp at hc
    omega
  rw[hf]
  by_cases hq:inR f.places 2 30=true
  ·have g2':=hq
   unfold inR at g2'
   simp only[Bool.and_eq_true,decide_eq_true_eq] at g2'
   refine ku19.R rfl rfl ?_
   unfold u19
   simp only[ups_cons,ups_nil,List.cons_append,List.nil_append]
   repeat' (first|(apply nrm;simp only[sbe];rfl)|(apply u_iteT;rfl;exact hc)|(apply u_chk;rfl)|(apply u_lenL;rfl;exact lenL_map;simp only[sbe];rfl)|(apply u_sub;rfl;rfl;omega;simp only[sbe];rfl)|(apply u_ev;rfl;simp only[sbe];rfl)|(apply u_call;rfl;(·exact evA3 (ev_noids rfl rfl) (ev_noids rfl rfl) (ev_noids rfl rfl));(·first|exact a1|exact a2);rfl;simp only[sbe];rfl)|(apply u_or;rfl)|exact u_ret rfl rfl|(intro hz;(try simp only[sbs] at hz)))
  ·have hq':inR f.places 2 30=false:=by simpa using hq
   have hc2:(!inR f.cars 1 200||!false||true||decide ((ss.length:Int) > 50))=true:=by simp
   have hot:(!inR f.cars 1 200||!false)=true:=by simp
   rw[hq'] at a2
   refine ku19.R rfl rfl ?_
   unfold u19
   simp only[ups_cons,ups_nil,List.cons_append,List.nil_append]
   repeat' (first|(apply nrm;simp only[sbe];rfl)|(apply u_orT;rfl;(·first|exact hot|exact rfl))|(apply u_iteT;rfl;exact rfl)|(apply u_chk;rfl)|(apply u_ev;rfl;simp only[sbe];rfl)|(apply u_call;rfl;(·exact evA3 (ev_noids rfl rfl) (ev_noids rfl rfl) (ev_noids rfl rfl));(·first|exact a1|exact a2);rfl;simp only[sbe];rfl)|(apply u_or;rfl)|exact u_ret rfl rfl|(intro hz;(try simp only[sbs] at hz)))

end Go.Am.Wr

/-
 A play: is it as defined,does it begin.
-/
namespace Go.Am.Wr
open Go.Proofs
set_option maxRecDepth 100000
set_option maxHeartbeats 4000000

attribute [local irreducible] inR

variable {bs:List D} {f:Fld} {ss:List Src}

theorem noid_rep (r:Rep):r.d.noid=true:=by simp[Rep.d,Rep.cs,D.noid,noids]
theorem noid_reps (l:List Rep):(D.lst (l.map Rep.d)).noid=true:=by
 simp only[D.noid]
 exact noid_map noid_rep l
theorem noid_pla (x:Pla):x.d.noid=true:=by
 have h1:=noid_Is x.f.least
 have h2:=noid_srcs x.s
 have h3:=noid_reps x.l
 simp only[Pla.d,Pla.cs,D.noid,noids] at h1 h2 h3 ⊢
 simp only[h1,h2,h3,Bool.and_self]

theorem evN3 {env:List D}{x y z:E}{d e g:D}(hx:x.eval env=some d)(hy:y.eval env=some e)(hz:z.eval env=some g)(h1:d.noid=true)(h2:e.noid=true)(h3:g.noid=true):evalAll env [E.m4 .noids x .nil .nil .nil,E.m4 .noids y .nil .nil .nil,E.m4 .noids z .nil .nil .nil]=some [d,e,g]:=evA3 (ev_noids hx h1) (ev_noids hy h2) (ev_noids hz h3)

theorem c40 (h2:ss.length≤1000000000)(hp:0≤f.places∧f.places≤1000000)(r:Rep):FSpecR Try.prog 40 (.st bs) [f.d,.lst (ss.map Src.d),r.d] (B (rightB f ss r)):=by
 have a1:=c54 (bs:=[]) r.source 0 ((ss.length:Int)-1)
 have a2:=c54 (bs:=[]) r.number 0 1000000000
 have a3:=c54 (bs:=[]) r.time 0 1000000000000
 have a4:=c54 (bs:=[]) r.arrived 0 1000000000000
 have a5:=c54 (bs:=[]) r.car 1 f.cars
 have a6:=c54 (bs:=[]) r.place 0 (f.places-1)
 have a7:=c54 (bs:=[]) r.car 0 (r.number-1)
 cases hc:(!inR r.source 0 ((ss.length:Int)-1)||!inR r.number 0 1000000000||!inR r.time 0 1000000000000||!inR r.arrived 0 1000000000000)
 ·obtain⟨⟨⟨g1,g2⟩,g3⟩,g4⟩:((inR r.source 0 ((ss.length:Int)-1)=true∧inR r.number 0 1000000000=true)∧inR r.time 0 1000000000000=true)∧inR r.arrived 0 1000000000000=true:=by simpa using hc
  have g2':=g2
  unfold inR at g2'
  simp only[Bool.and_eq_true,decide_eq_true_eq] at g2'
  unfold rightB
  rw[g1,g2,g4]
  simp only[Bool.true_and]
  by_cases k1:r.kind=1
  ·have e1:(r.kind==1)=true:=by simp[k1]
   rw[if_neg (by omega),if_pos (.inl k1),g3,Bool.and_true]
   refine ku40.R rfl rfl ?_
   unfold u40
   simp only[ups_cons,ups_nil,List.cons_append,List.nil_append]
   repeat' (first|(apply nrm;simp only[sbe];rfl)|(apply u_iteT;rfl;exact e1)|(apply u_iteF;rfl;exact hc)|(apply u_chk;rfl)|(apply u_lenL;rfl;exact lenL_map;simp only[sbe];rfl)|(apply u_sub;rfl;rfl;omega;simp only[sbe];rfl)|(apply u_ev;rfl;simp only[sbe];rfl)|(apply u_call;rfl;exact evN3 rfl rfl rfl rfl rfl rfl;(·first|exact a1|exact a2|exact a3|exact a4|exact a5|exact a6);rfl;simp only[sbe];rfl)|(apply u_or;rfl)|(apply u_and;rfl)|refine u_join ?_|(apply u_jump;rfl;rfl)|refine at_jump ?_|refine kj rfl ?_|exact u_ret rfl rfl|(apply u_ret;rfl;first|exact rfl|(refine retB ?_)|(refine retI ?_)|(refine retD ?_))|(intro hz;(try simp only[sbs] at hz)))
  ·have e1:(r.kind==1)=false:=by simp[k1]
   by_cases k2:r.kind=2
   ·have e2:(r.kind==2)=true:=by simp[k2]
    rw[if_neg (by omega),if_pos (.inr k2),g3,Bool.and_true]
    refine ku40.R rfl rfl ?_
    unfold u40
    simp only[ups_cons,ups_nil,List.cons_append,List.nil_append]
    repeat' (first|(apply nrm;simp only[sbe];rfl)|(apply u_iteT;rfl;exact e2)|(apply u_iteF;rfl;(·first|exact hc|exact e1))|(apply u_chk;rfl)|(apply u_lenL;rfl;exact lenL_map;simp only[sbe];rfl)|(apply u_sub;rfl;rfl;omega;simp only[sbe];rfl)|(apply u_ev;rfl;simp only[sbe];rfl)|(apply u_call;rfl;exact evN3 rfl rfl rfl rfl rfl rfl;(·first|exact a1|exact a2|exact a3|exact a4|exact a5|exact a6);rfl;simp only[sbe];rfl)|(apply u_or;rfl)|(apply u_and;rfl)|refine u_join ?_|(apply u_jump;rfl;rfl)|refine at_jump ?_|refine kj rfl ?_|exact u_ret rfl rfl|(apply u_ret;rfl;first|exact rfl|(refine retB ?_)|(refine retI ?_)|(refine retD ?_))|(intro hz;(try simp only[sbs] at hz)))
   ·have e2:(r.kind==2)=false:=by simp[k2]
    by_cases k3:r.kind=3
    ·have e3:(r.kind==3)=true:=by simp[k3]
     rw[if_neg (by omega),if_neg (by omega),if_pos k3]
     refine ku40.R rfl rfl ?_
     unfold u40
     simp only[ups_cons,ups_nil,List.cons_append,List.nil_append]
     repeat' (first|(apply nrm;simp only[sbe];rfl)|(apply u_iteT;rfl;exact e3)|(apply u_iteF;rfl;(·first|exact hc|exact e1|exact e2))|(apply u_chk;rfl)|(apply u_lenL;rfl;exact lenL_map;simp only[sbe];rfl)|(apply u_sub;rfl;rfl;omega;simp only[sbe];rfl)|(apply u_ev;rfl;simp only[sbe];rfl)|(apply u_call;rfl;exact evN3 rfl rfl rfl rfl rfl rfl;(·first|exact a1|exact a2|exact a3|exact a4|exact a5|exact a6);rfl;simp only[sbe];rfl)|(apply u_or;rfl)|(apply u_and;rfl)|refine u_join ?_|(apply u_jump;rfl;rfl)|refine at_jump ?_|refine kj rfl ?_|exact u_ret rfl rfl|(apply u_ret;rfl;first|exact rfl|(refine retB ?_)|(refine retI ?_)|(refine retD ?_))|(intro hz;(try simp only[sbs] at hz)))
     simp[Bool.and_assoc]
    ·have e3:(r.kind==3)=false:=by simp[k3]
     by_cases k4:r.kind=4
     ·have e4:(r.kind==4)=true:=by simp[k4]
      rw[if_pos k4]
      refine ku40.R rfl rfl ?_
      unfold u40
      simp only[ups_cons,ups_nil,List.cons_append,List.nil_append]
      repeat' (first|(apply nrm;simp only[sbe];rfl)|(apply u_iteT;rfl;exact e4)|(apply u_iteF;rfl;(·first|exact hc|exact e1|exact e2|exact e3))|(apply u_chk;rfl)|(apply u_lenL;rfl;exact lenL_map;simp only[sbe];rfl)|(apply u_sub;rfl;rfl;omega;simp only[sbe];rfl)|(apply u_ev;rfl;simp only[sbe];rfl)|(apply u_call;rfl;exact evN3 rfl rfl rfl rfl rfl rfl;(·first|exact a1|exact a2|exact a3|exact a4|exact a7);rfl;simp only[sbe];rfl)|(apply u_or;rfl)|(apply u_and;rfl)|refine u_join ?_|(apply u_jump;rfl;rfl)|refine at_jump ?_|refine kj rfl ?_|exact u_ret rfl rfl|(apply u_ret;rfl;first|exact rfl|(refine retB ?_)|(refine retI ?_)|(refine retD ?_))|(intro hz;(try simp only[sbs] at hz)))
     ·have e4:(r.kind==4)=false:=by simp[k4]
      rw[if_neg k4,if_neg (by omega),if_neg k3,Bool.and_false,Bool.and_false]
      refine ku40.R rfl rfl ?_
      unfold u40
      simp only[ups_cons,ups_nil,List.cons_append,List.nil_append]
      repeat' (first|(apply nrm;simp only[sbe];rfl)|(apply u_iteF;rfl;(·first|exact hc|exact e1|exact e2|exact e3|exact e4))|(apply u_chk;rfl)|(apply u_lenL;rfl;exact lenL_map;simp only[sbe];rfl)|(apply u_sub;rfl;rfl;omega;simp only[sbe];rfl)|(apply u_ev;rfl;simp only[sbe];rfl)|(apply u_call;rfl;exact evN3 rfl rfl rfl rfl rfl rfl;(·first|exact a1|exact a2|exact a3|exact a4);rfl;simp only[sbe];rfl)|(apply u_or;rfl)|refine u_join ?_|(apply u_jump;rfl;rfl)|refine at_jump ?_|refine kj rfl ?_|exact u_ret rfl rfl|(intro hz;(try simp only[sbs] at hz)))
 ·have hf:rightB f ss r=false:=by
   cases hf:rightB f ss r with
   | false=>rfl
   | true=>
    obtain⟨b1,b2,b3,b4,_⟩:=right_bd hf
    exfalso
    unfold inR at hc
    simp at hc
    omega
  rw[hf]
  refine ku40.R rfl rfl ?_
  unfold u40
  simp only[ups_cons,ups_nil,List.cons_append,List.nil_append]
  repeat' (first|(apply nrm;simp only[sbe];rfl)|(apply u_iteT;rfl;exact hc)|(apply u_chk;rfl)|(apply u_lenL;rfl;exact lenL_map;simp only[sbe];rfl)|(apply u_sub;rfl;rfl;omega;simp only[sbe];rfl)|(apply u_ev;rfl;simp only[sbe];rfl)|(apply u_call;rfl;exact evN3 rfl rfl rfl rfl rfl rfl;(·first|exact a1|exact a2|exact a3|exact a4);rfl;simp only[sbe];rfl)|(apply u_or;rfl)|exact u_ret rfl rfl|(intro hz;(try simp only[sbs] at hz)))

variable {x:Pla}

theorem evN1 {env:List D}{y:E}{d:D}(hx:y.eval env=some d)(h1:d.noid=true):evalAll env [E.m4 .noids y .nil .nil .nil]=some [d]:=evA1 (ev_noids hx h1)

theorem c20 (h2:x.s.length≤1000000000)(hp:0≤x.f.places∧x.f.places≤1000000)(hl:x.l.length≤1000000000):FSpecR Try.prog 20 (.st bs) [x.d] (B (x.l.all (rightB x.f x.s))):=by
 refine ku20.R rfl rfl ?_
 unfold u20
 simp only[ups_cons,ups_nil,List.cons_append,List.nil_append]
 repeat' (first|(apply u_chk;rfl)|refine u_join ?_)
 refine u_range (fun i=>[In i]) (fun i=>∀k (h:k<i) (h2:k<x.l.length),rightB x.f x.s x.l[k]=true) x.l.length rfl (fun _=>rfl) (fun k h=>absurd h (Nat.not_lt_zero _)) (fun i hi hJ R hR=>?_) (fun hJ R=>?_)
 ·have hli:decide ((i:Int)<(x.l.length:Int))=true:=by simp;omega
  have h40:=c40 (bs:=[]) h2 hp x.l[i]
  have hea:D.eaddr 7 (.lst (x.l.map Rep.d)) (In i)=some (.ptr x.l[i].cs):=eaddr_get hi rfl
  cases he:rightB x.f x.s x.l[i]
  ·rw[he] at h40
   repeat' (first|(apply nrm;simp only[sbe];rfl)|(apply u_iteT;rfl;(·first|exact hli|exact rfl))|(apply u_eaddr;rfl;rfl;exact hea;simp only[sbe];rfl)|(apply u_lenL;rfl;exact lenL_map;simp only[sbe];rfl)|(apply u_ev;rfl;simp only[sbe];rfl)|(apply u_call;rfl;(·exact evN3 rfl rfl rfl (noid_fld x.f) (noid_srcs x.s) (noid_rep _));exact h40;rfl;simp only[sbe];rfl)|refine u_join ?_|(apply u_ret;rfl;first|exact rfl|(refine retB ?_)|(refine retI ?_)|(refine retD ?_)))
   rw[List.all_eq_false.2 ⟨_,List.getElem_mem hi,by simp[he]⟩]
  ·rw[he] at h40
   repeat' (first|(apply nrm;simp only[sbe];rfl)|(apply u_iteT;rfl;exact hli)|(apply u_iteF;rfl;exact rfl)|(apply u_eaddr;rfl;rfl;exact hea;simp only[sbe];rfl)|(apply u_lenL;rfl;exact lenL_map;simp only[sbe];rfl)|(apply u_inc;rfl;omega;simp only[sbe];rfl)|(apply u_ev;rfl;simp only[sbe];rfl)|(apply u_call;rfl;(·exact evN3 rfl rfl rfl (noid_fld x.f) (noid_srcs x.s) (noid_rep _));exact h40;rfl;simp only[sbe];rfl)|refine u_join ?_|(apply u_jump;rfl;rfl)|refine at_jump ?_|refine kj rfl ?_)
   refine hR fun k hk h3=>?_
   rcases Nat.lt_or_ge k i with h4 | h4
   ·exact hJ k h4 h3
   ·have e:k=i:=by omega
    subst e
    exact he
 ·have hli:decide ((x.l.length:Int)<(x.l.length:Int))=false:=by simp
  repeat' (first|(apply nrm;simp only[sbe];rfl)|(apply u_iteF;rfl;exact hli)|(apply u_lenL;rfl;exact lenL_map;simp only[sbe];rfl)|(apply u_ev;rfl;simp only[sbe];rfl)|(apply u_jump;rfl;rfl)|refine at_jump ?_|(refine over_jump (by decide) ?_)|refine kj rfl ?_|(apply u_ret;rfl;first|exact rfl|(refine retB ?_)|(refine retI ?_)|(refine retD ?_)))
  rw[List.all_eq_true.2 fun r hr=>?_]
  obtain⟨k,hk,rfl⟩:=List.mem_iff_getElem.1 hr
  exact hJ k hk hk

def fitB (x:Pla):Bool:=decide ((x.f.least.length:Int)≤40)&&(decide (x.f.cars≤8)||decide (x.f.cars > 200))&&decide ((x.s.length:Int)≤60)&&decide ((x.l.length:Int)≤25)

theorem c16:FSpecR Try.prog 16 (.st bs) [x.d] (B (fitB x)):=by
 refine ku16.R rfl rfl ?_
 unfold fitB
 unfold u16
 simp only[ups_cons,ups_nil,List.cons_append,List.nil_append]
 repeat' (first|(apply nrm;simp only[sbe];rfl)|(apply u_chk;rfl)|(apply u_lenL;rfl;exact lenL_map;simp only[sbe];rfl)|(apply u_ev;rfl;simp only[sbe];rfl)|(apply u_or;rfl)|(apply u_and;rfl)|exact u_ret rfl rfl|(intro hz;(try simp only[sbs] at hz)))

def fineB (x:Pla):Bool:=fitB x&&fielded x.f x.s&&x.l.all (rightB x.f x.s)

structure Fit (x:Pla):Prop where
 least:x.f.least.length≤40
 cars:x.f.cars≤8∨200<x.f.cars
 s:x.s.length≤60
 l:x.l.length≤25

theorem fit_of (h:fitB x=true):Fit x:=by
 unfold fitB at h
 simp only[Bool.and_eq_true,Bool.or_eq_true,decide_eq_true_eq] at h
 exact⟨by omega,by omega,by omega,by omega⟩

theorem c27 (hp:i64 x.f.places):FSpecR Try.prog 27 (.st bs) [x.d] (B (fineB x)):=by
 have h16:=c16 (bs:=[]) (x:=x)
 have hn:=noid_pla x
 unfold fineB
 cases hf:fitB x
 ·rw[hf] at h16
  refine ku27.R rfl rfl ?_
  unfold u27
  simp only[ups_cons,ups_nil,List.cons_append,List.nil_append]
  repeat' (first|(apply nrm;simp only[sbe];rfl)|(apply u_andF;rfl;exact rfl)|(apply u_chk;rfl)|(apply u_call;rfl;exact evN1 rfl hn;exact h16;rfl;simp only[sbe];rfl)|exact u_ret rfl rfl)
 ·have F:=fit_of hf
  have g1:=F.least
  have g2:=F.s
  have g3:=F.l
  rw[hf] at h16
  have h19:=c19 (bs:=[]) (f:=x.f) (ss:=x.s) (by omega) (by omega) hp
  cases hg:fielded x.f x.s
  ·rw[hg] at h19
   refine ku27.R rfl rfl ?_
   unfold u27
   simp only[ups_cons,ups_nil,List.cons_append,List.nil_append]
   repeat' (first|(apply nrm;simp only[sbe];rfl)|(apply u_andF;rfl;exact rfl)|(apply u_chk;rfl)|(apply u_call;rfl;(·first|exact evN1 rfl hn|exact evA2 (ev_noids rfl (noid_fld x.f)) (ev_noids rfl (noid_srcs x.s)));(·first|exact h16|exact h19);rfl;simp only[sbe];rfl)|(apply u_and;rfl)|exact u_ret rfl rfl|(intro hz;(try simp only[sbs] at hz)))
  ·obtain⟨k1,k2,k3,k4⟩:=fok_of hg
   have k5:=k1.hi
   rw[hg] at h19
   have h20:=c20 (bs:=[]) (x:=x) (by omega) (by omega) (by omega)
   refine ku27.R rfl rfl ?_
   unfold u27
   simp only[ups_cons,ups_nil,List.cons_append,List.nil_append]
   repeat' (first|(apply nrm;simp only[sbe];rfl)|(apply u_chk;rfl)|(apply u_call;rfl;(·first|exact evN1 rfl hn|exact evA2 (ev_noids rfl (noid_fld x.f)) (ev_noids rfl (noid_srcs x.s)));(·first|exact h16|exact h19|exact h20);rfl;simp only[sbe];rfl)|(apply u_and;rfl)|exact u_ret rfl rfl|(intro hz;(try simp only[sbs] at hz)))

theorem c28 (hf:fineB x=true)(hn:noyls bs=true):∃bs' j,FSpecW Try.prog 28 (.st bs) [x.d] (.tup [.loc j 0,B true]) (.st bs')∧Lg bs' j x.f x.s x.l x.f.places.toNat∧Grow bs bs'∧bs.length≤j:=by
 unfold fineB at hf
 simp only[Bool.and_eq_true,List.all_eq_true] at hf
 obtain⟨⟨h1,h2⟩,h3⟩:=hf
 have F:=fit_of h1
 obtain⟨b1,j,h18,L1,g1,hj⟩:=newL h2 hn
 have hfl:=fold_len x.l []
 have hl:=F.l
 obtain⟨b2,h21,L2,g2⟩:=addL L1 (l:=x.l) (by omega) h3 (by simp at hfl ⊢;omega)
 refine⟨b2,j,?_,L2,g2.grow g1 hj,hj⟩
 refine ku28.W rfl ?_
 unfold u28
 simp only[ups_cons,ups_nil,List.cons_append,List.nil_append]
 repeat' (first|(apply nrm;simp only[sbe];rfl)|(apply u_iteF;rfl;exact rfl)|(apply u_chk;rfl)|(apply u_ev;rfl;simp only[sbe];rfl)|(apply u_wcall;rfl;rfl;(·first|exact h18|exact h21);rfl;simp only[sbe];rfl)|(apply u_or;rfl)|exact u_ret rfl rfl|(intro hz;(try simp only[sbs] at hz)))

end Go.Am.Wr

/-
 The theorem of quarrels.
-/
namespace Go.Am.Wr
open Go.Proofs
set_option maxRecDepth 100000
set_option maxHeartbeats 4000000

attribute [local irreducible] inR

variable {bs:List D} {f:Fld} {ss:List Src} {n:Nat} {rs W:List Rep}

theorem quL_iff {least:List Int}(F:FOk n least ss){L:List Nat}(hr:∀r,r∈L.map (rAt W)→ROk n ss r):quL ss least W L L≠[]↔∃a b,a∈L.map (rAt W)∧b∈L.map (rAt W)∧clashB ss least a b=true:=by
 have hne:quL ss least W L L≠[]↔∃i q,i∈L∧q∈L∧quH ss least W i q=true:=by
  constructor
  ·intro h
   obtain⟨p,hp⟩:=List.exists_mem_of_ne_nil _ h
   obtain⟨i,hi,hp⟩:=List.mem_flatMap.1 hp
   obtain⟨q,hq,rfl⟩:=List.mem_map.1 hp
   exact⟨i,q,hi,(List.mem_filter.1 hq).1,(List.mem_filter.1 hq).2⟩
  ·rintro⟨i,q,hi,hq,h⟩ e
   have:(i,q)∈quL ss least W L L:=List.mem_flatMap.2 ⟨i,hi,List.mem_map.2 ⟨q,List.mem_filter.2 ⟨hq,h⟩,rfl⟩⟩
   rw[e] at this
   cases this
 rw[hne]
 constructor
 ·rintro⟨i,q,hi,hq,h⟩
  have hia:=hr _ (List.mem_map_of_mem hi)
  have hqa:=hr _ (List.mem_map_of_mem hq)
  unfold quH quS quK quB at h
  simp only[Bool.and_eq_true,Bool.not_eq_true',Bool.or_eq_false_iff,decide_eq_false_iff_not,beq_eq_false_iff_ne,Bool.or_eq_true,decide_eq_true_eq,beq_iff_eq] at h
  obtain⟨⟨⟨⟨h1,h2⟩,h3⟩,h4⟩,h5⟩:=h
  rcases h5 with⟨g1,g2,g3⟩ | ⟨g1,g2,g3⟩
  ·refine⟨_,_,List.mem_map_of_mem hi,List.mem_map_of_mem hq,?_⟩
   unfold clashB
   simp only[Bool.and_eq_true,Bool.or_eq_true,decide_eq_true_eq,beq_iff_eq]
   exact⟨g1,g2,by rcases hia.kind with k | k | k <;> omega,g3⟩
  ·refine⟨_,_,List.mem_map_of_mem hq,List.mem_map_of_mem hi,?_⟩
   unfold clashB
   simp only[Bool.and_eq_true,Bool.or_eq_true,decide_eq_true_eq,beq_iff_eq]
   exact⟨g1,g2,by rcases hqa.kind with k | k | k <;> omega,g3⟩
 ·rintro⟨a,b,ha,hb,h⟩
  obtain⟨i,hi,rfl⟩:=List.mem_map.1 ha
  obtain⟨q,hq,rfl⟩:=List.mem_map.1 hb
  have hc:=h
  unfold clashB at h
  simp only[Bool.and_eq_true,Bool.or_eq_true,decide_eq_true_eq,beq_iff_eq] at h
  obtain⟨g1,g2,g3,g4⟩:=h
  rcases Nat.lt_trichotomy i q with g | g | g
  ·refine⟨i,q,hi,hq,?_⟩
   unfold quH quS quK quB
   simp only[Bool.and_eq_true,Bool.not_eq_true',Bool.or_eq_false_iff,decide_eq_false_iff_not,beq_eq_false_iff_ne,Bool.or_eq_true,decide_eq_true_eq,beq_iff_eq,Bool.and_eq_false_iff]
   exact⟨⟨⟨⟨by omega,by omega⟩,by omega⟩,.inr (by omega)⟩,.inl ⟨g1,g2,g4⟩⟩
  ·subst g
   rw[clash_self F (hr _ ha)] at hc
   cases hc
  ·refine⟨q,i,hq,hi,?_⟩
   unfold quH quS quK quB
   simp only[Bool.and_eq_true,Bool.not_eq_true',Bool.or_eq_false_iff,decide_eq_false_iff_not,beq_eq_false_iff_ne,Bool.or_eq_true,decide_eq_true_eq,beq_iff_eq,Bool.and_eq_false_iff]
   exact⟨⟨⟨⟨by omega,by omega⟩,by omega⟩,.inl (by omega)⟩,.inr ⟨g1,g2,g4⟩⟩

theorem chk_of {x:Pla}{car t:Int}{n:Nat}(hpl:x.f.places=(n:Int))(hn:2≤n)(h:¬(car<1∨x.f.cars<car∨t<0∨1000000000000<t)):chkB x.f car 0 t=true:=by
 unfold chkB inR
 simp only[Bool.and_eq_true,decide_eq_true_eq]
 omega

end Go.Am.Wr

/-
 The specification: comparisons,bounds,clashes,passings,the best one.
-/
namespace Go.Am.Wr
open Go.Proofs
set_option maxRecDepth 100000
set_option maxHeartbeats 4000000

attribute [local irreducible] inR

variable {bs:List D} {n:Nat} {f:Fld} {ss:List Src} {W:List Rep}

theorem lx_at:∀{xs ys:List Int} (i:Nat) (h1:i<xs.length) (h2:i<ys.length),(∀k (h:k<i),xs[k]=ys[k])→xs[i]≠ys[i]→lx xs ys=decide (xs[i]<ys[i])
 | [],_,i,h1,_,_,_=>absurd h1 (Nat.not_lt_zero _)
 | _ :: _,[],i,_,h2,_,_=>absurd h2 (Nat.not_lt_zero _)
 | x :: xs,y :: ys,0,h1,h2,_,hne=>by
  simp only[List.getElem_cons_zero] at hne ⊢
  rw[lx,if_neg hne]
 | x :: xs,y :: ys,i+1,h1,h2,hk,hne=>by
  have h0:=hk 0 (by omega)
  simp only[List.getElem_cons_zero] at h0
  simp only[List.getElem_cons_succ] at hne ⊢
  rw[lx,if_pos h0]
  exact lx_at i (by simpa using h1) (by simpa using h2) (fun k h=>by simpa using hk (k+1) (by omega)) hne

theorem c61 (a b:Rep):FSpecR Try.prog 61 (.st bs) [a.d,b.d] (B (before a b)):=by
 have hl6:D.lenL (.lst [I a.source,I a.number,I a.kind,I a.car,I a.place,I a.time])=some (I 6):=rfl
 refine ku61.R rfl rfl ?_
 unfold u61
 simp only[ups_cons,ups_nil,List.cons_append,List.nil_append]
 repeat' (first|(apply u_chk;rfl)|(apply u_ev;rfl;simp only[sbe];rfl)|refine u_join ?_)
 refine u_range (fun i=>[In i]) (fun i=>∀k (h:k<i) (h2:k<6),(key a)[k]'(by simpa[key] using h2)=(key b)[k]'(by simpa[key] using h2)) 6 rfl (fun _=>rfl) (fun k h=>absurd h (Nat.not_lt_zero _)) (fun i hi hJ R hR=>?_) (fun hJ R=>?_)
 ·have hli:decide ((i:Int)<6)=true:=by simp;omega
  have hia:i<(key a).length:=by simpa[key] using hi
  have hib:i<(key b).length:=by simpa[key] using hi
  have hea:D.eaddr 1 (Is (key a)) (In i)=some (.ptr [I (key a)[i]]):=eaddr_get hia rfl
  have heb:D.eaddr 1 (Is (key b)) (In i)=some (.ptr [I (key b)[i]]):=eaddr_get hib rfl
  have hea':D.eaddr 1 (.lst [I a.source,I a.number,I a.kind,I a.car,I a.place,I a.time]) (In i)=some (.ptr [I (key a)[i]]):=hea
  have heb':D.eaddr 1 (.lst [I b.source,I b.number,I b.kind,I b.car,I b.place,I b.time]) (In i)=some (.ptr [I (key b)[i]]):=heb
  by_cases he:(key a)[i]=(key b)[i]
  ·have hd:((key a)[i] != (key b)[i])=false:=by simp[he]
   repeat' (first|(apply nrm;simp only[sbe];rfl)|(apply u_iteT;rfl;exact hli)|(apply u_iteF;rfl;exact hd)|(apply u_eaddr;rfl;rfl;(·first|exact hea'|exact heb');simp only[sbe];rfl)|(apply u_lenL;rfl;exact hl6;simp only[sbe];rfl)|(apply u_inc;rfl;omega;simp only[sbe];rfl)|(apply u_ev;rfl;simp only[sbe];rfl)|refine u_join ?_|(apply u_jump;rfl;rfl)|refine at_jump ?_|refine kj rfl ?_)
   refine hR fun k hk h2=>?_
   rcases Nat.lt_or_ge k i with h3 | h3
   ·exact hJ k h3 h2
   ·have e:k=i:=by omega
    subst e
    exact he
  ·have hd:((key a)[i] != (key b)[i])=true:=by simp[he]
   have hb:before a b=decide ((key a)[i]<(key b)[i]):=lx_at i hia hib (fun k h=>hJ k h (by omega)) he
   rw[hb]
   repeat' (first|(apply nrm;simp only[sbe];rfl)|(apply u_iteT;rfl;(·first|exact hli|exact hd))|(apply u_eaddr;rfl;rfl;(·first|exact hea'|exact heb');simp only[sbe];rfl)|(apply u_lenL;rfl;exact hl6;simp only[sbe];rfl)|(apply u_ev;rfl;simp only[sbe];rfl)|refine u_join ?_|(apply u_ret;rfl;first|exact rfl|(refine retB ?_)|(refine retI ?_)|(refine retD ?_)))
 ·have hk:key a=key b:=List.ext_getElem rfl fun k h1 h2=>by
   have:k<6:=by simpa[key] using h1
   exact hJ k this this
  rw[not_of_key hk]
  repeat' (first|(apply nrm;simp only[sbe];rfl)|(apply u_iteF;rfl;exact rfl)|(apply u_lenL;rfl;exact hl6;simp only[sbe];rfl)|(apply u_ev;rfl;simp only[sbe];rfl)|(apply u_jump;rfl;rfl)|refine at_jump ?_|(refine over_jump (by decide) ?_)|refine kj rfl ?_|exact u_ret rfl rfl)

theorem eql_rep (a b:Rep):D.bin .eql KR a.d b.d=some (B (decide (a=b))):=by
 obtain⟨a1,a2,a3,a4,a5,a6,a7⟩:=a
 obtain⟨b1,b2,b3,b4,b5,b6,b7⟩:=b
 simp only[Rep.d,Rep.cs,D.bin,D.eqs,cmpI,Rep.mk.injEq]
 by_cases h1:a1=b1 <;> by_cases h2:a2=b2 <;> by_cases h3:a3=b3 <;> by_cases h4:a4=b4 <;> by_cases h5:a5=b5 <;> by_cases h6:a6=b6 <;> by_cases h7:a7=b7 <;> simp_all

theorem c62 (a b:Rep):FSpecR Try.prog 62 (.st bs) [a.d,b.d] (B (decide (key a=key b))):=by
 have h:=eql_rep (setA a b.arrived) b
 have e:(setA a b.arrived=b)↔key a=key b:=⟨fun h=>by rw[←h];rfl,fun h=>rep_ext h rfl⟩
 simp only[e] at h
 refine ku62.R rfl rfl ?_
 unfold u62
 simp only[ups_cons,ups_nil,List.cons_append,List.nil_append]
 repeat' (first|(apply u_chk;rfl)|(apply u_bin;rfl;rfl;exact h;simp only[sbe];rfl)|exact u_ret rfl rfl)

theorem app_ix {out:List Nat}{x:Nat}(h:out.length≤1000000):D.app 1 8 (Ix out) (.lst [In x])=some (Ix (out++[x])):=
 app_lst (enc:=In) (ys:=[x]) (by simp;omega) (by simp[maxLen];omega) (fun _=>rfl)

end Go.Am.Wr

/-
 The specification: gaps,which reports count.
-/
namespace Go.Am.Wr
open Go.Proofs
set_option maxRecDepth 100000
set_option maxHeartbeats 4000000

attribute [local irreducible] inR

variable {bs:List D} {n:Nat} {f:Fld} {ss:List Src} {W:List Rep}

/-! ## lists of yes and no -/

def bl (n:Nat)(g:Nat→Bool):D:=.lst ((List.range n).map fun q=>B (g q))

theorem bl_idx {g:Nat→Bool}{i:Nat}(h:i<n):D.idx (bl n g) (In i)=some (B (g i)):=by
 simp[bl,D.idx,h]

theorem bl_set {g g':Nat→Bool}{i:Nat}{b:Bool}(h:i<n)(hg:∀q,q<n→upd g i b q=g' q):D.set (bl n g) (In i) 0 (B b)=some (bl n g'):=by
 have e:(List.range n).map (fun q=>B (g' q))=(List.range n).map (fun q=>B (upd g i b q)):=List.map_congr_left fun q hq=>by rw[hg q (by simpa using hq)]
 have e2:((List.range n).map fun q=>B (g q)).set i (B b)=(List.range n).map (fun q=>B (upd g i b q)):=by
  rw[range_set]
  refine List.map_congr_left fun q _=>?_
  unfold upd
  split <;> rfl
 simp only[bl,D.set,Int.natCast_nonneg,if_true,Int.toNat_natCast]
 rw[e,←e2]
 simp[h,D.putAt,D.one]

theorem bl_rep (h:n≤100000):D.rep 1 (In n) (B false)=some (bl n fun _=>false):=by
 simp only[D.rep,Int.toNat_natCast]
 rw[if_pos ⟨by omega,by omega,by simp[maxLen];omega⟩]
 unfold bl
 rw[List.map_const',List.length_range]

theorem bl_congr {g g':Nat→Bool}(h:∀q,q<n→g q=g' q):bl n g=bl n g':=by
 have e:(List.range n).map (fun q=>B (g q))=(List.range n).map (fun q=>B (g' q)):=List.map_congr_left fun q hq=>by rw[h q (by simpa using hq)]
 unfold bl
 rw[e]

theorem e_ci {env:List D}{x y:E}{dx dy:D}{b:Bool}(hx:x.eval env=some dx)(hy:y.eval env=some dy)(h:D.idx dx dy=some (B b)):(E.cell 0 (.idx x y)).eval env=some (B b):=by
 simp only[E.eval,hx,hy,Option.bind_some,h]
 rfl

/-! ## Counts -/

def thG (W:List Rep)(t:Int)(q:Nat):Bool:=decide ((rAt W q).arrived≤t)
def thF (W:List Rep)(t:Int)(i q:Nat):Bool:=decide (q<i)&&thG W t q
def suG (W:List Rep)(t:Int)(q:Nat):Bool:=sureB W t (rAt W q)
def suF (W:List Rep)(t:Int)(i q:Nat):Bool:=decide (q<i)&&suG W t q
def oth (W:List Rep)(t:Int)(i k:Nat):Bool:=(((k:Int) != (i:Int))&&thG W t k&&((rAt W k).source==(rAt W i).source))&&((rAt W k).number==(rAt W i).number)
def inS (W:List Rep)(t:Int)(i k:Nat):Bool:=thG W t i&&(List.range k).all fun q=>!oth W t i q
def cnG (W:List Rep)(t:Int)(q:Nat):Bool:=pB W t (rAt W q)
def cnF (W:List Rep)(t:Int)(n d q:Nat):Bool:=decide (n≤q+d)&&cnG W t q
def voi (W:List Rep)(t:Int)(i k:Nat):Bool:=((cnG W t k&&((rAt W k).source==(rAt W i).source))&&((rAt W k).kind==4))&&((rAt W k).car==(rAt W i).number)
def inC (W:List Rep)(t:Int)(i j:Nat):Bool:=suG W t i&&(List.range j).all fun x=>!voi W t i (i+1+x)

theorem inS_zero (t:Int)(i:Nat):inS W t i 0=thG W t i:=by simp[inS]
theorem inS_succ (t:Int)(i k:Nat):inS W t i (k+1)=(inS W t i k&&!oth W t i k):=by simp[inS,List.range_succ,Bool.and_assoc]
theorem inC_zero (t:Int)(i:Nat):inC W t i 0=suG W t i:=by simp[inC]
theorem inC_succ (t:Int)(i k:Nat):inC W t i (k+1)=(inC W t i k&&!voi W t i (i+1+k)):=by simp[inC,List.range_succ,Bool.and_assoc]

theorem inS_end (t:Int){i:Nat}(hi:i<W.length):inS W t i W.length=suG W t i:=by
 unfold inS suG sureB
 have e0:there t (rAt W i)=thG W t i:=rfl
 rw[e0]
 cases hth:thG W t i
 ·rfl
 ·simp only[Bool.true_and]
  have hP:(fun r=>there t r&&(r.source==(rAt W i).source&&r.number==(rAt W i).number)) W[i]=true:=by
   have h2:there t W[i]=true:=by rw[←rAt_get hi];exact hth
   simp[h2,rAt_get hi]
  have hf:=filter_one (fun r=>there t r&&(r.source==(rAt W i).source&&r.number==(rAt W i).number)) hi hP
  rw[Bool.eq_iff_iff]
  unfold named
  rw[hf,List.all_eq_true]
  constructor
  ·intro h k hk hki
   have:=h k (by simpa using hk)
   unfold oth at this
   have h3:there t W[k]=thG W t k:=by rw[←rAt_get hk];rfl
   have h4:((k:Int) != (i:Int))=true:=by simp;omega
   rw[h4,rAt_get hk] at this
   simp only[h3]
   revert this
   cases thG W t k <;> cases(W[k].source==(rAt W i).source) <;> cases(W[k].number==(rAt W i).number) <;> simp
  ·intro h k hk
   have hk':k<W.length:=by simpa using hk
   unfold oth
   by_cases hki:k=i
   ·subst hki;simp
   ·have:=h k hk' hki
    have h3:there t W[k]=thG W t k:=by rw[←rAt_get hk'];rfl
    simp only[h3] at this
    rw[rAt_get hk']
    revert this
    cases thG W t k <;> cases(W[k].source==(rAt W i).source) <;> cases(W[k].number==(rAt W i).number) <;> simp

theorem inC_end (ho:Ord W)(hl:Low W)(t:Int){i:Nat}(hi:i<W.length):inC W t i (W.length-(i+1))=cnG W t i:=by
 unfold inC cnG suG
 rw[pB_iff ho hl]
 congr 1
 rw[Bool.eq_iff_iff,List.all_eq_true]
 simp only[Bool.not_eq_true',List.any_eq_false]
 have hvoi:∀k (hk:k<W.length),voi W t i k=(pB W t W[k]&&(W[k].source==(rAt W i).source&&(W[k].kind==4&&W[k].car==(rAt W i).number))):=fun k hk=>by
  unfold voi cnG
  rw[rAt_get hk]
  simp only[Bool.and_assoc]
 constructor
 ·intro h v hv
  obtain⟨k,hk,rfl⟩:=List.mem_iff_getElem.1 hv
  rw[←hvoi k hk]
  rcases Nat.lt_or_ge i k with h1 | h1
  ·have:=h (k-(i+1)) (by simp;omega)
   rw[show i+1+(k-(i+1))=k by omega] at this
   simp[this]
  ·rw[hvoi k hk]
   simp only[Bool.and_eq_true,beq_iff_eq,not_and]
   intro _ hs h4 hc
   have hlow:=hl _ (List.getElem_mem hk) h4
   have hle:W[k].number≤(rAt W i).number:=by
    rcases Nat.lt_or_ge k i with h2 | h2
    ·rw[rAt_get hi] at hs ⊢
     exact before_num (List.pairwise_iff_getElem.1 ho k i hk hi h2) hs
    ·have e:k=i:=by omega
     subst e
     rw[rAt_get hi]
     exact Int.le_refl _
   omega
 ·intro h x hx
  have hx':x<W.length-(i+1):=by simpa using hx
  have hk:i+1+x<W.length:=by omega
  have:=h _ (List.getElem_mem hk)
  rw[←hvoi _ hk] at this
  simpa using this

theorem idx_step (W:List Rep)(t:Int)(i:Nat):(List.range (i+1)).filter (cnG W t)=(List.range i).filter (cnG W t)++if cnG W t i=true then[i] else[]:=by
 rw[List.range_succ,List.filter_append,List.filter_cons,List.filter_nil]

theorem c32 (hL:W.length≤100000)(ho:Ord W)(hl:Low W)(t:Int):FSpecR Try.prog 32 (.st bs) [.lst (W.map Rep.d),I t] (Ix (idxP W t)):=by
 obtain⟨n,hn⟩:∃n,n=W.length:=⟨_,rfl⟩
 have hr:=bl_rep (n:=n) (by omega)
 have hlen:D.lenL (.lst (W.map Rep.d))=some (In n):=by rw[hn];exact lenL_map
 refine ku32.R rfl rfl ?_
 unfold u32
 simp only[ups_cons,ups_nil,List.cons_append,List.nil_append]
 repeat' (first|(apply u_lenL;rfl;exact hlen;simp only[sbe];rfl)|(apply u_rep;rfl;exact hr;simp only[sbe];rfl)|refine u_join ?_)
 refine u_range (fun i=>[In i,bl n (thF W t i)]) (fun _=>True) n (by simp[evalAll,E.eval,bl_congr (n:=n) (g:=thF W t 0) (g':=fun _=>false) (fun q _=>by simp[thF])]) (fun _=>rfl) trivial (fun i hi _ R hR=>?_) (fun _ R=>?_)
 ·have hli:decide ((i:Int)<(n:Int))=true:=by simp;omega
  have hea:=ea_rep (W:=W) (a:=i) (by omega)
  have hset:D.set (bl n (thF W t i)) (In i) 0 (B (decide ((rAt W i).arrived≤t)))=some (bl n (thF W t (i+1))):=bl_set hi fun q hq=>by
   unfold upd thF
   by_cases h:q=i
   ·subst h;simp[thG]
   ·rw[if_neg h]
    congr 1
    rw[Bool.eq_iff_iff];simp;omega
  repeat' (first|(apply nrm;simp only[sbe];rfl)|(apply u_iteT;rfl;exact hli)|(apply u_chk;rfl)|(apply u_eaddr;rfl;rfl;exact hea;simp only[sbe];rfl)|(apply u_lenL;rfl;exact hlen;simp only[sbe];rfl)|(apply u_idx;rfl;rfl;exact bl_idx hi;simp only[sbe];rfl)|(apply u_set;rfl;rfl;rfl;exact hset;simp only[sbe];rfl)|(apply u_inc;rfl;omega;simp only[sbe];rfl)|(apply u_ev;rfl;simp only[sbe];rfl)|refine u_join ?_|(apply u_jump;rfl;rfl)|refine at_jump ?_|refine kj rfl ?_)
  exact hR trivial
 ·have hli:decide ((n:Int)<(n:Int))=false:=by simp
  rw[bl_congr (n:=n) (g:=thF W t n) (g':=thG W t) (fun q hq=>by simp[thF,hq])]
  repeat' (first|(apply nrm;simp only[sbe];rfl)|(apply u_iteF;rfl;exact hli)|(apply u_lenL;rfl;exact hlen;simp only[sbe];rfl)|(apply u_ev;rfl;simp only[sbe];rfl)|refine u_join ?_|(apply u_jump;rfl;rfl)|refine at_jump ?_|(refine over_jump (by decide) ?_)|refine kj rfl ?_)
  refine u_range (fun i=>[In i,bl n (suF W t i)]) (fun _=>True) n (by simp[evalAll,E.eval,bl_congr (n:=n) (g:=suF W t 0) (g':=fun _=>false) (fun q _=>by simp[suF])]) (fun _=>rfl) trivial (fun i hi _ R hR=>?_) (fun _ R=>?_)
  ·have hli:decide ((i:Int)<(n:Int))=true:=by simp;omega
   have hea:=ea_rep (W:=W) (a:=i) (by omega)
   have hset:D.set (bl n (suF W t i)) (In i) 0 (B (thG W t i))=some (bl n (upd (suF W t i) i (inS W t i 0))):=bl_set hi fun q hq=>by rw[inS_zero]
   repeat' (first|(apply nrm;simp only[sbe];rfl)|(apply u_iteT;rfl;exact hli)|(apply u_lenL;rfl;exact hlen;simp only[sbe];rfl)|(apply u_idx;rfl;rfl;exact bl_idx hi;simp only[sbe];rfl)|(apply u_set;rfl;rfl;rfl;exact hset;simp only[sbe];rfl)|(apply u_ev;(·exact e_ci rfl rfl (bl_idx hi));simp only[sbe];rfl)|(apply u_ev;rfl;simp only[sbe];rfl)|refine u_join ?_)
   refine u_range (fun k=>[In k,bl n (upd (suF W t i) i (inS W t i k))]) (fun _=>True) n rfl (fun _=>rfl) trivial (fun k hk _ R' hR'=>?_) (fun _ R'=>?_)
   ·have hlk:decide ((k:Int)<(n:Int))=true:=by simp;omega
    have hek:=ea_rep (W:=W) (a:=k) (by omega)
    have hst:=inS_succ (W:=W) t i k
    cases hc:oth W t i k
    ·have hc':=hc
     unfold oth at hc'
     rw[hc] at hst
     simp only[Bool.not_false,Bool.and_true] at hst
     rw[hst] at hR'
     repeat' (first|(apply nrm;simp only[sbe];rfl)|(apply u_iteT;rfl;exact hlk)|(apply u_iteF;rfl;exact hc')|(apply u_chk;rfl)|(apply u_eaddr;rfl;rfl;(·first|exact hea|exact hek);simp only[sbe];rfl)|(apply u_lenL;rfl;exact hlen;simp only[sbe];rfl)|(apply u_idx;rfl;rfl;exact bl_idx hk;simp only[sbe];rfl)|(apply u_inc;rfl;omega;simp only[sbe];rfl)|(apply u_ev;(·exact e_ci rfl rfl (bl_idx hk));simp only[sbe];rfl)|(apply u_ev;rfl;simp only[sbe];rfl)|(apply u_and;rfl)|refine u_join ?_|(apply u_jump;rfl;rfl)|refine at_jump ?_|refine kj rfl ?_|exact u_ret rfl rfl|(intro hz;(try simp only[sbs] at hz)))
     exact hR' trivial
    ·have hc':=hc
     unfold oth at hc'
     rw[hc] at hst
     simp only[Bool.not_true,Bool.and_false] at hst
     rw[hst] at hR'
     have hs2:D.set (bl n (upd (suF W t i) i (inS W t i k))) (In i) 0 (B false)=some (bl n (upd (suF W t i) i false)):=bl_set hi fun q hq=>by rw[upd_upd]
     repeat' (first|(apply nrm;simp only[sbe];rfl)|(apply u_iteT;rfl;(·first|exact hlk|exact hc'))|(apply u_chk;rfl)|(apply u_eaddr;rfl;rfl;(·first|exact hea|exact hek);simp only[sbe];rfl)|(apply u_lenL;rfl;exact hlen;simp only[sbe];rfl)|(apply u_idx;rfl;rfl;(·first|exact bl_idx hk|exact bl_idx hi);simp only[sbe];rfl)|(apply u_set;rfl;rfl;rfl;exact hs2;simp only[sbe];rfl)|(apply u_inc;rfl;omega;simp only[sbe];rfl)|(apply u_ev;(·exact e_ci rfl rfl (bl_idx hk));simp only[sbe];rfl)|(apply u_ev;rfl;simp only[sbe];rfl)|(apply u_and;rfl)|refine u_join ?_|(apply u_jump;rfl;rfl)|refine at_jump ?_|refine kj rfl ?_|exact u_ret rfl rfl|(intro hz;(try simp only[sbs] at hz)))
     exact hR' trivial
   ·have hlk:decide ((n:Int)<(n:Int))=false:=by simp
    have hend:=inS_end (W:=W) t (i:=i) (by omega)
    rw[←hn] at hend
    rw[hend,bl_congr (n:=n) (g:=upd (suF W t i) i (suG W t i)) (g':=suF W t (i+1)) (fun q hq=>by
     unfold upd suF
     by_cases h:q=i
     ·subst h;simp
     ·rw[if_neg h]
      congr 1
      rw[Bool.eq_iff_iff];simp;omega)]
    repeat' (first|(apply nrm;simp only[sbe];rfl)|(apply u_iteF;rfl;exact hlk)|(apply u_lenL;rfl;exact hlen;simp only[sbe];rfl)|(apply u_inc;rfl;omega;simp only[sbe];rfl)|(apply u_ev;rfl;simp only[sbe];rfl)|(apply u_jump;rfl;rfl)|refine at_jump ?_|(refine over_jump (by decide) ?_)|refine kj rfl ?_)
    exact hR trivial
  ·have hli:decide ((n:Int)<(n:Int))=false:=by simp
   rw[bl_congr (n:=n) (g:=suF W t n) (g':=suG W t) (fun q hq=>by simp[suF,hq])]
   repeat' (first|(apply nrm;simp only[sbe];rfl)|(apply u_iteF;rfl;exact hli)|(apply u_lenL;rfl;exact hlen;simp only[sbe];rfl)|(apply u_rep;rfl;exact hr;simp only[sbe];rfl)|(apply u_sub;rfl;rfl;omega;simp only[sbe];rfl)|(apply u_ev;rfl;simp only[sbe];rfl)|refine u_join ?_|(apply u_jump;rfl;rfl)|refine at_jump ?_|(refine over_jump (by decide) ?_)|refine kj rfl ?_)
   refine u_range (fun d=>[I ((n:Int)-1-(d:Int)),bl n (cnF W t n d)]) (fun _=>True) n (by simp[evalAll,E.eval,bl_congr (n:=n) (g:=cnF W t n 0) (g':=fun _=>false) (fun q hq=>by simp[cnF];omega)]) (fun _=>rfl) trivial (fun d hd _ R hR=>?_) (fun _ R=>?_)
   ·obtain⟨i,hi⟩:∃i,i=n-1-d:=⟨_,rfl⟩
    have e1:(n:Int)-1-(d:Int)=(i:Int):=by omega
    have e2:(n:Int)-1-((d+1:Nat):Int)=(i:Int)-1:=by omega
    simp only[e2] at hR
    simp only[e1]
    have hin:i<n:=by omega
    have hli:decide ((i:Int)≥0)=true:=by simp
    have hea:=ea_rep (W:=W) (a:=i) (by omega)
    have hset:D.set (bl n (cnF W t n d)) (In i) 0 (B (suG W t i))=some (bl n (upd (cnF W t n d) i (inC W t i 0))):=bl_set hin fun q hq=>by rw[inC_zero]
    repeat' (first|(apply nrm;simp only[sbe];rfl)|(apply u_iteT;rfl;exact hli)|(apply u_idx;rfl;rfl;exact bl_idx hin;simp only[sbe];rfl)|(apply u_set;rfl;rfl;rfl;exact hset;simp only[sbe];rfl)|(apply u_inc;rfl;omega;simp only[sbe];rfl)|(apply u_ev;(·exact e_ci rfl rfl (bl_idx hin));simp only[sbe];rfl)|(apply u_ev;rfl;simp only[sbe];rfl)|refine u_join ?_)
    refine u_range (fun k=>[In (i+1+k),bl n (upd (cnF W t n d) i (inC W t i k))]) (fun _=>True) (n-(i+1)) rfl (fun _=>rfl) trivial (fun k hk _ R' hR'=>?_) (fun _ R'=>?_)
    ·have hlk:decide (((i+1+k:Nat):Int)<(n:Int))=true:=by simp;omega
     have hkn:i+1+k<n:=by omega
     have hek:=ea_rep (W:=W) (a:=i+1+k) (by omega)
     have hst:=inC_succ (W:=W) t i k
     have hix:D.idx (bl n (upd (cnF W t n d) i (inC W t i k))) (In (i+1+k))=some (B (cnG W t (i+1+k))):=by
      rw[bl_idx hkn]
      unfold upd cnF
      rw[if_neg (by omega),decide_eq_true (by omega),Bool.true_and]
     cases hc:voi W t i (i+1+k)
     ·have hc':=hc
      unfold voi at hc'
      rw[hc] at hst
      simp only[Bool.not_false,Bool.and_true] at hst
      rw[hst] at hR'
      repeat' (first|(apply nrm;simp only[sbe];rfl)|(apply u_iteT;rfl;exact hlk)|(apply u_iteF;rfl;exact hc')|(apply u_chk;rfl)|(apply u_eaddr;rfl;rfl;(·first|exact hea|exact hek);simp only[sbe];rfl)|(apply u_lenL;rfl;exact hlen;simp only[sbe];rfl)|(apply u_idx;rfl;rfl;exact hix;simp only[sbe];rfl)|(apply u_inc;rfl;omega;simp only[sbe];rfl)|(apply u_ev;exact e_ci rfl rfl hix;simp only[sbe];rfl)|(apply u_ev;rfl;simp only[sbe];rfl)|(apply u_and;rfl)|refine u_join ?_|(apply u_jump;rfl;rfl)|refine at_jump ?_|refine kj rfl ?_|exact u_ret rfl rfl|(intro hz;(try simp only[sbs] at hz)))
      exact hR' trivial
     ·have hc':=hc
      unfold voi at hc'
      rw[hc] at hst
      simp only[Bool.not_true,Bool.and_false] at hst
      rw[hst] at hR'
      have hs2:D.set (bl n (upd (cnF W t n d) i (inC W t i k))) (In i) 0 (B false)=some (bl n (upd (cnF W t n d) i false)):=bl_set hin fun q hq=>by rw[upd_upd]
      repeat' (first|(apply nrm;simp only[sbe];rfl)|(apply u_iteT;rfl;(·first|exact hlk|exact hc'))|(apply u_chk;rfl)|(apply u_eaddr;rfl;rfl;(·first|exact hea|exact hek);simp only[sbe];rfl)|(apply u_lenL;rfl;exact hlen;simp only[sbe];rfl)|(apply u_idx;rfl;rfl;(·first|exact hix|exact bl_idx hin);simp only[sbe];rfl)|(apply u_set;rfl;rfl;rfl;exact hs2;simp only[sbe];rfl)|(apply u_inc;rfl;omega;simp only[sbe];rfl)|(apply u_ev;exact e_ci rfl rfl hix;simp only[sbe];rfl)|(apply u_ev;rfl;simp only[sbe];rfl)|(apply u_and;rfl)|refine u_join ?_|(apply u_jump;rfl;rfl)|refine at_jump ?_|refine kj rfl ?_|exact u_ret rfl rfl|(intro hz;(try simp only[sbs] at hz)))
      exact hR' trivial
    ·have hlk:decide (((i+1+(n-(i+1)):Nat):Int)<(n:Int))=false:=by simp;omega
     have hend:=inC_end (W:=W) ho hl t (i:=i) (by omega)
     rw[←hn] at hend
     rw[hend,bl_congr (n:=n) (g:=upd (cnF W t n d) i (cnG W t i)) (g':=cnF W t n (d+1)) (fun q hq=>by
      unfold upd cnF
      by_cases h:q=i
      ·subst h;simp;omega
      ·rw[if_neg h]
       congr 1
       rw[Bool.eq_iff_iff];simp;omega)]
     repeat' (first|(apply nrm;simp only[sbe];rfl)|(apply u_iteF;rfl;exact hlk)|(apply u_lenL;rfl;exact hlen;simp only[sbe];rfl)|(apply u_sub;rfl;rfl;omega;simp only[sbe];rfl)|(apply u_ev;rfl;simp only[sbe];rfl)|(apply u_jump;rfl;rfl)|refine at_jump ?_|(refine over_jump (by decide) ?_)|refine kj rfl ?_)
     exact hR trivial
   ·have hli:decide ((n:Int)-1-(n:Int)≥0)=false:=by simp;omega
    rw[bl_congr (n:=n) (g:=cnF W t n n) (g':=cnG W t) (fun q hq=>by simp[cnF])]
    repeat' (first|(apply nrm;simp only[sbe];rfl)|(apply u_iteF;rfl;exact hli)|(apply u_ev;rfl;simp only[sbe];rfl)|refine u_join ?_|(apply u_jump;rfl;rfl)|refine at_jump ?_|(refine over_jump (by decide) ?_)|refine kj rfl ?_)
    refine u_range (fun i=>[Ix ((List.range i).filter (cnG W t)),In i]) (fun _=>True) n rfl (fun _=>rfl) trivial (fun i hi _ R hR=>?_) (fun _ R=>?_)
    ·have hli:decide ((i:Int)<(n:Int))=true:=by simp;omega
     have hst:=idx_step W t i
     have hfl:((List.range i).filter (cnG W t)).length≤1000000:=by
      have:=List.length_filter_le (cnG W t) (List.range i)
      rw[List.length_range] at this
      omega
     have happ:=app_ix (x:=i) hfl
     cases hc:cnG W t i
     ·rw[hc,if_neg (by decide),List.append_nil] at hst
      have hix:D.idx (bl n (cnG W t)) (In i)=some (B false):=by rw[bl_idx hi,hc]
      rw[hst] at hR
      repeat' (first|(apply nrm;simp only[sbe];rfl)|(apply u_iteT;rfl;exact hli)|(apply u_iteF;rfl;exact rfl)|(apply u_lenL;rfl;exact hlen;simp only[sbe];rfl)|(apply u_idx;rfl;rfl;exact hix;simp only[sbe];rfl)|(apply u_inc;rfl;omega;simp only[sbe];rfl)|(apply u_ev;exact e_ci rfl rfl hix;simp only[sbe];rfl)|(apply u_ev;rfl;simp only[sbe];rfl)|refine u_join ?_|(apply u_jump;rfl;rfl)|refine at_jump ?_|refine kj rfl ?_)
      exact hR trivial
     ·rw[hc,if_pos rfl] at hst
      have hix:D.idx (bl n (cnG W t)) (In i)=some (B true):=by rw[bl_idx hi,hc]
      rw[hst] at hR
      repeat' (first|(apply nrm;simp only[sbe];rfl)|(apply u_iteT;rfl;(·first|exact hli|exact rfl))|(apply u_lenL;rfl;exact hlen;simp only[sbe];rfl)|(apply u_idx;rfl;rfl;exact hix;simp only[sbe];rfl)|(apply u_app;rfl;rfl;exact happ;simp only[sbe];rfl)|(apply u_inc;rfl;omega;simp only[sbe];rfl)|(apply u_ev;exact e_ci rfl rfl hix;simp only[sbe];rfl)|(apply u_ev;rfl;simp only[sbe];rfl)|refine u_join ?_|(apply u_jump;rfl;rfl)|refine at_jump ?_|refine kj rfl ?_)
      exact hR trivial
    ·have hli:decide ((n:Int)<(n:Int))=false:=by simp
     repeat' (first|(apply nrm;simp only[sbe];rfl)|(apply u_iteF;rfl;exact hli)|(apply u_lenL;rfl;exact hlen;simp only[sbe];rfl)|(apply u_ev;rfl;simp only[sbe];rfl)|(apply u_jump;rfl;rfl)|refine at_jump ?_|(refine over_jump (by decide) ?_)|refine kj rfl ?_|(apply u_ret;rfl;first|exact rfl|(refine retB ?_)|(refine retI ?_)|(refine retD ?_)))
     rw[hn]
     rfl

end Go.Am.Wr

/-
 The specification: quarrels.
-/
namespace Go.Am.Wr
open Go.Proofs
set_option maxRecDepth 100000
set_option maxHeartbeats 4000000

attribute [local irreducible] inR

variable {bs:List D} {n:Nat} {f:Fld} {ss:List Src} {W:List Rep}

def telB (car:Int)(r:Rep):Bool:=r.car==car&&(r.kind==1||r.kind==2)
def quC (ss:List Src)(least:List Int)(W:List Rep)(car:Int)(x y:Nat):Bool:=(telB car (rAt W x)&&telB car (rAt W y))&&quK ss least (rAt W x) (rAt W y)

def rqO (ss:List Src)(least:List Int)(W:List Rep)(car:Int)(L:List Nat)(i:Nat):List (Nat×Nat):=((List.range i).filterMap (L[·]?)).flatMap fun x=>((L.filter fun y=>decide (x<y)&&quC ss least W car x y)).map fun y=>(x,y)

def rqI (ss:List Src)(least:List Int)(W:List Rep)(car:Int)(L:List Nat)(i j:Nat):List (Nat×Nat):=(((L.drop (i+1)).take j).filter (quC ss least W car (L.getD i 0))).map fun y=>(L.getD i 0,y)

theorem ix_get {L:List Nat}{i:Nat}(h:i<L.length):D.eaddr 1 (Ix L) (In i)=some (.ptr [In L[i]]):=eaddr_get h rfl

def RKs (n:Nat)(ss:List Src)(W:List Rep)(L:List Nat):Prop:=∀i,i∈L→i<W.length∧((rAt W i).kind≠4→ROk n ss (rAt W i))

end Go.Am.Wr

/-
 The specification: what is known of a car.
-/
namespace Go.Am.Wr
open Go.Proofs
set_option maxRecDepth 100000
set_option maxHeartbeats 8000000

attribute [local irreducible] inR

/-! ## the store -/

def ks (n:Nat)(g:Nat→Kn):List D:=[.blk 62 6 (((List.range n).map g).flatMap Kn.cs)]

section
variable {n p:Nat} {g:Nat→Kn}

theorem ks_congr {g':Nat→Kn}(h:∀q,q<n→g q=g' q):ks n g=ks n g':=by
 have e:(List.range n).map g=(List.range n).map g':=List.map_congr_left fun q hq=>h q (by simpa using hq)
 unfold ks
 rw[e]
end

section
variable {ss:List Src} {least:List Int} {rs:List Rep} {r:Rep} {n:Nat}

def g2 (ss:List Src)(rs:List Rep)(q:Nat):Kn:=⟨low0 ss rs q,high0 ss rs q,passedB rs q,false,false,false⟩
def gM (ss:List Src)(rs:List Rep)(r:Rep)(j q:Nat):Kn:=⟨low0 ss (rs++[r]) q,high0 ss (rs++[r]) q,passedB rs q||decide (q<j),false,false,false⟩
def loP (ss:List Src)(least:List Int)(rs:List Rep)(i q:Nat):Kn:={ loG ss least rs i q with passed:=passedB rs q }
def hiP (ss:List Src)(least:List Int)(n:Nat)(rs:List Rep)(d q:Nat):Kn:={ hiG ss least n rs d q with passed:=passedB rs q }
def fiP (ss:List Src)(least:List Int)(n:Nat)(rs:List Rep)(i q:Nat):Kn:=if q<i then knAt ss least n rs q else hiP ss least n rs (n-1) q

theorem loP_zero (q:Nat):g2 ss rs q=loP ss least rs 0 q:=by
 have:=congrFun (loG_zero (ss:=ss) (least:=least) (rs:=rs)) q
 unfold loP
 rw[←this]
 rfl
theorem loP_step (i q:Nat):upd (loP ss least rs i) (i+1) ⟨lowF least (low0 ss rs) (i+1),high0 ss rs (i+1),passedB rs (i+1),false,false,false⟩ q=loP ss least rs (i+1) q:=by
 have:=congrFun (loG_step (ss:=ss) (least:=least) (rs:=rs) i) q
 unfold loP
 rw[←this]
 unfold upd
 by_cases h:q=i+1
 ·subst h;simp
 ·rw[if_neg h,if_neg h]
theorem hiP_zero {q:Nat}(h:q<n):loP ss least rs (n-1) q=hiP ss least n rs 0 q:=by
 have:=hiG_zero (ss:=ss) (least:=least) (rs:=rs) h
 unfold loP hiP
 rw[this]
theorem hiP_step {d i:Nat}(hd2:d<n-1)(hi:i+1<n)(hd:i=n-1-(d+1)){q:Nat}(hq:q<n):upd (hiP ss least n rs d) i ⟨lowF least (low0 ss rs) i,highF least (high0 ss rs) (n-1) (d+1),passedB rs i,false,false,false⟩ q=hiP ss least n rs (d+1) q:=by
 have:=hiG_step (ss:=ss) (least:=least) (rs:=rs) hd2 hi hd hq
 unfold hiP
 rw[←this]
 unfold upd
 by_cases h:q=i
 ·subst h;simp
 ·rw[if_neg h,if_neg h]
theorem fiP_at (i:Nat):fiP ss least n rs i i=⟨lowF least (low0 ss rs) i,highF least (high0 ss rs) (n-1) (n-1-i),passedB rs i,false,false,false⟩:=by
 unfold fiP hiP hiG
 rw[if_neg (by omega),if_pos (by omega)]
theorem fiP_step (i q:Nat):upd (fiP ss least n rs i) i (knAt ss least n rs i) q=fiP ss least n rs (i+1) q:=by
 unfold upd fiP
 by_cases h:q=i
 ·subst h
  rw[if_pos rfl,if_pos (by omega)]
 ·rw[if_neg h]
  by_cases h2:q<i
  ·rw[if_pos h2,if_pos (by omega)]
  ·rw[if_neg h2,if_neg (by omega)]
theorem knAt_eq (i:Nat):knAt ss least n rs i=⟨lowF least (low0 ss rs) i,highF least (high0 ss rs) (n-1) (n-1-i),passedB rs i,((i:Int)==outAt n rs),
  (passedB rs i&&!trustB ss rs i)||(decide (lowF least (low0 ss rs) i > highF least (high0 ss rs) (n-1) (n-1-i))||(passedB rs i&&decide (outAt n rs<(i:Int)))),
  decide (lowF least (low0 ss rs) i > highF least (high0 ss rs) (n-1) (n-1-i))||(passedB rs i&&decide (outAt n rs<(i:Int)))⟩:=by
 unfold knAt
 simp only[Kn.mk.injEq,true_and]
 refine⟨?_,trivial⟩
 cases h:(i:Int)==outAt n rs with
 | true=>simp at h;simp[h]
 | false=>simp at h;simp[h]
end

abbrev xS31:E:=.fstsl (.sym 5) (.rep 24 (.cell 1 (.sym 0)) (.agg [(.v (.int .i64 0)),(.v (.int .i64 0)),(.v (.bool false)),(.v (.bool false)),(.v (.bool false)),(.v (.bool false))]))
abbrev xN31:E:=.newv 62 6 (.sym 5) (.rep 24 (.cell 1 (.sym 0)) (.agg [(.v (.int .i64 0)),(.v (.int .i64 0)),(.v (.bool false)),(.v (.bool false)),(.v (.bool false)),(.v (.bool false))]))

section
variable {env:List D} {cars:Int} {n:Nat} {least:List Int}

theorem rep31 (h:n≤100):D.rep 24 (In n) K0.d=some (.lst (List.replicate n K0.d)):=by
 simp only[D.rep,Int.toNat_natCast]
 rw[if_pos]
 refine⟨by omega,by omega,?_⟩
 simp[maxLen]
 omega

theorem e_rep {x:E}{k:Nat}{d0 dx d:D}(hx:x.eval env=some dx)(h:D.rep k dx d0=some d):(E.rep k x d0).eval env=some d:=by simp only[E.eval,hx,Option.bind_some,h]
theorem e_ea {x y:E}{k:Nat}{dx dy d:D}(hx:x.eval env=some dx)(hy:y.eval env=some dy)(h:D.eaddr k dx dy=some d):(E.eaddr k x y).eval env=some d:=by simp only[E.eval,hx,hy,Option.bind_some,h]
theorem e_tc {x y:E}{dx d:D}{ds:List D}(hx:x.eval env=some dx)(hy:y.eval env=some (.tup ds))(h:D.tcons dx (.tup ds)=some d):(E.tcons x y).eval env=some d:=by simp only[E.eval,hx,hy,Option.bind_some,h]

theorem e_c1 (h0:env[0]? = some (Fld.d ⟨cars,(n:Int),least⟩)):(E.cell 1 (.sym 0)).eval env=some (In n):=by simp[E.eval,h0];rfl

theorem e_n31 (h0:env[0]? = some (Fld.d ⟨cars,(n:Int),least⟩))(h5:env[5]? = some (.st []))(h:n≤100):xN31.eval env=some (.st (ks n fun _=>K0)):=by
 refine e_newv h5 (e_rep (e_c1 h0) (rep31 h)) ?_
 simp only[D.newv]
 rw[if_pos,cells_rep Kn.cs K0 n rfl]
 ·rfl
 constructor
 ·simp[allCells,Kn.d,Kn.cs,D.cells]
 ·rw[cells_rep Kn.cs K0 n rfl,List.all_eq_true]
  intro d hd
  obtain⟨x,hx,hd⟩:=List.mem_flatMap.1 hd
  obtain⟨_,_,rfl⟩:=List.mem_map.1 hx
  simp[Kn.cs,K0] at hd
  rcases hd with rfl | rfl | rfl | rfl | rfl | rfl <;> rfl
end

def ofL (W:List Rep)(car:Int)(L:List Nat):List Rep:=(L.map (rAt W)).filter (okC car)

end Go.Am.Wr

/-
 The specification: On,Time;what it tells of a log.
-/
namespace Go.Am.Wr
open Go.Proofs
set_option maxRecDepth 100000
set_option maxHeartbeats 4000000

attribute [local irreducible] inR

variable {bs:List D} {n j:Nat} {f:Fld} {ss:List Src} {W rs:List Rep}

theorem evN0 {env:List D}:evalAll env []=some []:=rfl
theorem evNc {env:List D}{x:E}{xs:List E}{d:D}{ds:List D}(hx:x.eval env=some d)(hd:d.noid=true)(h:evalAll env xs=some ds):evalAll env (E.m4 .noids x .nil .nil .nil :: xs)=some (d :: ds):=by
 simp only[evalAll,ev_noids hx hd,h,Option.bind_some,Option.map_some]

theorem noid_Ix (L:List Nat):(Ix L).noid=true:=by
 simp only[D.noid]
 exact noid_map (fun _=>rfl) L
theorem noid_I (x:Int):(I x).noid=true:=rfl
theorem noid_kns (l:List Kn):(D.lst (l.map Kn.d)).noid=true:=by
 simp only[D.noid]
 exact noid_map (fun _=>rfl) l
theorem noid_qs (l:List (Nat×Nat)):(D.lst (l.map qD)).noid=true:=by
 simp only[D.noid]
 exact noid_map (fun _=>rfl) l

theorem idxP_lt {W:List Rep}{t:Int}{i:Nat}(h:i∈idxP W t):i<W.length:=by
 unfold idxP at h
 simpa using(List.mem_filter.1 h).1

structure WOk (n:Nat)(f:Fld)(ss:List Src)(W:List Rep):Prop where
 fok:FOk n f.least ss
 pl:f.places=(n:Int)
 cars:1≤f.cars∧f.cars≤200
 ord:Ord W
 right:∀r,r∈W→rightB f ss r=true
 len:W.length≤3000

theorem WOk.low (h:WOk n f ss W):Low W:=fun r hr hk=>by
 have:=right_bd (h.right r hr)
 omega

theorem WOk.rok (h:WOk n f ss W){r:Rep}(hr:r∈W)(hk:r.kind≠4):ROk n ss r:=by
 have:=right_bd (h.right r hr)
 have hp:=h.pl
 exact⟨this.1,by omega,by omega,by omega⟩

theorem WOk.carok (h:WOk n f ss W){t car:Int}:∀r,r∈ofCar W t car→ROk n ss r:=fun r hr=>by
 obtain⟨h1,h2,h3,h4⟩:=mem_car.1 hr
 exact h.rok h1 h3

theorem c32W (h:WOk n f ss W)(t:Int):FSpecR Try.prog 32 (.st bs) [.lst (W.map Rep.d),I t] (Ix (idxP W t)):=c32 (by have:=h.len;omega) h.ord h.low t

end Go.Am.Wr
