/-
  Several texts, one behind the other.
-/
import Derived.Test.YthkepocejfghcaaGreatAmPuretoAmDraw3
import Derived.Defers
import Derived.Lib.SliceRun
import Derived.WalkSpells
import Derived.Test.YthkepocejfghcaaGreatAmBasetoAmTok
import Derived.LoopN
set_option linter.unusedSimpArgs false
set_option linter.unusedVariables false
namespace Go.Am
section
noncomputable section

section
variable {P:Program} {ops:Array Oper} {R:List Rec} {σ:af} {w0:World} {X:kG} {env:List D}

structure ZX (P:Program)(ops:Array Oper)(R:List Rec)(σ:af)(env:List D)(i:Nat)(o:Oper)(r:Rec):Prop where
 at_:R[i]? = some r
 eu:oe P ops o (lex ops R σ i) r.ix=some r.eu
 seen:r.seen=ug ops o (lex ops R σ i)
 bind:cn P env r.ix r.eu.bind
 ix:r.ix≤env.length
 alt:∃ys,QD P ops R σ (lF ops.toList []) i=some ys∧∀y,y∈ys→∃d,y.eval env=some d

theorem sV (h:qt ops R σ=true){i:Nat}{o:Oper}{r:Rec}(ho:ops[i]? = some o)(hr:R[i]? = some r) :
  (∀e,e∈o.after→Region.binds .any e=true→e.on<i)∧qB σ o=true∧(jL o=true→∀u,r.eu.eM=some u→u.1=bN∨Qck σ u.1) ∧
  ∀(j:Nat) (oj:Oper) (rj:Rec),j<i→ops[j]? = some oj→R[j]? = some rj→(xQ ops oj o rj r=true→nP ops oj o rj r=false→((lF ops.toList []).getD i 0).testBit j=true)∧(jL o=true→∀u,r.eu.eM=some u→u.1=bN∨rj.cR u.1=false):=by
 have hi:=(Array.getElem?_eq_some_iff.1 ho).1
 unfold qt at h
 rw[Bool.and_eq_true] at h
 replace h:=h.2
 have h:=List.all_eq_true.1 h i (List.mem_range.2 hi)
 unfold ad4 at h
 rw[ho,hr] at h
 simp only[Bool.and_eq_true,List.all_eq_true,List.mem_range] at h
 obtain⟨⟨⟨h1,h2⟩,h3⟩,h4⟩:=h
 refine⟨fun e he hb=>?_,h2,fun hn u hu=>?_,fun j oj rj hj pq rR=>?_⟩
 ·have:=Array.all_eq_true'.1 h1 e he
  simpa[hb] using this
 ·rw[hn,hu] at h3
  simpa[Qck] using h3
 ·have:=h4 j hj
  rw[pq,rR] at this
  simp only[Uc,Bool.and_eq_true,Bool.or_eq_true,Bool.not_eq_true'] at this
  refine⟨fun hc hs=>by rw[hc,hs] at this;simpa using this.1,fun hn u hu=>?_⟩
  have:=this.2
  rw[hn,hu] at this
  simpa using this

theorem SA {oj oi:Oper}{rj ri:Rec}{t:Tmp}(hd:oj.dst=some t)(ht:t∈oi.looksAt ops):xQ ops oj oi rj ri=true:=by
 have:oj.apart ops oi=false:=by
  rw[←Bool.not_eq_true]
  intro h
  exact(Oper.apart_spec h).1 t hd ht
 simp[xQ,this]

theorem OW {oj oi:Oper}{rj ri:Rec}{t:Tmp}(hd:oi.dst=some t)(ht:t∈oj.looksAt ops):xQ ops oj oi rj ri=true:=by
 have:oj.apart ops oi=false:=by
  rw[←Bool.not_eq_true]
  intro h
  exact(Oper.apart_spec h).2.2 t hd ht
 simp[xQ,this]

theorem L6 {oj oi:Oper}{rj ri:Rec}{t:Tmp}(hd:oj.dst=some t)(ht:oi.dst=some t):xQ ops oj oi rj ri=true:=by
 have:oj.apart ops oi=false:=by
  rw[←Bool.not_eq_true]
  intro h
  exact(Oper.apart_spec h).2.1 t hd ht
 simp[xQ,this]

theorem zo {oj oi:Oper}{rj ri:Rec}{ob:Nat}(hu:ob∈rj.eu.targets)(ht:ri.cR ob=true):xQ ops oj oi rj ri=true:=by
 have:rj.eu.targets.any ri.cR=true:=List.any_eq_true.2 ⟨ob,hu,ht⟩
 simp[xQ,this]

theorem v7 {oj oi:Oper}{rj ri:Rec}{ob:Nat}(hu:ob∈ri.eu.targets)(ht:rj.cR ob=true):xQ ops oj oi rj ri=true:=by
 have:ri.eu.targets.any rj.cR=true:=List.any_eq_true.2 ⟨ob,hu,ht⟩
 simp[xQ,this]

theorem Qcj {r:Rec}{sv:SV}{ob:Nat}(h:sv∈r.seen)(ha:sv.aT ob=false):r.cR ob=true:=by
 have:r.seen.any (fun sv=>!sv.aT ob)=true:=List.any_eq_true.2 ⟨sv,h,by simp[ha]⟩
 simp[Rec.cR,this]

theorem qi {r:Rec}{ob:Nat}(h:ob∈r.eu.targets):r.cR ob=true:=by
 simp[Rec.cR,h]

theorem wY {e:j5}{u:Nat×bl}(h:e.eM=some u):u.1∈e.targets:=by simp[j5.targets,h]

theorem nG {j:Nat}{t:Tmp}(h:mW ops j=some t):∃o,ops[j]? = some o∧o.dst=some t:=Option.bind_eq_some_iff.1 h

theorem sU {D:Nat→Bool} (hD:jU ops D) {i:Nat} {o:Oper} (ho:ops[i]? = some o) (hi:D i=false)
  (ha:∀e,e∈o.after→Region.binds .any e=true→D e.on=true) {j:Nat} {oj:Oper} (pq:ops[j]? = some oj) (h1:j<i→((lF ops.toList []).getD i 0).testBit j=true) (h2:i<j→((lF ops.toList []).getD j 0).testBit i=true):D j=decide (j<i):=by
 rcases Nat.lt_trichotomy j i with h | h | h
 ·rw[xo hD ho ha (h1 h)]
  simp[h]
 ·subst h;rw[hi];simp
 ·have hm:=h2 h
  have:D j=false:=by
   rw[←Bool.not_eq_true]
   intro IX
   have:=xo hD pq (hD j oj IX pq) hm
   rw[hi] at this
   cases this
  rw[this];simp;omega

theorem Nh (hok:qt ops R σ=true) {D:Nat→Bool} (hD:jU ops D) {i:Nat} {o:Oper} {r:Rec} (ho:ops[i]? = some o) (hr:R[i]? = some r) (hi:D i=false)
  (ha:∀e,e∈o.after→Region.binds .any e=true→D e.on=true) {j:Nat} {oj:Oper} {rj:Rec} (pq:ops[j]? = some oj) (rR:R[j]? = some rj) (hc:(xQ ops oj o rj r=true∧nP ops oj o rj r=false)∧xQ ops o oj r rj=true∧nP ops o oj r rj=false):D j=decide (j<i):=
 sU hD ho hi ha pq (fun h=>(sV hok ho hr).2.2.2 j oj rj h pq rR |>.1 hc.1.1 hc.1.2) fun h=>(sV hok pq rR).2.2.2 i o r h ho hr |>.1 hc.2.1 hc.2.2

theorem sG {oj oi:Oper}{rj ri:Rec}(h:oj.apart ops oi=false):nP ops oj oi rj ri=false:=by simp[nP,h]

theorem Fi {oj oi:Oper}{t:Tmp}(hd:oj.dst=some t)(ht:t∈oi.looksAt ops):oj.apart ops oi=false:=by
 rw[←Bool.not_eq_true]
 intro h
 exact(Oper.apart_spec h).1 t hd ht

theorem B4 {oj oi:Oper}{t:Tmp}(hd:oi.dst=some t)(ht:t∈oj.looksAt ops):oj.apart ops oi=false:=by
 rw[←Bool.not_eq_true]
 intro h
 exact(Oper.apart_spec h).2.2 t hd ht

theorem wg {oj oi:Oper}{t:Tmp}(hd:oj.dst=some t)(ht:oi.dst=some t):oj.apart ops oi=false:=by
 rw[←Bool.not_eq_true]
 intro h
 exact(Oper.apart_spec h).2.1 t hd ht

theorem PI {oj oi:Oper}{rj ri:Rec}{ob:Nat}(h:ob∈rj.eu.targets)(hne:ob≠bN):nP ops oj oi rj ri=false∧nP ops oi oj ri rj=false:=by
 have h1:rj.reader=false:=by
  rw[←Bool.not_eq_true];intro hr
  rw[mA hr] at h;cases h
 have h2:rj.sF=false:=by
  rw[←Bool.not_eq_true];intro hr
  rw[C5 hr] at h;simp at h;exact hne h
 simp[nP,h1,h2]

theorem TS {oj oi:Oper}{rj ri:Rec}{ob ob':Nat}(h:ob∈rj.eu.targets)(h':ob'∈ri.eu.targets):nP ops oj oi rj ri=false∧nP ops oi oj ri rj=false:=by
 have h1:rj.reader=false:=by
  rw[←Bool.not_eq_true];intro hr
  rw[mA hr] at h;cases h
 have h2:ri.reader=false:=by
  rw[←Bool.not_eq_true];intro hr
  rw[mA hr] at h';cases h'
 simp[nP,h1,h2]

theorem Rr {ms:List Nat}{i j:Nat}{rj:Rec}(hj:j<ops.size)(rR:R[j]? = some rj)(hs:rj.sF=true)(hne:j≠i)(h:j∉J6 ops R ms i):(j<i→(ms.getD i 0).testBit j=true)∧(i<j→(ms.getD j 0).testBit i=true):=by
 unfold J6 at h
 rw[List.mem_filter] at h
 simp only[List.mem_range,hj,true_and,rR,hs,Bool.true_and,Bool.and_eq_true,Bool.not_eq_true',decide_eq_true_eq,Bool.and_eq_false_iff,decide_eq_false_iff_not] at h
 refine⟨fun hlt=>Classical.byContradiction fun hb=>h ⟨⟨.inr (by simpa using hb),.inl (by omega)⟩,hne⟩,fun hlt=>Classical.byContradiction fun hb=>h ⟨⟨.inl (by omega),.inr (by simpa using hb)⟩,hne⟩⟩

theorem JQ {D:Nat→Bool} (hok:qt ops R σ=true) (hF:∀(i:Nat) (o:Oper),ops[i]? = some o→∃r,ZX P ops R σ env i o r) (hD:jU ops D) {i:Nat} {o:Oper} (ho:ops[i]? = some o) (hi:D i=false)
  (ha:∀e,e∈o.after→Region.binds .any e=true→D e.on=true):∃r:Rec,cn P env r.ix r.eu.bind∧r.ix≤env.length∧nT P ops o (cH ops R D σ ops.size) r.ix=some (cH ops R (fun j=>D j||j==i) σ ops.size,r.eu.bind):=by
 obtain⟨r,f⟩:=hF i o ho
 have hin:=(Array.getElem?_eq_some_iff.1 ho).1
 obtain⟨_,ig,hfr,Qj⟩:=sV hok ho f.at_
 have gp:∀(j:Nat),j<ops.size→∃oj rj,ops[j]? = some oj∧R[j]? = some rj:=fun j hj=>by
  obtain⟨rj,fj⟩:=hF j ops[j] (Array.getElem?_eq_getElem hj)
  exact⟨_,rj,Array.getElem?_eq_getElem hj,fj.at_⟩
 have hdone:=fun {j:Nat} {oj:Oper} {rj:Rec}=>Nh (j:=j) (oj:=oj) (rj:=rj) hok hD ho f.at_ hi ha
 have IJ:∀t,t∈o.looksAt ops→(cH ops R D σ ops.size).tmp t=(lex ops R σ i).tmp t:=by
  intro t ht
  refine yy (Nat.le_of_lt hin) fun j hj hjt=>?_
  obtain⟨oj,pq,hdj⟩:=nG hjt
  obtain⟨rj,fj⟩:=hF j oj pq
  exact hdone pq fj.at_ ⟨⟨SA hdj ht,sG (Fi hdj ht)⟩,OW hdj ht,sG (B4 hdj ht)⟩
 have fP:∀ob,ob≠bN→r.cR ob=true→(cH ops R D σ ops.size).obj ob=(lex ops R σ i).obj ob:=by
  intro ob hne nC
  refine sN (Nat.le_of_lt hin) fun j hj N8=>?_
  obtain⟨oj,rj,pq,rR⟩:=gp j hj
  have Zk:ob∈rj.eu.targets:=by simpa[gJ,rR] using N8
  obtain⟨hs1,hs2⟩:=PI (ops:=ops) (oj:=oj) (oi:=o) (ri:=r) Zk hne
  exact hdone pq rR ⟨⟨zo Zk nC,hs1⟩,v7 Zk nC,hs2⟩
 have s7:∀t ob,t∈o.looksAt ops→((lex ops R σ i).tmp t).aT ob=false→r.cR ob=true:=fun t ob ht ox=>Qcj (sv:=(lex ops R σ i).tmp t) (by rw[f.seen];exact List.mem_append.2 (.inl (List.mem_map_of_mem ht))) ox
 have II:iq o (fun x=>((lex ops R σ i).zS x).Nu) (jv (lex ops R σ i).obj)=true→r.cR bN=true:=fun hu=>Qcj (sv:=.oc bN) (by rw[f.seen];refine List.mem_append.2 (.inr ?_);rw[hu];simp) (by simp[SV.aT])
 have Zy:OY R σ=true:=by
  unfold qt at hok
  rw[Bool.and_eq_true] at hok
  exact hok.1
 have hC:jv (cH ops R D σ ops.size).obj=jv (lex ops R σ i).obj:=(Dk Zy _).trans (Dk Zy _).symm
 have af8:cH ops R (fun j=>D j||j==i) σ ops.size=(cH ops R D σ ops.size).app o.dst r.eu:=by
  rw[Ag hi ops.size hin fun j hj hij IX=>?_]
  ·have h1:mW ops i=o.dst:=by simp[mW,ho]
   have h2:gJ R i=r.eu:=by simp[gJ,f.at_]
   rw[h1,h2]
  ·obtain⟨oj,rj,pq,rR⟩:=gp j hj
   have hno:¬((xQ ops oj o rj r=true∧nP ops oj o rj r=false)∧xQ ops o oj r rj=true∧nP ops o oj r rj=false):=by
    intro hc
    have:=hdone pq rR hc
    rw[IX] at this
    simp at this
    omega
   refine⟨fun t h1 h2=>hno ?_,fun ob h1 h2=>hno ?_⟩
   ·obtain⟨o1,MA,IT⟩:=nG h1
    obtain⟨o2,RU,hd2⟩:=nG h2
    rw[ho] at MA;rw[pq] at RU
    cases MA;cases RU
    exact⟨⟨L6 hd2 IT,sG (wg hd2 IT)⟩,L6 IT hd2,sG (wg IT hd2)⟩
   ·have JF:ob∈r.eu.targets:=by simpa[gJ,f.at_] using h1
    have hu2:ob∈rj.eu.targets:=by simpa[gJ,rR] using h2
    obtain⟨hs1,hs2⟩:=TS (ops:=ops) (oj:=oj) (oi:=o) hu2 JF
    exact⟨⟨v7 JF (qi hu2),hs1⟩,zo JF (qi hu2),hs2⟩
 have fin:∀e:j5,oe P ops o (cH ops R D σ ops.size) r.ix=some e→cn P env r.ix e.bind→e.val=r.eu.val→e.eM=r.eu.eM→e.del=r.eu.del→∃r:Rec,cn P env r.ix r.eu.bind∧r.ix≤env.length∧nT P ops o (cH ops R D σ ops.size) r.ix=some (cH ops R (fun j=>D j||j==i) σ ops.size,r.eu.bind):=by
  intro e uZ Es h1 h2 h3
  refine⟨⟨e,[],r.ix⟩,Es,f.ix,?_⟩
  have abA:cH ops R (fun j=>D j||j==i) σ ops.size=(cH ops R D σ ops.size).app o.dst e:=by
   rw[af8]
   simp only[af.app,h1,h2,h3]
  rw[abA]
  refine wG uZ ?_ fun hn u hu=>?_
  ·unfold qB at ig ⊢
   rw[(kJ ..).1]
   exact ig
  ·have hu:=h2 ▸ hu
   rcases hfr hn u hu with hH1 | hfr
   ·exact .inl hH1
   by_cases hne:u.1=bN
   ·exact .inl hne
   refine .inr (uj hfr ops.size fun j hj IX=>?_)
   obtain⟨oj,rj,pq,rR⟩:=gp j hj
   refine⟨rj,rR,?_⟩
   rcases Nat.lt_trichotomy j i with h | h | h
   ·exact((Qj j oj rj h pq rR).2 hn u hu).resolve_left hne
   ·subst h;rw[hi] at IX;cases IX
   ·rw[←Bool.not_eq_true]
    intro ht
    obtain⟨hs1,hs2⟩:=PI (ops:=ops) (oj:=o) (oi:=oj) (ri:=rj) (wY hu) hne
    have:=hdone pq rR ⟨⟨v7 (wY hu) ht,hs2⟩,zo (wY hu) ht,hs1⟩
    rw[IX] at this
    simp at this
    omega
 by_cases hkeep:r.cR bN=true→(cH ops R D σ ops.size).obj bN=(lex ops R σ i).obj bN
 ·have uZ:oe P ops o (cH ops R D σ ops.size) r.ix=some r.eu:=by
   rw[sP IJ (fun t ob ht ox=>?_) hC (fun hu=>hkeep (II hu))]
   ·exact f.eu
   ·by_cases hne:ob=bN
    ·subst hne;exact hkeep (s7 t _ ht ox)
    ·exact fP ob hne (s7 t ob ht ox)
  exact fin r.eu uZ f.bind rfl rfl rfl
 ·-- a writer of the store has aiy place
  rw[Classical.not_imp] at hkeep
  obtain⟨nC,hkeep⟩:=hkeep
  have hw:∀j,j<ops.size→bN∈(gJ R j).targets→D j=decide (j<i)∨(r.reader=true∧j∈J6 ops R (lF ops.toList []) i):=by
   intro j hj N8
   obtain⟨oj,rj,pq,rR⟩:=gp j hj
   have Zk:bN∈rj.eu.targets:=by simpa[gJ,rR] using N8
   by_cases hji:j=i
   ·subst hji;left;rw[hi];simp
   by_cases UY:r.reader=true∧rj.sF=true
   ·by_cases hm:j∈J6 ops R (lF ops.toList []) i
    ·exact .inr ⟨UY.1,hm⟩
    ·obtain⟨m1,m2⟩:=Rr hj rR UY.2 hji hm
     exact .inl (sU hD ho hi ha pq m1 m2)
   ·have Ll:rj.reader=false:=by
     rw[←Bool.not_eq_true];intro hr
     rw[mA hr] at Zk;cases Zk
    have hs:∀{o1 o2:Oper},nP ops o1 o2 rj r=false∧nP ops o2 o1 r rj=false:=by
     intro o1 o2
     have:(r.reader&&rj.sF)=false:=by
      rw[←Bool.not_eq_true,Bool.and_eq_true];exact UY
     simp only[nP,Ll,this,Bool.false_and,Bool.or_false,Bool.and_false,and_self]
    exact .inl (hdone pq rR ⟨⟨zo Zk nC,hs.1⟩,v7 Zk nC,hs.2⟩)
  have hsame:(∀j,j<ops.size→bN∈(gJ R j).targets→D j=decide (j<i))→False:=fun h=>hkeep (sN (Nat.le_of_lt hin) h)
  have Qi:r.reader=true:=by
   refine Classical.byContradiction fun hn=>hsame fun j hj N8=>?_
   exact(hw j hj N8).resolve_right fun h=>hn h.1
  obtain⟨ys,hys,cV⟩:=f.alt
  unfold QD at hys
  simp only[ho,f.at_,Qi,nC,Bool.and_self,if_true] at hys
  split at hys
  ·rename_i hs
   exact(hsame fun j hj N8=>(hw j hj N8).resolve_right fun h=>by rw[hs] at h;cases h.2).elim
  ·rename_i j0 hs
   have hD0:D j0≠decide (j0<i):=by
    intro h
    refine hsame fun j hj N8=>(hw j hj N8).elim id fun h'=>?_
    rw[hs] at h'
    have:=h'.2
    simp at this
    rw[this];exact h
   have halt:(cH ops R D σ ops.size).obj bN=Jw ops R σ i j0:=by
    refine Af ops.size fun j hj N8=>?_
    by_cases hj0:j=j0
    ·subst hj0
     cases IX:D j <;> cases hdj:decide (j<i) <;> simp_all
    ·have:D j=decide (j<i):=(hw j hj N8).resolve_right fun h=>by rw[hs] at h;simp at h;exact hj0 h.2
     show D j=(decide (j<i) != (j==j0))
     rw[this,show(j==j0)=false from by simpa using hj0]
     cases decide (j<i) <;> rfl
   split at hys
   ·rename_i e he
    split at hys
    ·rename_i hc
     simp only[Bool.and_eq_true,Option.isNone_iff_eq_none] at hc
     have hrd:=Qi
     unfold Rec.reader at hrd
     simp only[Bool.and_eq_true,Option.isNone_iff_eq_none] at hrd
     have uZ:oe P ops o (cH ops R D σ ops.size) r.ix=some e:=by
      rw[←he]
      have hH:((lex ops R σ i).setObj bN (Jw ops R σ i j0)).obj bN=Jw ops R σ i j0:=by rw[f_,if_pos (.inl rfl)]
      refine sP (fun t ht=>?_) (fun t ob ht ox=>?_) ?_ fun _=>by rw[hH];exact halt
      ·rw[af.ga];exact IJ t ht
      ·rw[af.ga] at ox
       by_cases hne:ob=bN
       ·subst hne;rw[hH];exact halt
       ·rw[ep (Ne.symm hne)];exact fP ob hne (s7 t ob ht ox)
      ·rw[iC,iC,hH,halt]
     have hb:cn P env r.ix e.bind:=by
      split at hys
      ·rename_i b a jC hba
       cases hys
       obtain⟨d,hd⟩:=cV _ (List.mem_singleton_self _)
       have h0:=f.bind
       rw[hba] at h0
       obtain⟨da,h1,h2⟩:=h0
       rw[jC]
       simp only[E.eval,h1,Option.bind_some,Option.bind_eq_some_iff] at hd
       obtain⟨db,h3,h4⟩:=hd
       simp only[Am.D.m4] at h4
       split at h4
       ·rename_i hsm
        have:=Am.D.dU hsm
        subst this
        exact⟨da,h3,h2⟩
       ·cases h4
      ·rename_i jC hba
       rw[jC];trivial
      ·cases hys
     exact fin e uZ hb (SV.dU hc.1.1) (hc.1.2.trans hrd.1.symm) (hc.2.trans hrd.2.symm)
    ·cases hys
   ·cases hys
  ·cases hys

abbrev Qbq (listed:Array Bool):Nat→Bool:=fun j=>listed.getD j false

theorem BS {p q:Nat→Bool}{i:Nat}:∀{l:List Nat},(∀j,q j=true→p j=true)→i∈l→p i=true→q i=false→l.countP q<l.countP p
 | [],_,h,_,_=>by cases h
 | j :: l,hpq,hm,hp,hq=>by
  have hle:l.countP q≤l.countP p:=List.countP_mono_left fun x _ hx=>hpq x hx
  rw[List.countP_cons,List.countP_cons]
  rcases List.mem_cons.1 hm with rfl | hm
  ·rw[hp,hq];simp;omega
  ·have ih:=BS hpq hm hp hq
   cases hqj:q j with
   | false=>cases p j <;> simp <;> omega
   | true=>rw[hpq j hqj];simp;omega

theorem F6 {rd:Option Nat} {n:Nat} {Q:Exit→Act→World→Prop} {st:(Nat→Bool)→af} (abz:∀(i:Nat) (o:Oper),ops[i]? = some o→∀e,e∈o.after→Region.binds .any e=true→e.on<i)
  (hst:∀(D:Nat→Bool) (i:Nat) (o:Oper),jU ops D→ops[i]? = some o→D i=false→(∀e,e∈o.after→Region.binds .any e=true→D e.on=true)→∃r:Rec,cn P env r.ix r.eu.bind∧r.ix≤env.length∧nT P ops o (st D) r.ix=some (st (fun j=>D j||j==i),r.eu.bind))
  (hlen:∀D,(st D).tmps.length=σ.tmps.length∧(st D).mem.length=σ.mem.length) (abq:∀D D':Nat→Bool,(∀j,j<ops.size→D j=D' j)→st D=st D') (hm:σ.mem.length=σ.tmps.length)
  (hsz:∀(j d:Nat),(ops[j]?).bind (fun(o:Oper)=>o.dst)=some d→d<σ.tmps.length) (hQ:∀a' w' ρ',cu w0 X w' a' (st fun _=>true) env ρ'→Q .normal a' w') :
  ∀(fuel:Nat) (listed:Array Bool) (a:Act) (w:World) (ρ:dJ),listed.size=ops.size→jU ops (Qbq listed)→(List.range ops.size).countP (fun j=>!Qbq listed j)≤fuel →
   cu w0 X w a (st (Qbq listed)) env ρ→wpAnyIn (FW rd) n P .any ops Q fuel listed a w:=by
 have hall:∀(listed:Array Bool),listed.size=ops.size→Region.ready .any ops listed=[]→∀j,j<ops.size→Qbq listed j=true:=by
  intro listed hs hr j
  induction j using Nat.strongRecOn with
  | _ j ih=>
   intro hj
   refine Classical.byContradiction fun hnd=>?_
   have hmem:j∈Region.ready .any ops listed:=by
    refine mem_ready.2 ⟨?_,ops[j],Array.getElem?_eq_getElem hj,fun e he hb=>?_⟩
    ·simp only[Qbq,Array.getD_eq_getD_getElem?,Array.getElem?_eq_getElem (show j<listed.size by omega),Option.getD_some] at hnd ⊢
     simpa using hnd
    ·have:=abz j ops[j] (Array.getElem?_eq_getElem hj) e he hb
     exact ih e.on this (by omega)
   rw[hr] at hmem
   cases hmem
 have hend:∀(listed:Array Bool) (a:Act) (w:World) (ρ:dJ),listed.size=ops.size→Region.ready .any ops listed=[]→cu w0 X w a (st (Qbq listed)) env ρ→Q .normal a w:=by
  intro listed a w ρ hs hr bn
  rw[abq _ (fun _=>true) fun j hj=>hall listed hs hr j hj] at bn
  exact hQ a w ρ bn
 intro fuel
 induction fuel with
 | zero=>
  intro listed a w ρ hs hD hc bn
  have wm:Region.ready .any ops listed=[]:=by
   cases hr:Region.ready .any ops listed with
   | nil=>rfl
   | cons j l=>
    have hmem:j∈Region.ready .any ops listed:=by rw[hr];simp
    obtain⟨h1,o,ho,_⟩:=mem_ready.1 hmem
    have hj:=(Array.getElem?_eq_some_iff.1 ho).1
    have hpos:0<(List.range ops.size).countP (fun j=>!Qbq listed j):=List.countP_pos_iff.2 ⟨j,List.mem_range.2 hj,by
     simp only[Qbq,Array.getD_eq_getD_getElem?,Array.getElem?_eq_getElem (show j<listed.size by omega),Option.getD_some] at h1 ⊢
     simpa using h1⟩
    omega
  exact⟨wm,hend listed a w ρ hs wm bn⟩
 | succ fuel ih=>
  intro listed a w ρ hs hD hc bn
  refine⟨fun wm=>hend listed a w ρ hs wm bn,fun i hi=>?_⟩
  obtain⟨h1,o,ho,ha⟩:=mem_ready.1 hi
  have hin:=(Array.getElem?_eq_some_iff.1 ho).1
  have mU:i<listed.size:=by omega
  have hDi:Qbq listed i=false:=by
   simp only[Qbq,Array.getD_eq_getD_getElem?,Array.getElem?_eq_getElem mU,Option.getD_some] at h1 ⊢
   exact h1
  have kY:Qbq (listed.setIfInBounds i true)=fun j=>Qbq listed j||j==i:=by
   funext j
   simp only[Qbq,Array.getD_eq_getD_getElem?,Array.getElem?_setIfInBounds]
   by_cases hij:i=j
   ·subst hij;simp[mU]
   ·have:(j==i)=false:=by simp;omega
    simp[hij,this]
  obtain⟨r,Es,cW,hstep⟩:=hst _ i o hD ho hDi ha
  have hD':jU ops (Qbq (listed.setIfInBounds i true)):=by
   rw[kY]
   intro k ok hk U9 e he hb
   simp only[Bool.or_eq_true,beq_iff_eq] at hk ⊢
   rcases hk with hk | rfl
   ·exact .inl (hD k ok hk U9 e he hb)
   ·rw[ho] at U9;cases U9
    exact .inl (ha e he hb)
  have abp:(List.range ops.size).countP (fun j=>!Qbq (listed.setIfInBounds i true) j)≤fuel:=by
   have:=BS (p:=fun j=>!Qbq listed j) (q:=fun j=>!Qbq (listed.setIfInBounds i true) j) (i:=i) (l:=List.range ops.size) (fun j hj=>by rw[kY] at hj;simp at hj ⊢;exact hj.1) (List.mem_range.2 hin) (by simp[hDi]) (by rw[kY];simp)
   omega
  have hnext:∀a' w' ρ',cu w0 X w' a' (st (fun j=>Qbq listed j||j==i)) env ρ'→wpAnyIn (FW rd) n P .any ops Q fuel (listed.setIfInBounds i true) a' w':=by
   intro a' w' ρ' hr'
   exact ih _ a' w' ρ' (by simp[hs]) hD' abp (by rw[kY];exact hr')
  have hlen:=hlen (Qbq listed)
  unfold wpOpIn
  rw[ho]
  simp only
  rcases Bj bn (by rw[hlen.1,hlen.2];exact hm) cW (fun j d hjd=>by rw[hlen.1];exact hsz j d hjd) hstep Es with⟨hw,afB⟩ | ⟨hw,ρ'',hr'⟩
  ·rw[if_pos hw]
   refine iN (Bk hstep) (afB Q) ?_
   rintro a' w' ⟨ρ',hr'⟩
   exact hnext a' w' ρ' hr'
  ·rw[if_neg (by rw[hw];simp)]
   exact⟨fun _ _=>trivial,hnext _ _ _ hr'⟩

theorem Qbv {rd:Option Nat} {n:Nat} {Q:Exit→Act→World→Prop} (hok:qt ops R σ=true) (hF:∀(i:Nat) (o:Oper),ops[i]? = some o→∃r,ZX P ops R σ env i o r) (hm:σ.mem.length=σ.tmps.length)
  (hsz:∀(j d:Nat),(ops[j]?).bind (fun(o:Oper)=>o.dst)=some d→d<σ.tmps.length) (hQ:∀a' w' ρ',cu w0 X w' a' (lex ops R σ ops.size) env ρ'→Q .normal a' w') :
  ∀(fuel:Nat) (listed:Array Bool) (a:Act) (w:World) (ρ:dJ),listed.size=ops.size→jU ops (Qbq listed)→(List.range ops.size).countP (fun j=>!Qbq listed j)≤fuel →
   cu w0 X w a (cH ops R (Qbq listed) σ ops.size) env ρ→wpAnyIn (FW rd) n P .any ops Q fuel listed a w:=
 F6 (st:=fun D=>cH ops R D σ ops.size) (fun i o ho=>by
  obtain⟨r,f⟩:=hF i o ho
  exact(sV hok ho f.at_).1) (fun D i o hD ho hi ha=>JQ hok hF hD ho hi ha) (fun D=>kJ ops R D σ ops.size) (fun D D' h=>l9 ops.size h) hm hsz hQ

end
end
end

section
noncomputable section

def oF (cf:cz)(e:j5):Option Nat:=
 match e.eM with
 | some (k,.store Qdy (.sym n))=>if k=bN∧Qdy=cf then some n else none
 | _=>none

theorem oD {cf:cz}{e:j5}{n:Nat}(h:oF cf e=some n):e.eM=some (bN,.store cf (.sym n)):=by
 unfold oF at h
 split at h
 ·rename_i k Qdy n' hu
  split at h
  ·rename_i hc
   cases h
   rw[hu,hc.1,hc.2]
  ·cases h
 ·cases h

def j5.bare (e:j5):j5:=match e.eM with | some u=>if u.1=bN then { e with eM:=none } else e | none=>e

def tO (R:List Rec):List Rec:=R.map fun r=>{ r with eu:=r.eu.bare }

structure Tg where
 i:Nat
 j:Nat
 ni:Nat
 nj:Nat
 ja:Nat

def fP (σ:af)(cf:cz)(t:Tg):Bool→Bool→Option bl
 | false,false=>σ.obj bN
 | true,false=>some (.store cf (.sym t.ni))
 | false,true=>some (.store cf (.sym t.ja))
 | true,true=>some (.store cf (.sym t.nj))

def vp (ops:Array Oper)(oj oi:Oper)(rj ri:Rec):Bool:=
 !oj.apart ops oi||rj.eu.bare.targets.any ri.cR||ri.eu.bare.targets.any rj.cR

def Ue (ops:Array Oper)(R:List Rec)(σ:af)(m i:Nat):Bool:=
 match ops[i]?,R[i]? with
 | some oi,some ri=>oi.after.all (fun e=>!Region.binds .any e||decide (e.on<i))&&qB σ oi &&
   (!jL oi||match ri.eu.eM with | some u=>decide (u.1=bN)||((σ.obj u.1).isNone&&σ.kS u.1) | none=>true) &&
   (List.range i).all fun j=>match ops[j]?,R[j]? with
    | some oj,some rj=>(!vp ops oj oi rj ri||m.testBit j)&&(!jL oi||match ri.eu.eM with | some u=>decide (u.1=bN)||!rj.cR u.1 | none=>true)
    | _,_=>true
 | _,_=>false

def HZ (R:List Rec)(cf:cz)(t:Tg):Bool:=
 decide (t.i<t.j)&&(List.range R.length).all fun k=>match R[k]? with
  | some r=>decide (r.eu.del≠some bN)&&(if k=t.i then decide (oF cf r.eu=some t.ni) else if k=t.j then decide (oF cf r.eu=some t.nj) else match r.eu.eM with
   | some u=>decide (u.1≠bN)
   | none=>true)
  | none=>true

def rG (ops:Array Oper)(R:List Rec)(σ:af)(cf:cz)(t:Tg):Bool:=
 decide (ops.size=R.length)&&decide (zy (σ.obj bN)=some cf)&&HZ R cf t&&(List.range ops.size).all fun i=>Ue ops R σ ((lF ops.toList []).getD i 0) i

def ZI (ms:List Nat)(k w:Nat):Bool:=!(decide (w<k)&&(ms.getD k 0).testBit w)&&!(decide (k<w)&&(ms.getD w 0).testBit k)

def Ja (ms:List Nat)(k w:Nat):List Bool:=if ZI ms k w then[false,true] else[decide (w<k)]

def Qdw (P:Program)(ops:Array Oper)(R:List Rec)(σ:af)(cf:cz)(t:Tg)(k:Nat)(o:Oper)(a b:Bool)(ix:Nat):Option j5:=
 oe P ops o ((lex ops R σ k).setObj bN (fP σ cf t a b)) ix

def WL (P:Program)(ops:Array Oper)(R:List Rec)(σ:af)(cf:cz)(t:Tg)(k:Nat)(o:Oper)(r:Rec)(a b:Bool):Option (List E):=
 if a=decide (t.i<k)∧b=decide (t.j<k) then some [] else match Qdw P ops R σ cf t k o a b r.ix with
 | some e=>if e.val.same r.eu.val&&e.eM.isNone&&r.eu.eM.isNone&&e.del.isNone&&r.eu.del.isNone then(match e.bind,r.eu.bind with
   | some (.ev b),some (.ev a)=>some [.m4 .same a b .nil .nil]
   | none,none=>some []
   | _,_=>none) else none
 | none=>none

def Wt:List (Option (List E))→Option (List E)
 | []=>some []
 | x :: r=>x.bind fun xs=>(Wt r).map (xs++·)

def O_ (P:Program)(ops:Array Oper)(R:List Rec)(σ:af)(cf:cz)(t:Tg)(ms:List Nat)(k:Nat):Option (List E):=
 match ops[k]?,R[k]? with
 | some o,some r=>
  if k=t.i then(match Qdw P ops R σ cf t k o false true t.nj with
   | some e=>if e.val.same r.eu.val&&decide (oF cf e=some t.nj)&&e.del.isNone&&r.eu.del.isNone then(match e.bind with
    | some (.ev b)=>some [.m4 .same b (.sym t.nj) .nil .nil]
    | _=>none) else none
   | none=>none)
  else if k=t.j then(match Qdw P ops R σ cf t k o false false t.ja with
   | some e=>if e.val.same r.eu.val&&decide (oF cf e=some t.ja)&&e.del.isNone&&r.eu.del.isNone then(match e.bind with
    | some (.ev b)=>some [.m4 .same (.sym t.ja) b .nil .nil]
    | _=>none) else none
   | none=>none)
  else if r.cR bN then Wt ((Ja ms k t.i).flatMap fun a=>(Ja ms k t.j).map fun b=>WL P ops R σ cf t k o r a b)
  else some []
 | _,_=>none

def ahw (P:Program)(ops:Array Oper)(R:List Rec)(σ:af)(cf:cz)(t:Tg):Option E:=
 match ops[t.j]? with
 | some o=>(match Qdw P ops R σ cf t t.j o false false t.ja with
  | some e=>(match e.bind with
   | some (.ev b)=>some b
   | _=>none)
  | none=>none)
 | none=>none

def adu (R:List Rec)(cf:cz)(ja:Nat):Option Tg:=
 match(List.range R.length).filterMap fun k=>(R[k]?).bind fun r=>(oF cf r.eu).map fun n=>(k,n) with
 | [(i,ni),(j,nj)]=>some ⟨i,j,ni,nj,ja⟩
 | _=>none

def CJ (P:Program)(ops:Array Oper)(R:List Rec)(σ:af)(ja:Nat):Option (List E):=
 match zy (σ.obj bN) with
 | some cf=>(adu R cf ja).bind fun t=>if rG ops R σ cf t=true then(ahw P ops R σ cf t).bind fun b=>
   (Wt ((List.range ops.size).map (O_ P ops R σ cf t (lF ops.toList [])))).map (b :: ·) else none
 | none=>none

/-! ## states -/

section
variable {P:Program} {ops:Array Oper} {R:List Rec} {σ:af} {D:Nat→Bool} {cf:cz} {t:Tg} {env:List Am.D}

theorem sj (e:j5):e.bare.val=e.val:=by
 unfold j5.bare;split
 ·split <;> rfl
 ·rfl

theorem sk (e:j5):e.bare.del=e.del:=by
 unfold j5.bare;split
 ·split <;> rfl
 ·rfl

theorem lM (e:j5):e.bare.eM=match e.eM with | some u=>if u.1=bN then none else some u | none=>none:=by
 unfold j5.bare
 split
 ·rename_i u hu
  split
  ·rfl
  ·exact hu
 ·rename_i hu;exact hu

theorem zG {e:j5}{ob:Nat}(h:ob∈e.bare.targets)(hd:e.del≠some bN):ob∈e.targets∧ob≠bN:=by
 unfold j5.targets at h ⊢
 rw[lM,sk] at h
 rcases List.mem_append.1 h with h | h
 ·cases hu:e.eM with
  | none=>rw[hu] at h;simp at h
  | some u=>
   rw[hu] at h
   by_cases hh:u.1=bN
   ·simp[hh] at h
   ·simp[hh] at h
    subst h
    exact⟨by simp,hh⟩
 ·cases hk:e.del with
  | none=>rw[hk] at h;simp at h
  | some k=>
   rw[hk] at h
   simp at h
   subst h
   exact⟨by simp,fun e=>hd (by rw[hk,e])⟩

def s4 (e:j5)(z:Option bl):Option bl:=match e.eM with | some u=>if u.1=bN then some u.2 else z | none=>z

theorem Fh {τ:af}{dst:Option Tmp}{e:j5}{z:Option bl}(hd:e.del≠some bN):(τ.setObj bN z).app dst e=(τ.app dst e.bare).setObj bN (s4 e z):=by
 have two:∀(τ:af) (x y:Option bl),(τ.setObj bN x).setObj bN y=τ.setObj bN y:=by
  intro τ x y
  simp[af.fD]
 unfold af.app s4
 rw[lM,sk,sj,Dy]
 congr 1
 cases hk:e.del with
 | none=>
  cases hu:e.eM with
  | none=>rfl
  | some u=>
   by_cases hh:u.1=bN
   ·simp only[hh,if_true,af.jM,af.sets,two]
   ·simp only[hh,if_false,af.jM,af.sets]
    exact nR _ _ _ (Ne.symm hh)
 | some k=>
  have hkk:bN≠k:=fun e=>hd (by rw[hk,e])
  cases hu:e.eM with
  | none=>
   simp only[af.jM,af.sets]
   exact nR _ _ _ hkk
  | some u=>
   simp only[af.jM]
   rw[nR _ _ _ hkk]
   by_cases hh:u.1=bN
   ·simp only[hh,if_true,af.sets,two]
   ·simp only[hh,if_false,af.sets]
    exact nR _ _ _ (Ne.symm hh)

theorem p7 (k:Nat):gJ (tO R) k=(gJ R k).bare:=by
 unfold gJ tO
 rw[List.getElem?_map]
 cases R[k]? <;> rfl

theorem l8 (σ:af):σ.setObj bN (σ.obj bN)=σ:=by
 simp[af.fD,af.dV]

theorem sO (AR:∀k,(gJ R k).del≠some bN):∀n,∃z,cH ops R D σ n=(cH ops (tO R) D σ n).setObj bN z
 | 0=>⟨σ.obj bN,(l8 σ).symm⟩
 | n+1=>by
  obtain⟨z,hz⟩:=sO AR n
  unfold cH
  split
  ·rw[hz,Fh (AR n),p7]
   exact⟨_,rfl⟩
  ·exact⟨z,hz⟩

structure zO (R:List Rec)(cf:cz)(t:Tg):Prop where
 lt:t.i<t.j
 del:∀k,(gJ R k).del≠some bN
 ahv:∀r,R[t.i]? = some r→r.eu.eM=some (bN,.store cf (.sym t.ni))
 ahu:∀r,R[t.j]? = some r→r.eu.eM=some (bN,.store cf (.sym t.nj))
 other:∀k r,R[k]? = some r→k≠t.i→k≠t.j→∀u,r.eu.eM=some u→u.1≠bN

theorem Y2 (h:HZ R cf t=true):zO R cf t:=by
 unfold HZ at h
 simp only[Bool.and_eq_true,decide_eq_true_eq,List.all_eq_true,List.mem_range] at h
 obtain⟨hlt,h⟩:=h
 have at_:∀{k:Nat} {r:Rec},R[k]? = some r→r.eu.del≠some bN∧((k=t.i→oF cf r.eu=some t.ni)∧(k≠t.i→k=t.j→oF cf r.eu=some t.nj)∧(k≠t.i→k≠t.j→∀u,r.eu.eM=some u→u.1≠bN)):=by
  intro k r hk
  have:=h k (List.getElem?_eq_some_iff.1 hk).1
  rw[hk] at this
  simp only[Bool.and_eq_true,decide_eq_true_eq] at this
  refine⟨this.1,fun e=>?_,fun e1 e2=>?_,fun e1 e2 u hu=>?_⟩
  ·rw[if_pos e] at this;simpa using this.2
  ·rw[if_neg e1,if_pos e2] at this;simpa using this.2
  ·rw[if_neg e1,if_neg e2,hu] at this;simpa using this.2
 refine⟨hlt,fun k=>?_,fun r hr=>oD ((at_ hr).2.1 rfl),fun r hr=>oD ((at_ hr).2.2.1 (by omega) rfl),fun k r hr e1 e2=>(at_ hr).2.2.2 e1 e2⟩
 unfold gJ
 cases hr:R[k]? with
 | none=>simp
 | some r=>exact(at_ hr).1

theorem zO.agN (ht:zO R cf t)(hl:t.i<R.length):(gJ R t.i).eM=some (bN,.store cf (.sym t.ni)):=by
 have hr:R[t.i]? = some R[t.i]:=List.getElem?_eq_getElem hl
 unfold gJ
 rw[hr]
 exact ht.ahv _ hr

theorem zO.agM (ht:zO R cf t)(hl:t.j<R.length):(gJ R t.j).eM=some (bN,.store cf (.sym t.nj)):=by
 have hr:R[t.j]? = some R[t.j]:=List.getElem?_eq_getElem hl
 unfold gJ
 rw[hr]
 exact ht.ahu _ hr

theorem zO.ab1 (ht:zO R cf t){k:Nat}(h1:k≠t.i)(h2:k≠t.j){u:Nat×bl}(hu:(gJ R k).eM=some u):u.1≠bN:=by
 unfold gJ at hu
 cases hr:R[k]? with
 | none=>rw[hr] at hu;cases hu
 | some r=>rw[hr] at hu;exact ht.other k r hr h1 h2 u hu

theorem Uy (n:Nat):lex ops R σ (n+1)=(lex ops R σ n).app (mW ops n) (gJ R n):=rfl

theorem Il (ht:zO R cf t)(hlen:t.j<R.length):∀n,(lex ops R σ n).obj bN=fP σ cf t (decide (t.i<n)) (decide (t.j<n))
 | 0=>by simp[fP,cH]
 | n+1=>by
  have ih:=Il ht hlen n
  have hlt:=ht.lt
  rw[Uy]
  generalize lex ops R σ n=τ at ih
  have hd:=ht.del n
  have key:∀e:j5,e.del≠some bN→(τ.app (mW ops n) e).obj bN=s4 e (τ.obj bN):=by
   intro e hd
   have:=Fh (τ:=τ) (dst:=mW ops n) (z:=τ.obj bN) hd
   rw[l8] at this
   rw[this,f_,if_pos (.inl rfl)]
  rw[key _ hd,ih]
  by_cases h1:n=t.i
  ·subst h1
   rw[s4,ht.agN (by omega)]
   have e1:decide (t.i<t.i+1)=true:=by simp
   have e2:decide (t.j<t.i+1)=false:=by simp;omega
   rw[e1,e2]
   rfl
  ·by_cases h2:n=t.j
   ·subst h2
    rw[s4,ht.agM hlen]
    have e1:decide (t.i<t.j+1)=true:=by simp;omega
    have e2:decide (t.j<t.j+1)=true:=by simp
    rw[e1,e2]
    rfl
   ·have e1:decide (t.i<n+1)=decide (t.i<n):=decide_eq_decide.2 (by omega)
    have e2:decide (t.j<n+1)=decide (t.j<n):=decide_eq_decide.2 (by omega)
    rw[e1,e2]
    unfold s4
    split
    ·rename_i u hu
     rw[if_neg (ht.ab1 h1 h2 hu)]
    ·rfl

def st2 (ops:Array Oper)(R:List Rec)(σ:af)(cf:cz)(t:Tg)(D:Nat→Bool):af:=
 (cH ops (tO R) D σ ops.size).setObj bN (fP σ cf t (D t.i) (D t.j))

theorem Fb:∀{l:List (Option (List E))} {xs:List E},Wt l=some xs→∀x,x∈l→∃ys,x=some ys∧∀y,y∈ys→y∈xs
 | [],_,_,x,hx=>by cases hx
 | a :: l,xs,h,x,hx=>by
  simp only[Wt,Option.bind_eq_some_iff,Option.map_eq_some_iff] at h
  obtain⟨ys,h1,zs,h2,rfl⟩:=h
  rcases List.mem_cons.1 hx with rfl | hx
  ·exact⟨ys,h1,fun y hy=>List.mem_append.2 (.inl hy)⟩
  ·obtain⟨ys',g1,g2⟩:=Fb h2 x hx
   exact⟨ys',g1,fun y hy=>List.mem_append.2 (.inr (g2 y hy))⟩

structure WV (P:Program)(ops:Array Oper)(R:List Rec)(σ:af)(env:List Am.D)(cf:cz)(t:Tg)(i:Nat)(o:Oper)(r:Rec):Prop where
 at_:R[i]? = some r
 eu:oe P ops o (lex ops R σ i) r.ix=some r.eu
 seen:r.seen=ug ops o (lex ops R σ i)
 bind:cn P env r.ix r.eu.bind
 ix:r.ix≤env.length
 alt:∃ys,O_ P ops R σ cf t (lF ops.toList []) i=some ys∧∀y,y∈ys→∃d,y.eval env=some d

theorem Q3 {a b:E}{n:Nat}(hd:∃d,(E.m4 .same a b .nil .nil).eval env=some d)(hb:b.eval env=env[n]?):cn P env n (some (.ev a)):=by
 obtain⟨d,hd⟩:=hd
 simp only[E.eval,Option.bind_eq_some_iff] at hd
 obtain⟨x,h1,y,h2,_,_,_,_,h3⟩:=hd
 simp only[Am.D.m4] at h3
 split at h3
 ·rename_i hs
  have:=Am.D.dU hs
  subst this
  exact⟨x,h1,by rw[←hb,h2]⟩
 ·cases h3

theorem Di {a b:E}{n:Nat}(hd:∃d,(E.m4 .same b a .nil .nil).eval env=some d)(hb:b.eval env=env[n]?):cn P env n (some (.ev a)):=by
 obtain⟨d,hd⟩:=hd
 simp only[E.eval,Option.bind_eq_some_iff] at hd
 obtain⟨x,h1,y,h2,_,_,_,_,h3⟩:=hd
 simp only[Am.D.m4] at h3
 split at h3
 ·rename_i hs
  have:=Am.D.dU hs
  subst this
  exact⟨x,h2,by rw[←hb,h1]⟩
 ·cases h3

theorem Ty {n:Nat}{a:E}(hb:cn P env n (some (.ev a))):n≤env.length:=by
 obtain⟨d,_,h⟩:=hb
 exact Nat.le_of_lt (List.getElem?_eq_some_iff.1 h).1

theorem ER (hD:jU ops D){k w:Nat}{o:Oper}(ho:ops[k]? = some o)(hk:D k=false)(ha:∀e,e∈o.after→Region.binds .any e=true→D e.on=true)(hw:w<ops.size)(hne:k≠w):D w∈Ja (lF ops.toList []) k w:=by
 unfold Ja
 split
 ·cases D w <;> simp
 ·rename_i hf
  simp only[ZI,Bool.and_eq_true,Bool.not_eq_true',Bool.and_eq_false_iff,decide_eq_false_iff_not] at hf
  rw[List.mem_singleton]
  exact sU hD ho hk ha (Array.getElem?_eq_getElem hw) (fun h=>Classical.byContradiction fun hb=>hf ⟨.inr (by simpa using hb),.inl (by omega)⟩) fun h=>Classical.byContradiction fun hb=>hf ⟨.inl (by omega),.inr (by simpa using hb)⟩

theorem adD (hok:rG ops R σ cf t=true) (hF:∀(i:Nat) (o:Oper),ops[i]? = some o→∃r,WV P ops R σ env cf t i o r) (hj:t.j<ops.size) (hD:jU ops D) {i:Nat} {o:Oper} (ho:ops[i]? = some o) (hi:D i=false)
  (ha:∀e,e∈o.after→Region.binds .any e=true→D e.on=true):∃r:Rec,cn P env r.ix r.eu.bind∧r.ix≤env.length∧nT P ops o (st2 ops R σ cf t D) r.ix=some (st2 ops R σ cf t (fun j=>D j||j==i),r.eu.bind):=by
 unfold rG at hok
 simp only[Bool.and_eq_true,decide_eq_true_eq,List.all_eq_true,List.mem_range] at hok
 obtain⟨⟨⟨hsize,Ce⟩,aaY⟩,hall⟩:=hok
 have ht:=Y2 aaY
 obtain⟨r,f⟩:=hF i o ho
 have hin:=(Array.getElem?_eq_some_iff.1 ho).1
 have gp:∀(j:Nat),j<ops.size→∃oj rj,ops[j]? = some oj∧R[j]? = some rj:=fun j hj=>by
  obtain⟨rj,fj⟩:=hF j ops[j] (Array.getElem?_eq_getElem hj)
  exact⟨_,rj,Array.getElem?_eq_getElem hj,fj.at_⟩
 have afC:∀{k:Nat} {ok:Oper} {rk:Rec},ops[k]? = some ok→R[k]? = some rk→qB σ ok=true∧(jL ok=true→∀u,rk.eu.eM=some u→u.1=bN∨Qck σ u.1) ∧
   ∀(j:Nat) (oj:Oper) (rj:Rec),j<k→ops[j]? = some oj→R[j]? = some rj→(vp ops oj ok rj rk=true→((lF ops.toList []).getD k 0).testBit j=true)∧(jL ok=true→∀u,rk.eu.eM=some u→u.1=bN∨rj.cR u.1=false):=by
  intro k ok rk hk Fs
  have h:=hall k (Array.getElem?_eq_some_iff.1 hk).1
  unfold Ue at h
  rw[hk,Fs] at h
  simp only[Bool.and_eq_true,List.all_eq_true,List.mem_range] at h
  obtain⟨⟨⟨_,h2⟩,h3⟩,h4⟩:=h
  refine⟨h2,fun hn u hu=>?_,fun j oj rj hj pq rR=>?_⟩
  ·rw[hn,hu] at h3
   simpa[Qck] using h3
  ·have:=h4 j hj
   rw[pq,rR] at this
   simp only[Bool.and_eq_true,Bool.or_eq_true,Bool.not_eq_true'] at this
   refine⟨fun hc=>by rw[hc] at this;simpa using this.1,fun hn u hu=>?_⟩
   have:=this.2
   rw[hn,hu] at this
   simpa using this
 obtain⟨ig,hfr,Qj⟩:=afC ho f.at_
 have hdone:∀{j:Nat} {oj:Oper} {rj:Rec},ops[j]? = some oj→R[j]? = some rj→vp ops oj o rj r=true→vp ops o oj r rj=true→D j=decide (j<i):=fun {j oj rj} pq rR h1 h2=>
  sU hD ho hi ha pq (fun h=>(Qj j oj rj h pq rR).1 h1) fun h=>((afC pq rR).2.2 i o r h ho f.at_).1 h2
 have ap:∀{j:Nat} {oj:Oper} {rj:Rec},oj.apart ops o=false→o.apart ops oj=false→ops[j]? = some oj→R[j]? = some rj→D j=decide (j<i):=fun h1 h2 pq rR=>
  hdone pq rR (by simp[vp,h1]) (by simp[vp,h2])
 have YM:∀{k:Nat} {rk:Rec},R[k]? = some rk→gJ R k=rk.eu:=fun hk=>by simp[gJ,hk]
 obtain⟨zD,hzD⟩:=sO (ops:=ops) (σ:=σ) (D:=D) ht.del ops.size
 obtain⟨zL,hzL⟩:=sO (ops:=ops) (σ:=σ) (D:=fun _=>true) ht.del i
 have IJ:∀s,s∈o.looksAt ops→(st2 ops R σ cf t D).tmp s=(lex ops R σ i).tmp s:=by
  intro s hs
  have h1:(cH ops R D σ ops.size).tmp s=(lex ops R σ i).tmp s:=by
   refine yy (Nat.le_of_lt hin) fun j hj hjt=>?_
   obtain⟨oj,pq,hdj⟩:=nG hjt
   obtain⟨rj,fj⟩:=hF j oj pq
   exact ap (Fi hdj hs) (B4 hdj hs) pq fj.at_
  rw[←h1,hzD]
  unfold st2
  rw[af.ga,af.ga]
 have Zs:∀ob,ob≠bN→r.cR ob=true→(st2 ops R σ cf t D).obj ob=(lex ops R σ i).obj ob:=by
  intro ob hne nC
  have h1:(cH ops (tO R) D σ ops.size).obj ob=(cH ops (tO R) (fun _=>true) σ i).obj ob:=by
   refine sN (Nat.le_of_lt hin) fun j hj N8=>?_
   obtain⟨oj,rj,pq,rR⟩:=gp j hj
   rw[p7,YM rR] at N8
   refine hdone pq rR ?_ ?_
   ·have:rj.eu.bare.targets.any r.cR=true:=List.any_eq_true.2 ⟨ob,N8,nC⟩
    simp[vp,this]
   ·have:rj.eu.bare.targets.any r.cR=true:=List.any_eq_true.2 ⟨ob,N8,nC⟩
    simp[vp,this]
  have h2:(lex ops R σ i).obj ob=(cH ops (tO R) (fun _=>true) σ i).obj ob:=by
   show(cH ops R (fun _=>true) σ i).obj ob=_
   rw[hzL,ep (Ne.symm hne)]
  unfold st2
  rw[ep (Ne.symm hne),h1,h2]
 have s7:∀s ob,s∈o.looksAt ops→((lex ops R σ i).tmp s).aT ob=false→r.cR ob=true:=fun s ob hs ox=>Qcj (sv:=(lex ops R σ i).tmp s) (by rw[f.seen];exact List.mem_append.2 (.inl (List.mem_map_of_mem hs))) ox
 have II:iq o (fun x=>((lex ops R σ i).zS x).Nu) (jv (lex ops R σ i).obj)=true→r.cR bN=true:=fun hu=>Qcj (sv:=.oc bN) (by rw[f.seen];refine List.mem_append.2 (.inr ?_);rw[hu];simp) (by simp[SV.aT])
 have Ya:(st2 ops R σ cf t D).obj bN=fP σ cf t (D t.i) (D t.j):=by
  unfold st2
  rw[f_,if_pos (.inl rfl)]
 have abr:∀a b,zy (fP σ cf t a b)=some cf:=by
  intro a b
  cases a <;> cases b <;> first | exact Ce | rfl
 have Qk:=Il (ops:=ops) (σ:=σ) ht (by omega) i
 have alZ:jv (lex ops R σ i).obj=some cf:=by rw[iC,Qk,abr]
 have xF:∀ix,oe P ops o (st2 ops R σ cf t D) ix=Qdw P ops R σ cf t i o (D t.i) (D t.j) ix:=by
  intro ix
  unfold Qdw
  have hH:((lex ops R σ i).setObj bN (fP σ cf t (D t.i) (D t.j))).obj bN=fP σ cf t (D t.i) (D t.j):=by rw[f_,if_pos (.inl rfl)]
  refine sP (fun s hs=>?_) (fun s ob hs ox=>?_) ?_ fun _=>by rw[Ya,hH]
  ·rw[af.ga];exact IJ s hs
  ·rw[af.ga] at ox
   by_cases hne:ob=bN
   ·subst hne;rw[Ya,hH]
   ·rw[ep (Ne.symm hne)];exact Zs ob hne (s7 s ob hs ox)
  ·rw[iC,iC,Ya,hH]
 have Yd:cH ops (tO R) (fun j=>D j||j==i) σ ops.size=(cH ops (tO R) D σ ops.size).app o.dst r.eu.bare:=by
  rw[Ag hi ops.size hin fun j hj hij IX=>?_]
  ·rw[p7,YM f.at_]
   congr 1
   simp[mW,ho]
  ·obtain⟨oj,rj,pq,rR⟩:=gp j hj
   have hno:D j≠decide (j<i):=by rw[IX];simp;omega
   refine⟨fun s h1 h2=>hno ?_,fun ob h1 h2=>hno ?_⟩
   ·obtain⟨o1,MA,IT⟩:=nG h1
    obtain⟨o2,RU,hd2⟩:=nG h2
    rw[ho] at MA;rw[pq] at RU
    cases MA;cases RU
    exact ap (wg hd2 IT) (wg IT hd2) pq rR
   ·rw[p7,YM f.at_] at h1
    rw[p7,YM rR] at h2
    have hd:=ht.del i
    rw[YM f.at_] at hd
    obtain⟨g1,g2⟩:=zG h1 hd
    refine hdone pq rR ?_ ?_
    ·have:r.eu.bare.targets.any rj.cR=true:=List.any_eq_true.2 ⟨ob,h1,by
      have hdj:=ht.del j
      rw[YM rR] at hdj
      exact qi (zG h2 hdj).1⟩
     simp[vp,this]
    ·have:r.eu.bare.targets.any rj.cR=true:=List.any_eq_true.2 ⟨ob,h1,by
      have hdj:=ht.del j
      rw[YM rR] at hdj
      exact qi (zG h2 hdj).1⟩
     simp[vp,this]
 have hrd:r.eu.del≠some bN:=by have:=ht.del i;rwa [YM f.at_] at this
 have fin:∀(e:j5) (ix:Nat),oe P ops o (st2 ops R σ cf t D) ix=some e→cn P env ix e.bind→ix≤env.length→e.val=r.eu.val→e.bare.eM=r.eu.bare.eM→e.del=r.eu.del→(∀u,e.eM=some u→u.1=bN→some u.2=fP σ cf t (D t.i||t.i==i) (D t.j||t.j==i))→((∀u,e.eM=some u→u.1≠bN)→i≠t.i∧i≠t.j) →
   (jL o=true→∀u,e.eM=some u→u.1=bN∨r.eu.eM=some u)→∃r:Rec,cn P env r.ix r.eu.bind∧r.ix≤env.length∧nT P ops o (st2 ops R σ cf t D) r.ix=some (st2 ops R σ cf t (fun j=>D j||j==i),r.eu.bind):=by
  intro e ix uZ Es cW h1 h2 h3 h4 h5 h6
  refine⟨⟨e,[],ix⟩,Es,cW,?_⟩
  have aoZ:e.bare={ e.bare with val:=r.eu.bare.val,eM:=r.eu.bare.eM,del:=r.eu.bare.del }:=by
   rw[←h2,sj,sk,←h1,←h3,←sj e,←sk e]
  have hnew:st2 ops R σ cf t (fun j=>D j||j==i)=(st2 ops R σ cf t D).app o.dst e:=by
   unfold st2
   rw[Fh (by rw[h3];exact hrd),Yd]
   have nD:∀τ:af,τ.app o.dst e.bare=τ.app o.dst r.eu.bare:=fun τ=>by
    unfold af.app
    rw[h2,sk,sk,sj,sj,h1,h3]
   rw[nD]
   congr 1
   unfold s4
   cases hu:e.eM with
   | none=>
    obtain⟨g1,g2⟩:=h5 fun u qc=>by rw[hu] at qc;cases qc
    have e1:(t.i==i)=false:=by simpa using Ne.symm g1
    have e2:(t.j==i)=false:=by simpa using Ne.symm g2
    simp only[e1,e2,Bool.or_false]
   | some u=>
    by_cases hh:u.1=bN
    ·simp only[hh,if_true]
     exact(h4 u hu hh).symm
    ·simp only[hh,if_false]
     obtain⟨g1,g2⟩:=h5 fun u' qc=>by rw[hu] at qc;cases qc;exact hh
     have e1:(t.i==i)=false:=by simpa using Ne.symm g1
     have e2:(t.j==i)=false:=by simpa using Ne.symm g2
     simp only[e1,e2,Bool.or_false]
  rw[hnew]
  refine wG uZ ?_ fun hn u hu=>?_
  ·unfold qB at ig ⊢
   unfold st2
   rw[af.aZ,(kJ ..).1]
   exact ig
  ·rcases h6 hn u hu with hH1 | hu
   ·exact .inl hH1
   rcases hfr hn u hu with hH1 | hfr
   ·exact .inl hH1
   by_cases hne:u.1=bN
   ·exact .inl hne
   right
   have Yu:∀{k:Nat} {rk:Rec},R[k]? = some rk→rk.cR u.1=false→({ rk with eu:=rk.eu.bare }:Rec).cR u.1=false:=by
    intro k rk hk Fs
    obtain⟨g1,g2,g3⟩:=wA Fs
    have hdk:=ht.del k
    rw[YM hk] at hdk
    have afn:rk.seen.any (fun sv=>!sv.aT u.1)=false:=by
     simp only[Rec.cR,Bool.or_eq_false_iff] at Fs
     exact Fs.1.1.1
    have ht1:rk.eu.bare.targets.contains u.1=false:=by
     rw[←Bool.not_eq_true]
     intro hc
     exact g2 (zG (by simpa using hc) hdk).1
    have Mz:∀u',rk.eu.bare.eM=some u'→u'.2.aT u.1=true:=by
     intro u' qc
     rw[lM] at qc
     split at qc
     ·rename_i u0 hu0
      split at qc
      ·cases qc
      ·cases qc;exact g3 _ hu0
     ·cases qc
    unfold Rec.cR
    simp only[afn,sj,g1,ht1,Bool.not_true,Bool.or_false,Bool.false_or]
    split
    ·rename_i u' qc
     rw[Mz u' qc]
     rfl
    ·rfl
   have alJ:=uj (R:=tO R) (ops:=ops) (D:=D) hfr ops.size fun j hj IX=>by
    obtain⟨oj,rj,pq,rR⟩:=gp j hj
    refine⟨{ rj with eu:=rj.eu.bare },by unfold tO;rw[List.getElem?_map,rR];rfl,?_⟩
    refine Yu rR ?_
    rcases Nat.lt_trichotomy j i with h | h | h
    ·exact((Qj j oj rj h pq rR).2 hn u hu).resolve_left hne
    ·subst h;rw[hi] at IX;cases IX
    ·rw[←Bool.not_eq_true]
     intro WY
     have hub:u.1∈r.eu.bare.targets:=by
      unfold j5.targets
      rw[lM,hu]
      simp[hne]
     have:=hdone pq rR (by
      have:r.eu.bare.targets.any rj.cR=true:=List.any_eq_true.2 ⟨_,hub,WY⟩
      simp[vp,this]) (by
      have:r.eu.bare.targets.any rj.cR=true:=List.any_eq_true.2 ⟨_,hub,WY⟩
      simp[vp,this])
     rw[IX] at this
     simp at this
     omega
   obtain⟨q1,q2⟩:=alJ
   refine⟨by unfold st2;rw[ep (Ne.symm hne)];exact q1,?_⟩
   unfold st2
   simp only[af.kS,af.fD,if_true,Bool.and_eq_true] at q2 ⊢
   refine⟨q2.1,?_⟩
   have:=abr (D t.i) (D t.j)
   cases hh:fP σ cf t (D t.i) (D t.j) with
   | none=>rfl
   | some z=>
    rw[hh] at this
    cases z <;> simp[zy] at this
    rfl
 obtain⟨ys,hys,cV⟩:=f.alt
 by_cases hki:i=t.i
 ·have RO:=ht.ahv r (hki ▸ f.at_)
  have hbr:r.eu.bare.eM=none:=by rw[lM,RO];simp
  cases IX:D t.j with
  | false=>
   have uZ:oe P ops o (st2 ops R σ cf t D) r.ix=some r.eu:=by
    rw[xF,←f.eu]
    unfold Qdw
    have e1:fP σ cf t (D t.i) (D t.j)=(lex ops R σ i).obj bN:=by
     rw[Qk,IX,←hki,hi]
     have h1:decide (i<i)=false:=by simp
     have h2:decide (t.j<i)=false:=by simp;have:=ht.lt;omega
     rw[h1,h2]
    rw[e1,l8]
   refine fin r.eu r.ix uZ f.bind f.ix rfl rfl rfl (fun u hu hh=>?_) (fun h=>absurd rfl (h _ RO)) fun _ u hu=>.inr hu
   rw[RO] at hu
   cases hu
   have e1:(t.i==i)=true:=by simp[hki]
   have e2:(t.j==i)=false:=by simp;have:=ht.lt;omega
   rw[IX,e1,e2,Bool.or_true,Bool.or_false]
   rfl
  | true=>
   unfold O_ at hys
   rw[hki] at ho
   have VC:=f.at_
   rw[hki] at VC
   simp only[hki,ho,VC,if_true] at hys
   split at hys
   ·rename_i e he
    split at hys
    ·rename_i hc
     simp only[Bool.and_eq_true,decide_eq_true_eq,Option.isNone_iff_eq_none] at hc
     obtain⟨⟨⟨c1,c2⟩,c3⟩,c4⟩:=hc
     split at hys
     ·rename_i b hb
      cases hys
      have Mz:=oD c2
      have Vz:=Q3 (P:=P) (n:=t.nj) (cV _ (List.mem_singleton_self _)) rfl
      refine fin e t.nj ?_ (by rw[hb];exact Vz) (Ty Vz) (SV.dU c1) (by rw[lM,Mz,hbr];simp) (c3.trans c4.symm) (fun u hu hh=>?_) (fun h=>absurd rfl (h _ Mz)) fun _ u hu=>by rw[Mz] at hu;cases hu;exact .inl rfl
      ·rw[xF,←hki,hi,IX,hki]
       exact he
      ·rw[Mz] at hu
       cases hu
       have e1:(t.i==i)=true:=by simp[hki]
       rw[IX,e1,Bool.or_true,Bool.true_or]
       rfl
     ·cases hys
    ·cases hys
   ·cases hys
 by_cases hkj:i=t.j
 ·have RO:=ht.ahu r (hkj ▸ f.at_)
  have hbr:r.eu.bare.eM=none:=by rw[lM,RO];simp
  cases hDi:D t.i with
  | true=>
   have uZ:oe P ops o (st2 ops R σ cf t D) r.ix=some r.eu:=by
    rw[xF,←f.eu]
    unfold Qdw
    have e1:fP σ cf t (D t.i) (D t.j)=(lex ops R σ i).obj bN:=by
     rw[Qk,hDi,←hkj,hi]
     have h1:decide (t.i<i)=true:=by simp;have:=ht.lt;omega
     have h2:decide (i<i)=false:=by simp
     rw[h1,h2]
    rw[e1,l8]
   refine fin r.eu r.ix uZ f.bind f.ix rfl rfl rfl (fun u hu hh=>?_) (fun h=>absurd rfl (h _ RO)) fun _ u hu=>.inr hu
   rw[RO] at hu
   cases hu
   have e1:(t.j==i)=true:=by simp[hkj]
   rw[hDi,e1,Bool.or_true,Bool.true_or]
   rfl
  | false=>
   unfold O_ at hys
   have hne:¬t.j=t.i:=by have:=ht.lt;omega
   rw[hkj] at ho
   have VC:=f.at_
   rw[hkj] at VC
   simp only[hkj,ho,VC,hne,if_false,if_true] at hys
   split at hys
   ·rename_i e he
    split at hys
    ·rename_i hc
     simp only[Bool.and_eq_true,decide_eq_true_eq,Option.isNone_iff_eq_none] at hc
     obtain⟨⟨⟨c1,c2⟩,c3⟩,c4⟩:=hc
     split at hys
     ·rename_i b hb
      cases hys
      have Mz:=oD c2
      have Vz:=Di (P:=P) (n:=t.ja) (cV _ (List.mem_singleton_self _)) rfl
      refine fin e t.ja ?_ (by rw[hb];exact Vz) (Ty Vz) (SV.dU c1) (by rw[lM,Mz,hbr];simp) (c3.trans c4.symm) (fun u hu hh=>?_) (fun h=>absurd rfl (h _ Mz)) fun _ u hu=>by rw[Mz] at hu;cases hu;exact .inl rfl
      ·rw[xF,hDi,←hkj,hi,hkj]
       exact he
      ·rw[Mz] at hu
       cases hu
       have e1:(t.j==i)=true:=by simp[hkj]
       have e2:(t.i==i)=false:=by simp;have:=ht.lt;omega
       rw[hDi,e1,e2,Bool.or_true,Bool.or_false]
       rfl
     ·cases hys
    ·cases hys
   ·cases hys
 have mJ:=ht.other i r f.at_ hki hkj
 have hiT:t.i<ops.size:=by have:=ht.lt;omega
 have done:∀e,oe P ops o (st2 ops R σ cf t D) r.ix=some e→cn P env r.ix e.bind→e.val=r.eu.val→e.eM=r.eu.eM→e.del=r.eu.del→∃r:Rec,cn P env r.ix r.eu.bind∧r.ix≤env.length∧nT P ops o (st2 ops R σ cf t D) r.ix=some (st2 ops R σ cf t (fun j=>D j||j==i),r.eu.bind):=by
  intro e uZ Es h1 h2 h3
  exact fin e r.ix uZ Es f.ix h1 (by rw[lM,lM,h2]) h3 (fun u hu hh=>absurd hh (mJ u (h2 ▸ hu))) (fun _=>⟨hki,hkj⟩) fun _ u hu=>.inr (h2 ▸ hu)
 by_cases nC:r.cR bN=true
 ·unfold O_ at hys
  simp only[ho,f.at_,hki,hkj,if_false,nC,if_true] at hys
  obtain⟨zs,hzs,hsub⟩:=Fb hys (WL P ops R σ cf t i o r (D t.i) (D t.j)) (List.mem_flatMap.2 ⟨D t.i,ER hD ho hi ha hiT hki,List.mem_map.2 ⟨D t.j,ER hD ho hi ha hj hkj,rfl⟩⟩)
  unfold WL at hzs
  split at hzs
  ·rename_i hc
   have uZ:oe P ops o (st2 ops R σ cf t D) r.ix=some r.eu:=by
    rw[xF,←f.eu]
    unfold Qdw
    have e1:fP σ cf t (D t.i) (D t.j)=(lex ops R σ i).obj bN:=by rw[Qk,hc.1,hc.2]
    rw[e1,l8]
   exact done r.eu uZ f.bind rfl rfl rfl
  ·split at hzs
   ·rename_i e he
    split at hzs
    ·rename_i hc
     simp only[Bool.and_eq_true,Option.isNone_iff_eq_none] at hc
     obtain⟨⟨⟨⟨c1,c2⟩,c3⟩,c4⟩,c5⟩:=hc
     refine done e (by rw[xF];exact he) ?_ (SV.dU c1) (c2.trans c3.symm) (c4.trans c5.symm)
     split at hzs
     ·rename_i b a' jC hba
      cases hzs
      have h0:=f.bind
      rw[hba] at h0
      obtain⟨da,k1,k2⟩:=h0
      rw[jC]
      exact Di (cV _ (hsub _ (List.mem_singleton_self _))) (by rw[k1,k2])
     ·rename_i jC hba
      rw[jC];trivial
     ·cases hzs
    ·cases hzs
   ·cases hzs
 ·have uZ:oe P ops o (st2 ops R σ cf t D) r.ix=some r.eu:=by
   rw[←f.eu]
   refine sP IJ (fun s ob hs ox=>?_) ?_ fun hu=>absurd (II hu) nC
   ·by_cases hne:ob=bN
    ·subst hne;exact absurd (s7 s _ hs ox) nC
    ·exact Zs ob hne (s7 s ob hs ox)
   ·rw[iC,Ya,abr,alZ]
  exact done r.eu uZ f.bind rfl rfl rfl

theorem XE (ht:zO R cf t)(hlen:ops.size=R.length)(hj:t.j<ops.size):st2 ops R σ cf t (fun _=>true)=lex ops R σ ops.size:=by
 obtain⟨z,hz⟩:=sO (ops:=ops) (σ:=σ) (D:=fun _=>true) ht.del ops.size
 have h1:=Il (ops:=ops) (σ:=σ) ht (by omega) ops.size
 have e1:decide (t.i<ops.size)=true:=by simp;have:=ht.lt;omega
 have e2:decide (t.j<ops.size)=true:=by simp;omega
 rw[e1,e2] at h1
 unfold st2
 show _=cH ops R (fun _=>true) σ ops.size
 rw[←h1]
 show _=cH ops R (fun _=>true) σ ops.size
 have h2:(lex ops R σ ops.size).obj bN=z:=by
  show(cH ops R (fun _=>true) σ ops.size).obj bN=z
  rw[hz,f_,if_pos (.inl rfl)]
 rw[h2,hz]

theorem I5 {ja:Nat}{xs:List E}(h:CJ P ops R σ ja=some xs):∃cf t,rG ops R σ cf t=true∧t.j<ops.size∧∀i,i<ops.size→∃ys,O_ P ops R σ cf t (lF ops.toList []) i=some ys∧∀y,y∈ys→y∈xs:=by
 unfold CJ at h
 split at h
 ·rename_i cf Ce
  obtain⟨t,ht,h⟩:=Option.bind_eq_some_iff.1 h
  split at h
  ·rename_i hok
   obtain⟨b,hb,h⟩:=Option.bind_eq_some_iff.1 h
   obtain⟨zs,hzs,rfl⟩:=Option.map_eq_some_iff.1 h
   refine⟨cf,t,hok,?_,fun i hi=>?_⟩
   ·unfold ahw at hb
    split at hb
    ·rename_i o ho
     exact(Array.getElem?_eq_some_iff.1 ho).1
    ·cases hb
   ·obtain⟨ys,h1,h2⟩:=Fb hzs (O_ P ops R σ cf t (lF ops.toList []) i) (List.mem_map.2 ⟨i,List.mem_range.2 hi,rfl⟩)
    exact⟨ys,h1,fun y hy=>List.mem_cons_of_mem _ (h2 y hy)⟩
  ·cases h
 ·cases h

theorem JP {w0:World} {X:kG} {rd:Option Nat} {n:Nat} {Q:Exit→Act→World→Prop} (hok:rG ops R σ cf t=true) (hF:∀(i:Nat) (o:Oper),ops[i]? = some o→∃r,WV P ops R σ env cf t i o r) (hj:t.j<ops.size) (hm:σ.mem.length=σ.tmps.length)
  (hsz:∀(j d:Nat),(ops[j]?).bind (fun(o:Oper)=>o.dst)=some d→d<σ.tmps.length) (hQ:∀a' w' ρ',cu w0 X w' a' (lex ops R σ ops.size) env ρ'→Q .normal a' w') :
  ∀(fuel:Nat) (listed:Array Bool) (a:Act) (w:World) (ρ:dJ),listed.size=ops.size→jU ops (Qbq listed)→(List.range ops.size).countP (fun j=>!Qbq listed j)≤fuel →
   cu w0 X w a (st2 ops R σ cf t (Qbq listed)) env ρ→wpAnyIn (FW rd) n P .any ops Q fuel listed a w:=by
 have alq:=hok
 unfold rG at hok
 simp only[Bool.and_eq_true,decide_eq_true_eq,List.all_eq_true,List.mem_range] at hok
 obtain⟨⟨⟨hsize,Ce⟩,aaY⟩,hall⟩:=hok
 have ht:=Y2 aaY
 refine F6 (st:=st2 ops R σ cf t) (fun i o ho e he hb=>?_) (fun D i o hD ho hi ha=>adD alq hF hj hD ho hi ha) (fun D=>?_) (fun D D' h=>?_) hm hsz (fun a' w' ρ' hr=>hQ a' w' ρ' (by rw[←XE ht hsize hj];exact hr))
 ·obtain⟨r,f⟩:=hF i o ho
  have h:=hall i (Array.getElem?_eq_some_iff.1 ho).1
  unfold Ue at h
  rw[ho,f.at_] at h
  simp only[Bool.and_eq_true] at h
  have:=Array.all_eq_true'.1 h.1.1.1 e he
  simpa[hb] using this
 ·unfold st2
  rw[af.aZ,af.fG]
  exact kJ ops (tO R) D σ ops.size
 ·unfold st2
  rw[l9 ops.size h,h t.i (by have:=ht.lt;omega),h t.j hj]

theorem TP:st2 ops R σ cf t (fun _=>false)=σ:=by
 unfold st2
 rw[nS (i:=0) ops.size (Nat.zero_le _) fun _ _ _=>rfl]
 exact l8 σ

end
end
end

section
noncomputable section

structure Left (w:World)(S:Sets)(aJ may:Nat→Prop)(w':World)(S':Sets)(bV:Nat→Prop)(bs':List D):Prop where
 st:dF w' S' bV bs'
 le:S≤S'
 os:w'.os=w.os
 tape:TL w' w
 output:w'.output=w.output
 size:w.heap.size≤w'.heap.size
 old:∀b,b<w.heap.size→¬may b→w'.heap[b]? = w.heap[b]?
 ft:∀b,bV b→(aJ b∨w.heap.size≤b)∧b<w'.heap.size
 new:∀b o,S' b o→S b o∨may b∨w.heap.size≤b
 lt:∀b o,S' b o→b<w'.heap.size

def A9 (P:Program)(f:FuncId)(st:D)(cs:List D)(m:Option D)(gO:D):Prop:=
 ∀(w:World) (S:Sets) (aJ:Nat→Prop) (bs:List D) (vs:Array Value) (u:FrameMode),st=.st bs→dF w S aJ bs→nJ w S aJ→(∀b,aJ b→b<w.heap.size)→(∀b o,S b o→b<w.heap.size)→vs.size=cs.length→(∀(i:Nat) (v:Value) (x:D),vs[i]? = some v→cs[i]? = some x→bU w S v x) →
  (match m with | none=>u=.returning | some d=>∃v,bU w S v d∧u=.panicking [{ v,recovered:=false }]) →
  CallsD P f vs u w fun e u' w'=>∃(v:Value) (S':Sets) (bV:Nat→Prop) (bs':List D),e=.returned v∧settle u'=.returning∧gO=.st bs'∧Left w S aJ aJ w' S' bV bs'


inductive T where
 | bind (b:Bind) (t:T)
 | ite (c:E) (a b:T)
 | loop (l:Nat) (inits:List E) (body:T)
 | join (l n:Nat) (body rest:T)
 | jump (l:Nat) (vals:List E)
 | ret (x:E)
 | fc (x h:E) (sl:List Nat) (ks:List E)
 | nk (x:E) (neg:Bool) (t:T)
 | pick (x:E) (t:T)
 | Jc (f:FuncId) (keep:List Nat) (bT:List E) (res:E) (t:T)
 | kV (f:FuncId) (h:E) (args:List E) (rs:List Bool) (sl:List Nat) (ks:List E) (t:T)
 | iH (f:FuncId) (h:E) (args:List E) (rs:List Bool) (sl:List Nat) (ks:List E) (t:T)
 | gu (x h:E) (args:List E) (rs:List Bool) (sl:List Nat) (ks:List E) (t:T)
 | rB (x h:E) (sl:List Nat) (bT:List E) (n l:Nat) (body rest:T)
 | lz (x h:E) (sl:List Nat) (bT:List E) (n l:Nat) (q:Option Nat) (body rest tR:T)
 deriving Inhabited

inductive iD where
 | jump (l:Nat) (ds:List D)
 | ret (d:D)
 | fc (d st:D) (sl:List Nat) (kd:List D)

def D.isNil (x:D):Option (List Bool):=
 match x with
 | .bq []=>some [true,false]
 | .bq _ | .sl _ _ _=>some [false]
 | .cq=>some [true]
 | _=>none

def Dl (l:Nat)(q:Option Nat)(b:Bool)(st:D):iD:=bif b then .jump l [st] else match q with | none=>.ret st | some _=>.jump (l+1) [st]

def dD (l:Nat)(K:List D→Prop)(Q:iD→Prop):iD→Prop
 | .jump l' ds=>if l'=l then K ds else Q (.jump l' ds)
 | .ret d=>Q (.ret d)
 | .fc d st sl kd=>Q (.fc d st sl kd)

def rounds (l:Nat)(body:List D→(iD→Prop)→Prop)(Q:iD→Prop):Nat→List D→Prop
 | 0,_=>False
 | n+1,ds=>body ds (dD l (rounds l body Q n) Q)

def D.La:D→Bool
 | .loc _ _=>true
 | _=>false

def JD (P:Program)(f:FuncId)(keep:List Nat)(fk:List D)(res:E)(Q:iD→Prop):iD→Prop
 | .ret (.bh [.bh kd,st])=>∃gO d',A9 P f st fk none gO∧res.eval (kd++[gO])=some d'∧Q (.ret (.bh [d',gO]))
 | .fc d st sl kd=>sl=keep∧∃gO d',A9 P f st fk (some d) gO∧res.eval (kd++[gO])=some d'∧Q (.ret (.bh [d',gO]))
 | _=>False

theorem Hs {P:Program}{f:FuncId}{keep:List Nat}{fk:List D}{res:E}{Q Q':iD→Prop}(hq:∀s,Q s→Q' s){s:iD}(h:JD P f keep fk res Q s):JD P f keep fk res Q' s:=by
 unfold JD at h ⊢
 split at h
 ·obtain⟨gO,d',h1,h2,h3⟩:=h;exact⟨gO,d',h1,h2,hq _ h3⟩
 ·obtain⟨h0,gO,d',h1,h2,h3⟩:=h;exact⟨h0,gO,d',h1,h2,hq _ h3⟩
 ·exact h

def den (P:Program):T→List D→(iD→Prop)→Prop
 | .bind (.ev x) t,env,Q=>∃d,x.eval env=some d∧den P t (env++[d]) Q
 | .bind (.call act f h args rs) t,env,Q=>(∀p,p∈act→∃d,p.1.eval env=some d)∧∃d,(bI env act→∃st ds,h.eval env=some st∧aM env args=some ds∧aP P f st ds d∧d.fits rs=true)∧den P t (env++[d]) Q
 | .bind (.bQ act f h args rs) t,env,Q=>(∀p,p∈act→∃d,p.1.eval env=some d)∧∃st d h',h.eval env=some st∧(bI env act→∃ds,aM env args=some ds∧bk P f st ds d h'∧d.fits rs=true)∧(¬bI env act→h'=st)∧den P t (env++[.bh [d,h']]) Q
 | .bind (.fu act x h args rs) t,env,Q=>(∀p,p∈act→∃d,p.1.eval env=some d)∧∃d,(bI env act→∃f us cs st ds,x.eval env=some (.fn f us cs)∧bJ P f=true∧h.eval env=some st∧aM env args=some ds∧aP P f st (us++ds++cs) d∧d.fits rs=true)∧den P t (env++[d]) Q
 | .bind (.fC act x h args rs) t,env,Q=>(∀p,p∈act→∃d,p.1.eval env=some d)∧∃st d h',h.eval env=some st∧(bI env act→∃xd ds,x.eval env=some xd∧aM env args=some ds∧tQ P xd st ds d h'∧d.fits rs=true)∧(¬bI env act→h'=st)∧den P t (env++[.bh [d,h']]) Q
 | .ite c a b,env,Q=>∃v,c.eval env=some (.v (.bool v))∧(v=true→den P a env Q)∧(v=false→den P b env Q)
 | .loop l inits body,env,Q=>∃ds,aM env inits=some ds∧∃n,rounds l (fun ds Q=>ds.length=inits.length∧den P body (env++ds) Q) Q n ds
 | .join l n body rest,env,Q=>den P body env (dD l (fun ds=>ds.length=n∧den P rest (env++ds) Q) Q)
 | .jump l vals,env,Q=>∃ds,aM env vals=some ds∧Q (.jump l ds)
 | .ret x,env,Q=>∃d,x.eval env=some d∧Q (.ret d)
 | .fc x h sl ks,env,Q=>∃d st kd,x.eval env=some d∧h.eval env=some st∧aM env ks=some kd∧Q (.fc d st sl kd)
 | .nk x neg t,env,Q=>∃d bs,x.eval env=some d∧d.isNil=some bs∧∀b,b∈bs→den P t (env++[.v (.bool (b != neg))]) Q
 | .pick x t,env,Q=>∃ys,x.eval env=some (.bq ys)∧∀d st,.bh [d,st]∈ys→den P t (env++[.bh [d,st]]) Q
 | .Jc f keep bT res t,env,Q=>∃fk,aM env bT=some fk∧fk.all D.La=true∧den P t env (JD P f keep fk res Q)
 | .kV f h args rs sl ks t,env,Q=>∃st ds o,h.eval env=some st∧aM env args=some ds∧k8 P f st ds o∧match o with
  | .ret d=>d.fits rs=true∧den P t (env++[d]) Q
  | .fc d=>∃kd,aM env ks=some kd∧Q (.fc d st sl kd)
 | .iH f h args rs sl ks t,env,Q=>∃st ds o h',h.eval env=some st∧aM env args=some ds∧eN P f st ds o h'∧match o with
  | .ret d=>d.fits rs=true∧den P t (env++[.bh [d,h']]) Q
  | .fc d=>∃kd,aM env ks=some kd∧Q (.fc d h' sl kd)
 | .gu x h args rs sl ks t,env,Q=>∃f us cs st ds o h',x.eval env=some (.fn f us cs)∧bJ P f=true∧h.eval env=some st∧aM env args=some ds∧eN P f st (us++ds++cs) o h'∧match o with
  | .ret d=>d.fits rs=true∧den P t (env++[.bh [d,h']]) Q
  | .fc d=>∃kd,aM env ks=some kd∧Q (.fc d h' sl kd)
 | .rB x h sl bT n l body rest,env,Q=>∃f us cs st fk d gO,x.eval env=some (.fn f us cs)∧bJ P f=true∧h.eval env=some st∧aM env bT=some fk∧cN fk=true∧gO.gK=true ∧
   (∀(m:Nat) (rec:Loop),(∀st1 ds st2,st1.gK=true→cN ds=true→ds.length=n→den P body (env++[st1]++ds) (fun s=>s=.jump l [st2])→Fp P (.yl m rec sl fk) st1 ds st2)→bk P f st (us++[.yl m rec sl fk]++cs) d gO)∧den P rest (env++[gO]) Q
 | .lz x h sl bT n l q body rest tR,env,Q=>∃f us cs bs fk d bs' stop,x.eval env=some (.fn f us cs)∧bJ P f=true∧h.eval env=some (.st bs)∧aM env bT=some fk∧bs'[bs.length]? = some (.bh []) ∧
   (∀(rec:Loop×Code),(∀ia ds b lg,ia[bs.length]? = some (.oM false)→ds.length=n→lg[bs.length]? = some (.bh [])→den P body (env++[.st (ia.set bs.length (.bh []))]++ds) (fun s=>s=Dl l q b (.st lg))→q7 P (.tW bs.length rec sl fk) (.st ia) ds b (.st (lg.set bs.length (.oM !b)))) →
    bk P f (.st (bs++[.oM false])) (us++[.tW bs.length rec sl fk]++cs) d (.st (bs'.set bs.length (.oM stop))))∧(stop=false→den P rest (env++[.st bs']) Q)∧(stop=true→den P tR (env++[.st bs']) Q)

theorem uk {l:Nat}{body body':List D→(iD→Prop)→Prop}{Q Q':iD→Prop}(hb:∀ds (R R':iD→Prop),(∀s,R s→R' s)→body ds R→body' ds R')(hQ:∀s,Q s→Q' s):∀(n:Nat) (ds:List D),rounds l body Q n ds→rounds l body' Q' n ds
 | 0,_,h=>h
 | n+1,ds,h=>hb ds _ _ (fun s hs=>by
   cases s with
   | jump l' ds'=>
    simp only[dD] at hs ⊢
    split
    ·rename_i e;rw[if_pos e] at hs;exact uk hb hQ n ds' hs
    ·rename_i e;rw[if_neg e] at hs;exact hQ _ hs
   | ret d=>exact hQ _ hs
   | fc d st sl kd=>exact hQ _ hs) h

theorem dI {P:Program}:∀{t:T} {env:List D} {Q Q':iD→Prop},(∀s,Q s→Q' s)→den P t env Q→den P t env Q'
 | .bind (.ev x) t,env,Q,Q',hq,⟨d,h1,h2⟩=>⟨d,h1,dI hq h2⟩
 | .bind (.call act f h args rs) t,env,Q,Q',hq,⟨h0,d,h1,h2⟩=>⟨h0,d,h1,dI hq h2⟩
 | .bind (.bQ act f h args rs) t,env,Q,Q',hq,⟨h0,st,d,h',h1,h2,h3,h5⟩=>⟨h0,st,d,h',h1,h2,h3,dI hq h5⟩
 | .bind (.fu act x h args rs) t,env,Q,Q',hq,⟨h0,d,h1,h2⟩=>⟨h0,d,h1,dI hq h2⟩
 | .bind (.fC act x h args rs) t,env,Q,Q',hq,⟨h0,st,d,h',h1,h2,h3,h5⟩=>⟨h0,st,d,h',h1,h2,h3,dI hq h5⟩
 | .ite c a b,env,Q,Q',hq,⟨v,h1,h2,h3⟩=>⟨v,h1,fun e=>dI hq (h2 e),fun e=>dI hq (h3 e)⟩
 | .loop l inits body,env,Q,Q',hq,⟨ds,h1,n,h2⟩=>⟨ds,h1,n,uk (fun ds R R' hR h=>⟨h.1,dI hR h.2⟩) hq n ds h2⟩
 | .join l n body rest,env,Q,Q',hq,h=>dI (t:=body) (fun s hs=>by
   cases s with
   | jump l' ds'=>
    simp only[dD] at hs ⊢
    split
    ·rename_i e;rw[if_pos e] at hs;exact⟨hs.1,dI hq hs.2⟩
    ·rename_i e;rw[if_neg e] at hs;exact hq _ hs
   | ret d=>exact hq _ hs
   | fc d st sl kd=>exact hq _ hs) h
 | .jump l vals,env,Q,Q',hq,⟨ds,h1,h2⟩=>⟨ds,h1,hq _ h2⟩
 | .ret x,env,Q,Q',hq,⟨d,h1,h2⟩=>⟨d,h1,hq _ h2⟩
 | .fc x h sl ks,env,Q,Q',hq,⟨d,st,kd,h1,h2,h3,h4⟩=>⟨d,st,kd,h1,h2,h3,hq _ h4⟩
 | .nk x neg t,env,Q,Q',hq,⟨d,bs,h1,h2,h3⟩=>⟨d,bs,h1,h2,fun b hb=>dI hq (h3 b hb)⟩
 | .pick x t,env,Q,Q',hq,⟨ys,h1,h2⟩=>⟨ys,h1,fun d st hy=>dI hq (h2 d st hy)⟩
 | .Jc f keep bT res t,env,Q,Q',hq,⟨fk,h1,h2,h3⟩=>⟨fk,h1,h2,dI (fun _=>Hs hq) h3⟩
 | .kV f h args rs sl ks t,env,Q,Q',hq,⟨st,ds,.ret d,h1,h2,h3,h4,h5⟩=>⟨st,ds,.ret d,h1,h2,h3,h4,dI hq h5⟩
 | .kV f h args rs sl ks t,env,Q,Q',hq,⟨st,ds,.fc d,h1,h2,h3,kd,h4,h5⟩=>⟨st,ds,.fc d,h1,h2,h3,kd,h4,hq _ h5⟩
 | .iH f h args rs sl ks t,env,Q,Q',hq,⟨st,ds,.ret d,h',h1,h2,h3,h4,h5⟩=>⟨st,ds,.ret d,h',h1,h2,h3,h4,dI hq h5⟩
 | .iH f h args rs sl ks t,env,Q,Q',hq,⟨st,ds,.fc d,h',h1,h2,h3,kd,h4,h5⟩=>⟨st,ds,.fc d,h',h1,h2,h3,kd,h4,hq _ h5⟩
 | .gu x h args rs sl ks t,env,Q,Q',hq,⟨f,us,cs,st,ds,.ret d,h',g1,g2,h1,h2,h3,h4,h5⟩=>⟨f,us,cs,st,ds,.ret d,h',g1,g2,h1,h2,h3,h4,dI hq h5⟩
 | .gu x h args rs sl ks t,env,Q,Q',hq,⟨f,us,cs,st,ds,.fc d,h',g1,g2,h1,h2,h3,kd,h4,h5⟩=>⟨f,us,cs,st,ds,.fc d,h',g1,g2,h1,h2,h3,kd,h4,hq _ h5⟩
 | .rB x h sl bT n l body rest,env,Q,Q',hq,⟨f,us,cs,st,fk,d,gO,h1,h2,h3,h4,h5,h6,h7,h8⟩=>⟨f,us,cs,st,fk,d,gO,h1,h2,h3,h4,h5,h6,h7,dI hq h8⟩
 | .lz x h sl bT n l q body rest tR,env,Q,Q',hq,⟨f,us,cs,bs,fk,d,bs',stop,h1,h2,h3,h4,h5,h6,h7,h8⟩=>⟨f,us,cs,bs,fk,d,bs',stop,h1,h2,h3,h4,h5,h6,fun e=>dI hq (h7 e),fun e=>dI hq (h8 e)⟩

def ah (bs:List Bind)(t:T):T:=bs.foldr T.bind t

theorem kM {env env':List D}(h:env <+: env'):∀{l:List E} {ds:List D},aM env l=some ds→aM env' l=some ds
 | [],ds,hd=>hd
 | x :: r,ds,hd=>by
  simp only[aM,Option.bind_eq_some_iff,Option.map_eq_some_iff] at hd ⊢
  obtain⟨d,h1,ds',h2,h3⟩:=hd
  exact⟨d,E.cA h x h1,ds',kM h h2,h3⟩

theorem prefix_append (env ds:List D):env <+: env++ds:=⟨ds,rfl⟩

theorem vY {P:Program}{t:T}{Q:iD→Prop}:∀{bs:List Bind} {env:List D},den P (ah bs t) env Q→∃ds,ds.length=bs.length∧den P t (env++ds) Q∧wh P (env++ds) env.length bs
 | [],env,h=>⟨[],rfl,by simpa[ah] using h,fun i b hi=>by simp at hi⟩
 | b :: bs,env,h=>by
  have go:∀{d:D},den P (ah bs t) (env++[d]) Q→(∀ds,cn P (env++[d]++ds) env.length (some b))→∃ds,ds.length=(b :: bs).length∧den P t (env++ds) Q∧wh P (env++ds) env.length (b :: bs):=by
   intro d hd hb
   obtain⟨ds,hl,h1,h2⟩:=vY hd
   refine⟨d :: ds,by simp[hl],by simpa using h1,fun i b' hi=>?_⟩
   cases i with
   | zero=>simp at hi;subst hi;simpa using hb ds
   | succ i=>
    have:=h2 i b' (by simpa using hi)
    simp only[List.length_append,List.length_cons,List.length_nil,List.append_assoc,List.cons_append,List.nil_append] at this
    rwa [show env.length+(i+1)=env.length+(0+1)+i from by omega]
  have xF:∀(d:D) (ds:List D),(env++[d]++ds)[env.length]? = some d:=by
   intro d ds
   simp
  cases b with
  | ev x=>
   obtain⟨d,hx,hd⟩:=h
   exact go hd fun ds=>⟨d,E.cA (by rw[List.append_assoc];exact prefix_append _ _) _ hx,xF d ds⟩
  | call act f hx args rs=>
   obtain⟨qW,d,hx,hd⟩:=h
   refine go hd fun ds=>⟨d,xF d ds,fun ha=>?_⟩
   obtain⟨st,as,h0,h1,h2⟩:=hx (lQ (by rw[List.append_assoc];exact prefix_append _ _) qW ha)
   exact⟨st,as,E.cA (by rw[List.append_assoc];exact prefix_append _ _) _ h0,kM (by rw[List.append_assoc];exact prefix_append _ _) h1,h2⟩
  | fu act x hx args rs=>
   obtain⟨qW,d,hx,hd⟩:=h
   refine go hd fun ds=>⟨d,xF d ds,fun ha=>?_⟩
   have hp:env <+: env++[d]++ds:=by rw[List.append_assoc];exact prefix_append _ _
   obtain⟨f,us,cs,st,as,g0,g1,g2,g3,g4⟩:=hx (lQ hp qW ha)
   exact⟨f,us,cs,st,as,E.cA hp _ g0,g1,E.cA hp _ g2,kM hp g3,g4⟩
  | fC act x hx args rs=>
   obtain⟨qW,st,d,h',g0,g1,g2,hd⟩:=h
   refine go hd fun ds=>?_
   have hp:env <+: env++[.bh [d,h']]++ds:=by rw[List.append_assoc];exact prefix_append _ _
   refine⟨st,d,h',E.cA hp _ g0,xF _ ds,fun ha=>?_,fun hn=>g2 fun ha=>hn (vz hp ha)⟩
   obtain⟨xd,as,k1,k2,k3⟩:=g1 (lQ hp qW ha)
   exact⟨xd,as,E.cA hp _ k1,kM hp k2,k3⟩
  | bQ act f hx args rs=>
   obtain⟨qW,st,d,h',g0,g1,g2,hd⟩:=h
   refine go hd fun ds=>?_
   have hp:env <+: env++[.bh [d,h']]++ds:=by rw[List.append_assoc];exact prefix_append _ _
   refine⟨st,d,h',E.cA hp _ g0,xF _ ds,fun ha=>?_,fun hn=>g2 fun ha=>hn (vz hp ha)⟩
   obtain⟨as,k2,k3⟩:=g1 (lQ hp qW ha)
   exact⟨as,kM hp k2,k3⟩

end
end

section
noncomputable section

inductive Sop where
 | fc (x:E)
 | nk (x:E) (neg:Bool)
 | call (f:FuncId) (args:List E) (rs:List Bool)
 | bQ (f:FuncId) (args:List E) (rs:List Bool)
 | fC (x:E) (args:List E) (rs:List Bool)
 | next (p:E)
 deriving Inhabited

def Iz:Operand→Bool
 | .const (.slice none 0 0)=>true
 | _=>false

def J5 (P:Program)(o:Oper)(σ:af):Option Sop:=
 match o.guard with
 | some _=>none
 | none=>match o.op with
  | .panic x=>(match(σ.zS x).jx,σ.hs with
   | some y,some (.store _ _)=>some (.fc (.m4 .UI y .nil .nil .nil))
   | _,_=>none)
  | .next it false=>(match(σ.zS it).jx,σ.hs with
   | some p,some (.store cf _)=>if cf.ro then none else some (.next p)
   | _,_=>none)
  | .binOp .eql t x y _=>(match P.underlying t with
   | some (.slice _)=>if Iz y then(σ.zS x).jx.map (.nk · false) else none
   | _=>none)
  | .binOp .neq t x y _=>(match P.underlying t with
   | some (.slice _)=>if Iz y then(σ.zS x).jx.map (.nk · true) else none
   | _=>none)
  | .call c=>(match c.callee with
   | .value f=>match σ.zS f,σ.hs with
    | .func (.func f) [],some (.store cf _)=>if cf.fc.contains f then(match P.funcs[f]?,pG (c.args.toList.map σ.zS) with
      | some fn,some xs=>(match vJ P fn.resultTypes.toList with
       | some rs=>if bJ P f=false then none else if cf.wr.contains f then(if cf.ro then none else some (.bQ f xs rs)) else some (.call f xs rs)
       | none=>none)
      | _,_=>none) else none
    | .e x _,some (.store cf _)=>if cf.fc.contains (1000000+o.dst.getD 999999) then(match Kb P o.type,pG (c.args.toList.map σ.zS) with
      | some rs,some xs=>if cf.ro then none else some (.fC x xs rs)
      | _,_=>none) else none
    | _,_=>none
   | _=>none)
  | _=>none

abbrev QG:=af→Nat→Option T

def N2 (σ:af):E:=match σ.hs with | some (.store _ h)=>h | _=>.const (.st [])

def mo (σ:af)(x:E):af:=match σ.hs with | some (.store cf _)=>σ.setObj bN (some (.store cf x)) | _=>σ

def jT (σ:af):List Nat:=match σ.hs with | some (.store cf _)=>cf.keep | _=>[]

def wM (σ:af):Option (List E):=pG ((jT σ).map σ.tmp)

def q8 (w:World)(S:Sets)(a:Act)(slots:List Nat)(kd:List D):Prop:=
 kd.length=slots.length∧∀(i s:Nat) (d:D),slots[i]? = some s→kd[i]? = some d→bU w S (a.tmps.getD s undef) d

def HL (s:Sop)(o:Oper)(σ:af)(u:Nat)(rest:af→Nat→Option T):Option T:=
 match s with
 | .fc x=>(wM σ).map (.fc x (N2 σ) (jT σ))
 | .nk x neg=>(rest (σ.put o.dst (.e (.sym u) true)) (u+1)).map (.nk x neg)
 | .next p=>(rest ((mo σ (.az 1 (.sym u))).put o.dst (.e (.az 0 (.sym u)) false)) (u+1)).map (.pick (.m4 .next (N2 σ) p .nil .nil))
 | .call f xs rs=>(wM σ).bind fun ks=>(rest (σ.put o.dst (Qdz (.sym u) rs)) (u+1)).map (.kV f (N2 σ) xs rs (jT σ) ks)
 | .bQ f xs rs=>(wM σ).bind fun ks=>(rest ((mo σ (.az 1 (.sym u))).put o.dst (Qdz (.az 0 (.sym u)) rs)) (u+1)).map (.iH f (N2 σ) xs rs (jT σ) ks)
 | .fC x xs rs=>(wM σ).bind fun ks=>(rest ((mo σ (.az 1 (.sym u))).put o.dst (Qdz (.az 0 (.sym u)) rs)) (u+1)).map (.gu x (N2 σ) xs rs (jT σ) ks)

def J_ (P:Program)(ops:Array Oper):List Oper→af→Nat→QG→Option T
 | [],σ,u,k=>k σ u
 | o :: r,σ,u,k=>match J5 P o σ with
  | some s=>if qB σ o then HL s o σ u fun σ u=>J_ P ops r σ u k else none
  | none=>match nT P ops o σ u with
   | some (σ',none)=>J_ P ops r σ' u k
   | some (σ',some b)=>(J_ P ops r σ' (u+1) k).map (.bind b)
   | none=>none

def yx (P:Program)(ops:Array Oper):List Oper→af→Nat→Option (Option (Nat×af))
 | [],σ,u=>some (some (u,σ))
 | o :: r,σ,u=>match J5 P o σ with
  | some (.fc _)=>some none
  | some (.nk _ _)=>yx P ops r (σ.put o.dst (.e (.sym u) true)) (u+1)
  | some (.next _)=>yx P ops r ((mo σ (.az 1 (.sym u))).put o.dst (.e (.az 0 (.sym u)) false)) (u+1)
  | some (.call _ _ rs)=>yx P ops r (σ.put o.dst (Qdz (.sym u) rs)) (u+1)
  | some (.fC _ _ rs)=>yx P ops r ((mo σ (.az 1 (.sym u))).put o.dst (Qdz (.az 0 (.sym u)) rs)) (u+1)
  | some (.bQ _ _ rs)=>yx P ops r ((mo σ (.az 1 (.sym u))).put o.dst (Qdz (.az 0 (.sym u)) rs)) (u+1)
  | none=>match nT P ops o σ u with
   | some (σ',none)=>yx P ops r σ' u
   | some (σ',some _)=>yx P ops r σ' (u+1)
   | none=>none

section
variable {P:Program} {w0:World} {X:kG}

theorem Q4 {t e:TypeId}{v:Value}{w:World}(ht:P.underlying t=some (.slice e))(hv:∃ad n c,v=.slice ad n c):∃b,(binOp .eql t v (.slice none 0 0)).run P w=.ok (.bool b) w∧(binOp .neq t v (.slice none 0 0)).run P w=.ok (.bool (!b)) w∧(b=true↔∃n c,v=.slice none n c):=by
 obtain⟨ad,n,c,rfl⟩:=hv
 exact⟨ad.isNone,Lib.run_eql_slice_nil w t e ad n c 0 0 ht,run_neq_slice_nil_any w t e ad n c 0 0 ht,by cases ad <;> simp⟩

theorem UN {w:World}{S:Sets}{v:Value}{d:D}{bs:List Bool}(h:bU w S v d)(hb:d.isNil=some bs):(∃ad n c,v=.slice ad n c)∧∀b:Bool,(b=true↔∃n c,v=.slice none n c)→b∈bs:=by
 unfold D.isNil at hb
 split at hb
 ·cases hb
  obtain⟨ad,n,c,hv,_⟩:=h.D1
  exact⟨⟨ad,n,c,hv⟩,fun b _=>by cases b <;> simp⟩
 ·cases hb
  rename_i hne
  cases h with
  | nil=>exact absurd rfl hne
  | emp _=>exact absurd rfl hne
  | bq=>exact⟨⟨_,_,_,rfl⟩,fun b hb=>by cases b <;> simp at hb ⊢⟩
 ·cases hb
  cases h
  exact⟨⟨_,_,_,rfl⟩,fun b hb=>by cases b <;> simp at hb ⊢⟩
 ·cases hb
  cases h
  exact⟨⟨_,_,_,rfl⟩,fun b hb=>by cases b <;> simp at hb ⊢⟩
 ·cases hb

theorem pg {w:World}{a:Act}{σ:af}{env:List D}{ρ:dJ}(h:cu w0 X w a σ env ρ){cf:cz}{x:E}(hx:σ.hs=some (.store cf x)):N2 σ=x∧σ.obj bN=some (.store cf x)∧∃bs,x.eval env=some (.st bs)∧dF w ρ.S ρ.aJ bs:=by
 have dN:σ.obj bN=some (.store cf x):=by rw[af.dV,if_pos rfl];exact hx
 obtain⟨bs,h1,h2,_⟩:=h.dO _ _ dN
 exact⟨by simp[N2,hx],dN,bs,h1,h2⟩

def acr (w0:World)(X:kG)(Q:iD→Prop)(Q':Exit→Act→World→Prop):Prop:=
 ∀(w:World) (a:Act) (σ:af) (env:List D) (ρ:dJ) (v:Value) (d:D) (bs:List D),cu w0 X w a σ env ρ→bU w ρ.S v d→dF w ρ.S ρ.aJ bs→(∃cf x,σ.obj bN=some (.store cf x))→(∃kd,q8 w ρ.S a (jT σ) kd∧Q (.fc d (.st bs) (jT σ) kd))→Q' (.panic [{ v,recovered:=false }]) a w

theorem rP {w:World}{a:Act}{σ:af}{env:List D}{ρ:dJ}(h:cu w0 X w a σ env ρ){ks:List E}(hk:wM σ=some ks){agK:List D}{kd:List D}(he:aM agK ks=some kd)(hp:agK <+: env):q8 w ρ.S a (jT σ) kd:=by
 obtain⟨ds,cV,hl,hrd⟩:=mZ (w:=w) (ρ:=ρ) (env:=env) (vs:=(jT σ).map fun s=>a.tmps.getD s undef) hk (by simp) (fun i v s hv hs=>by
  simp only[List.getElem?_map,Option.map_eq_some_iff] at hv hs
  obtain⟨x,hx,rfl⟩:=hv
  obtain⟨y,hy,rfl⟩:=hs
  rw[hx] at hy
  cases hy
  exact h.tmps x)
 have:=kM hp he
 rw[cV] at this
 cases this
 exact⟨by simpa using hl.symm,fun i s d hs hd=>hrd i _ d (by simp[hs]) hd⟩

theorem Jm {f:FuncId}{o:Oper}{a:Act}{w:World}{c:Operand}{args:Array Operand}{ts:Array TypeId}(dG:bJ P f=true)(ho:o.op=.call { callee:=.value c,args:=args,argTypes:=ts })(hc:a.eval c=.func (.func f) #[] #[]) :
  (execOp a.eval o).run P w=.ok (.enter f (args.map a.eval)) w:=by
 unfold bJ at dG
 split at dG
 ·rename_i fn hf
  simp only[Bool.and_eq_true,Bool.not_eq_true',Option.isSome_iff_ne_none] at dG
  have VA:fn.body.isNone=false:=by
   cases hb:fn.body with
   | none=>exact absurd hb dG.2
   | some _=>rfl
  unfold execOp
  simp only[ho,resolve,hc,Deferred.ofValue,invoke,Sem.run_bind,Sem.run_pure,Result.andThen_ok,callFunc,run_program,hf,dG.1,VA,Bool.false_eq_true,if_false]
  simp
 ·cases dG

theorem Gi {rd:Option Nat} {nd:Nat} {ops:Array Oper} {o:Oper} {s:Sop} {σ:af} {rest:af→Nat→Option T} {t:T} {env:List D} {Q:iD→Prop} {Q':Exit→Act→World→Prop} {K:Act→World→Prop} {a:Act} {w:World} {ρ:dJ}
  (hs:J5 P o σ=some s) (hnd:vP o=true) (hd:∀d,o.dst=some d→d<σ.tmps.length) (ht:HL s o σ env.length rest=some t) (fQ:den P t env Q) (hr:cu w0 X w a σ env ρ) (hp:acr w0 X Q Q')
  (hK:∀(σ':af) (env':List D) (t':T) (a':Act) (w':World) (ρ':dJ),env <+: env'→rest σ' env'.length=some t'→den P t' env' Q→cu w0 X w' a' σ' env' ρ'→σ'.tmps.length=σ.tmps.length→σ'.mem.length=σ.mem.length→K a' w') :
  Region.wanted o (yielded ops a.tmps)=true∧o.wpIn (FW rd) nd P a w K Q':=by
 unfold J5 at hs
 split at hs
 ·cases hs
 rename_i hg
 refine⟨by simp[Region.wanted,hg],?_⟩
 have hv:=fun x=>Ar (a:=a) hr x
 have Qak:∀sv,(σ.put o.dst sv).tmps.length=σ.tmps.length∧(σ.put o.dst sv).mem.length=σ.mem.length:=fun sv=>by cases o.dst <;> simp[af.fM]
 have nil:∀{op:BinOp} {ty yt:TypeId} {x y:Operand} {x':E} {neg:Bool},o.op=.binOp op ty x y yt→(op=.eql∧neg=false∨op=.neq∧neg=true)→(∃e,P.underlying ty=some (.slice e))→Iz y=true→(σ.zS x).jx=some x'→s=.nk x' neg→o.wpIn (FW rd) nd P a w K Q':=by
  intro op ty yt x y x' neg ho hop ⟨e,hu⟩ hy hx hs
  subst hs
  simp only[HL] at ht
  obtain⟨t',ht',rfl⟩:=Option.map_eq_some_iff.1 ht
  obtain⟨d,bs,he,hb,hall⟩:=fQ
  obtain⟨d',he',hrd⟩:=SV.ck hx (hv x)
  rw[he] at he'
  cases he'
  obtain⟨hform,hmem⟩:=UN hrd hb
  obtain⟨b,h1,h2,h3⟩:=Q4 (P:=P) (w:=w) hu hform
  have S8:a.eval y=.slice none 0 0:=by
   unfold Iz at hy
   split at hy
   ·rfl
   ·cases hy
  have fz:=hall b (hmem b h3)
  have Vm:(eqGuard op ty x y (a.eval x) (.slice none 0 0)).run P w=.ok () w:=by
   obtain⟨ad,n,c,Lf⟩:=hform
   rw[Lf]
   rcases hop with⟨rfl,_⟩ | ⟨rfl,_⟩ <;> simp[eqGuard]
  refine iN (K:=K) hnd ?_ fun _ _ h=>h
  have hrun:(execOp a.eval o).run P w=.ok (.value (.bool (b != neg))) w:=by
   unfold execOp
   rcases hop with⟨rfl,rfl⟩ | ⟨rfl,rfl⟩
   ·simp only[ho,S8,Sem.run_bind,Vm,Result.andThen_ok,h1,Sem.run_pure];simp
   ·simp only[ho,S8,Sem.run_bind,Vm,Result.andThen_ok,h2,Sem.run_pure];simp
  rw[hrun]
  have bn:=(hr.env (prefix_append env [.v (.bool (b != neg))])).put (dst:=o.dst) (v:=.bool (b != neg)) (sv:=.e (.sym env.length) true) hd (.e (d:=.v (.bool (b != neg))) (by simp[E.eval]) (.v rfl) fun _=>rfl)
  exact hK _ _ t' _ _ _ (prefix_append env _) (by rw[List.length_append];exact ht') fz bn (Qak _).1 (Qak _).2
 split at hs
 ·rename_i x ho
  split at hs
  ·rename_i y cf hx0 hx sA
   cases hs
   simp only[HL] at ht
   obtain⟨ks,hks,rfl⟩:=Option.map_eq_some_iff.1 ht
   obtain⟨d,st,kd,he,hh,GN,hq⟩:=fQ
   obtain⟨d',he',hrd⟩:=SV.ck hx (hv x)
   simp only[E.eval,he',Option.bind_some,D.m4] at he
   obtain⟨h1,dN,bs,h2,h3⟩:=pg hr sA
   rw[h1,h2] at hh
   cases hh
   split at he
   case h_2=>cases he
   cases he
   have alk:=hrd
   generalize hve:a.eval x=v at hrd
   cases hrd with
   | oO hd0=>
    refine iN (K:=K) hnd ?_ fun _ _ h=>h
    have hrun:(execOp a.eval o).run P w=.halt (.panic (a.eval x)) w:=by
     unfold execOp
     simp only[ho,hve,Instr.panic,goPanic,Sem.run_bind]
     rfl
    rw[hrun]
    exact hp w a σ env ρ _ _ bs hr alk h3 ⟨cf,_,dN⟩ ⟨kd,rP hr hks GN (List.prefix_refl _),hq⟩
  ·cases hs
 ·rename_i it ho
  split at hs
  ·rename_i p cf hx0 hx sA
   split at hs
   ·cases hs
   rename_i hro
   cases hs
   simp only[HL] at ht
   obtain⟨t',ht',rfl⟩:=Option.map_eq_some_iff.1 ht
   obtain⟨ys,he,hall⟩:=fQ
   obtain⟨dp,hdp,Ye⟩:=SV.ck hx (hv it)
   obtain⟨h1,dN,bs,h2,h3⟩:=pg hr sA
   simp only[E.eval,h1,h2,hdp,Option.bind_some,D.m4] at he
   obtain⟨v,w',d,bs',hmem,hrun,oP,fp,hK',hos,RL,hout,hsz,q_⟩:=Ui (P:=P) (ty:=o.type) h3 Ye he
   have fz:=hall _ _ hmem
   have fH:(execOp a.eval o).run P w=.ok (.value v) w':=by
    unfold execOp
    simp only[ho,Sem.run_bind,hrun,Result.andThen_ok,Sem.run_pure]
   refine iN (K:=K) hnd ?_ fun _ _ h=>h
   rw[fH]
   have hpre:=prefix_append env [.bh [d,.st bs']]
   have cW:(E.sym env.length).eval (env++[.bh [d,.st bs']])=some (.bh [d,.st bs']):=by simp[E.eval]
   have bn:=(hr.env hpre).iu (x':=.az 1 (.sym env.length)) dN (by simpa using hro) (by simp only[E.eval] at cW ⊢;rw[cW];rfl) fp hK' (Sets.le_refl _) hos RL hout (by omega) (fun b _ hb=>q_ b hb) (fun b hb=>⟨.inl hb,by rw[hsz];exact gZ hr dN b hb⟩) (fun b o hs=>.inl hs) (fun b o hs=>by rw[hsz];exact hr.cells b o hs)
   have kY:mo σ (.az 1 (.sym env.length))=σ.setObj bN (some (.store cf (.az 1 (.sym env.length)))):=by unfold mo;rw[sA]
   refine hK _ _ t' _ _ _ hpre (by rw[List.length_append];exact ht') fz (kY ▸ bn.put (dst:=o.dst) (by rw[af.aZ];exact hd) (.e (d:=d) (by simp only[E.eval] at cW ⊢;rw[cW];rfl) oP (by simp))) ?_ ?_
   ·rw[kY];cases o.dst <;> simp[af.fM,af.aZ]
   ·rw[kY];cases o.dst <;> simp[af.fM,af.fG]
  ·cases hs
 ·rename_i ty x y yt ho
  split at hs
  ·rename_i e hu
   split at hs
   ·rename_i hy
    obtain⟨x',hx,rfl⟩:=Option.map_eq_some_iff.1 hs
    exact nil ho (.inl ⟨rfl,rfl⟩) ⟨e,hu⟩ hy hx rfl
   ·cases hs
  ·cases hs
 ·rename_i ty x y yt ho
  split at hs
  ·rename_i e hu
   split at hs
   ·rename_i hy
    obtain⟨x',hx,rfl⟩:=Option.map_eq_some_iff.1 hs
    exact nil ho (.inr ⟨rfl,rfl⟩) ⟨e,hu⟩ hy hx rfl
   ·cases hs
  ·cases hs
 ·rename_i c ho
  obtain⟨callee,args,ts⟩:=c
  simp only at hs
  split at hs
  ·rename_i c
   split at hs
   ·rename_i f cf hE hfv sA
    split at hs
    ·split at hs
     ·rename_i fn xs hfn hxs
      split at hs
      ·rename_i rs tI
       split at hs
       ·cases hs
       ·rename_i dG
        have dG:bJ P f=true:=by simpa using dG
        obtain⟨h1,dN,bs,h2,h3⟩:=pg hr sA
        have hc:a.eval c=.func (.func f) #[] #[]:=by
         have:=hv c
         rw[hfv] at this
         obtain⟨vs,he,hl',_⟩:=this.rV
         rw[he]
         have:vs=#[]:=by simpa using hl'
         rw[this]
        have hrun:=Jm (w:=w) dG ho hc
        obtain⟨ds',oQ,hdl,hrd⟩:=mZ (w:=w) (ρ:=ρ) (vs:=(args.map a.eval).toList) hxs (by simp) (fun i v s Qcz hs'=>by
         simp only[Array.toList_map,List.getElem?_map,Option.map_eq_some_iff] at Qcz hs'
         obtain⟨x,hx',rfl⟩:=Qcz
         obtain⟨y,hy',rfl⟩:=hs'
         rw[hx'] at hy'
         cases hy'
         exact hv x)
        split at hs
        ·split at hs
         ·cases hs
         ·rename_i hro
          cases hs
          simp only[HL] at ht
          obtain⟨ks,hks,ht⟩:=Option.bind_eq_some_iff.1 ht
          obtain⟨t',ht',rfl⟩:=Option.map_eq_some_iff.1 ht
          obtain⟨st,ds,oo,h',uV,cV,gI,RR⟩:=fQ
          rw[h1,h2] at uV
          cases uV
          rw[cV] at oQ
          cases oQ
          refine iN (K:=K) hnd ?_ fun _ _ h=>h
          rw[hrun]
          refine⟨fun e=>(by cases e),callsIn_wide.2 ?_⟩
          refine(gI w ρ.S ρ.aJ bs (args.map a.eval) rfl h3 (hr.mK dN) (gZ hr dN) hr.cells (by simpa using hdl) (fun i v x hv hx'=>hrd i v x (by simpa using hv) hx')).mono ?_
          rintro e w' ⟨v,S',bV,bs',gj,rfl,fp,hk,hS,hos,RL,hout,hsz,q_,hf',GU,IW⟩
          cases oo with
          | ret d=>
           obtain⟨rfl,oP⟩:=gj
           have hpre:=prefix_append env [.bh [d,.st bs']]
           have cW:(E.sym env.length).eval (env++[.bh [d,.st bs']])=some (.bh [d,.st bs']):=by simp[E.eval]
           have bn:=(hr.env hpre).iu (x':=.az 1 (.sym env.length)) dN (by simpa using hro) (by simp only[E.eval] at cW ⊢;rw[cW];rfl) fp hk hS hos RL hout hsz q_ hf' GU IW
           have kY:mo σ (.az 1 (.sym env.length))=σ.setObj bN (some (.store cf (.az 1 (.sym env.length)))):=by unfold mo;rw[sA]
           refine hK _ _ t' _ _ _ hpre (by rw[List.length_append];exact ht') RR.2 (kY ▸ bn.put (dst:=o.dst) (by rw[af.aZ];exact hd) (lD (by simp only[E.eval] at cW ⊢;rw[cW];rfl) oP RR.1)) ?_ ?_
           ·rw[kY];cases o.dst <;> simp[af.fM,af.aZ]
           ·rw[kY];cases o.dst <;> simp[af.fM,af.fG]
          | fc d=>
           obtain⟨rfl,oP⟩:=gj
           have bn:=(hr.env (prefix_append env [.st bs'])).iu (x':=.sym env.length) dN (by simpa using hro) (by simp[E.eval]) fp hk hS hos RL hout hsz q_ hf' GU IW
           obtain⟨kd,GN,hq⟩:=RR
           have GM:jT (σ.setObj bN (some (.store cf (.sym env.length))))=jT σ:=by
            unfold jT
            rw[sA]
            simp[af.fD]
           have hke:wM (σ.setObj bN (some (.store cf (.sym env.length))))=some ks:=by
            unfold wM at hks ⊢
            rw[GM]
            rw[←hks]
            congr 1
           exact hp w' a _ _ _ v d bs' bn oP fp ⟨cf,_,by rw[af.ff (.inl rfl),if_pos rfl]⟩ ⟨kd,rP bn hke GN (prefix_append env _),by rw[GM];exact hq⟩
        ·cases hs
         simp only[HL] at ht
         obtain⟨ks,hks,ht⟩:=Option.bind_eq_some_iff.1 ht
         obtain⟨t',ht',rfl⟩:=Option.map_eq_some_iff.1 ht
         obtain⟨st,ds,oo,uV,cV,gI,RR⟩:=fQ
         rw[h1,h2] at uV
         cases uV
         rw[cV] at oQ
         cases oQ
         refine iN (K:=K) hnd ?_ fun _ _ h=>h
         rw[hrun]
         refine⟨fun e=>(by cases e),callsIn_wide.2 ?_⟩
         refine(gI w ρ.S ρ.aJ bs (args.map a.eval) rfl h3 (hr.mK dN) (gZ hr dN) hr.cells (by simpa using hdl) (fun i v x hv hx'=>hrd i v x (by simpa using hv) hx')).mono ?_
         rintro e w' ⟨v,S',gj,xD,hs1,CC,hs2,JG⟩
         have bn:=hr.behind xD hs1 CC hs2 JG
         cases oo with
         | ret d=>
          obtain⟨rfl,oP⟩:=gj
          have hpre:=prefix_append env [d]
          exact hK _ _ t' _ _ _ hpre (by rw[List.length_append];exact ht') RR.2 ((bn.env hpre).put (dst:=o.dst) hd (lD (by simp[E.eval]) oP RR.1)) (Qak _).1 (Qak _).2
         | fc d=>
          obtain⟨rfl,oP⟩:=gj
          obtain⟨lg,h4,h5,_⟩:=bn.dO _ _ dN
          rw[h2] at h4
          cases h4
          obtain⟨kd,GN,hq⟩:=RR
          exact hp w' a _ _ _ v d bs bn oP h5 ⟨cf,_,dN⟩ ⟨kd,rP bn hks GN (List.prefix_refl _),hq⟩
      ·cases hs
     ·cases hs
    ·cases hs
   ·rename_i xe sb cf hE hfv sA
    split at hs
    ·split at hs
     ·rename_i rs xs tI hxs
      split at hs
      ·cases hs
      ·rename_i hro
       cases hs
       obtain⟨h1,dN,bs,h2,h3⟩:=pg hr sA
       have GP:=hv c
       rw[hfv] at GP
       obtain⟨dc,hdc,hrc,_⟩:=GP.kC
       obtain⟨ds',oQ,hdl,hrd⟩:=mZ (w:=w) (ρ:=ρ) (vs:=(args.map a.eval).toList) hxs (by simp) (fun i v s Qcz hs'=>by
        simp only[Array.toList_map,List.getElem?_map,Option.map_eq_some_iff] at Qcz hs'
        obtain⟨x,hx',rfl⟩:=Qcz
        obtain⟨y,hy',rfl⟩:=hs'
        rw[hx'] at hy'
        cases hy'
        exact hv x)
       simp only[HL] at ht
       obtain⟨ks,hks,ht⟩:=Option.bind_eq_some_iff.1 ht
       obtain⟨t',ht',rfl⟩:=Option.map_eq_some_iff.1 ht
       obtain⟨f,us,cs,st,ds,oo,h',uT,dG,uV,cV,gI,RR⟩:=fQ
       rw[hdc] at uT
       cases uT
       rw[h1,h2] at uV
       cases uV
       rw[cV] at oQ
       cases oQ
       generalize hvc:a.eval c=vc at hrc
       cases hrc with
       | @fn _ uv cv _ _ FK Vw RK IU=>
       have hrun:(execOp a.eval o).run P w=.ok (.enter f (uv++args.map a.eval++cv)) w:=by
        unfold bJ at dG
        split at dG
        ·rename_i fn hf
         simp only[Bool.and_eq_true,Bool.not_eq_true',Option.isSome_iff_ne_none] at dG
         have VA:fn.body.isNone=false:=by
          cases hb:fn.body with
          | none=>exact absurd hb dG.2
          | some _=>rfl
         unfold execOp
         simp only[ho,resolve,hvc,Deferred.ofValue,invoke,Sem.run_bind,Sem.run_pure,Result.andThen_ok,callFunc,run_program,hf,dG.1,VA,Bool.false_eq_true,if_false]
        ·cases dG
       refine iN (K:=K) hnd ?_ fun _ _ h=>h
       rw[hrun]
       refine⟨fun e=>(by cases e),callsIn_wide.2 ?_⟩
       refine(gI w ρ.S ρ.aJ bs _ rfl h3 (hr.mK dN) (gZ hr dN) hr.cells (by simp at hdl;simp[FK,Vw,hdl]) (fun i v x hv hx'=>VP (us:=uv.toList) (vs:=(args.map a.eval).toList) (ws:=cv.toList) (R:=fun v x=>bU w ρ.S v x) (by simpa using FK) hdl (fun i u x hu hx=>RK i u x (by simpa using hu) hx) hrd (fun i u x hu hx=>IU i u x (by simpa using hu) hx) i v x (by rw[←Array.toList_append,←Array.toList_append,Array.getElem?_toList];exact hv) hx')).mono ?_
       rintro e w' ⟨v,S',bV,bs',gj,rfl,fp,hk,hS,hos,RL,hout,hsz,q_,hf',GU,IW⟩
       cases oo with
       | ret d=>
        obtain⟨rfl,oP⟩:=gj
        have hpre:=prefix_append env [.bh [d,.st bs']]
        have cW:(E.sym env.length).eval (env++[.bh [d,.st bs']])=some (.bh [d,.st bs']):=by simp[E.eval]
        have bn:=(hr.env hpre).iu (x':=.az 1 (.sym env.length)) dN (by simpa using hro) (by simp only[E.eval] at cW ⊢;rw[cW];rfl) fp hk hS hos RL hout hsz q_ hf' GU IW
        have kY:mo σ (.az 1 (.sym env.length))=σ.setObj bN (some (.store cf (.az 1 (.sym env.length)))):=by unfold mo;rw[sA]
        refine hK _ _ t' _ _ _ hpre (by rw[List.length_append];exact ht') RR.2 (kY ▸ bn.put (dst:=o.dst) (by rw[af.aZ];exact hd) (lD (by simp only[E.eval] at cW ⊢;rw[cW];rfl) oP RR.1)) ?_ ?_
        ·rw[kY];cases o.dst <;> simp[af.fM,af.aZ]
        ·rw[kY];cases o.dst <;> simp[af.fM,af.fG]
       | fc d=>
        obtain⟨rfl,oP⟩:=gj
        have bn:=(hr.env (prefix_append env [.st bs'])).iu (x':=.sym env.length) dN (by simpa using hro) (by simp[E.eval]) fp hk hS hos RL hout hsz q_ hf' GU IW
        obtain⟨kd,GN,hq⟩:=RR
        have GM:jT (σ.setObj bN (some (.store cf (.sym env.length))))=jT σ:=by
         unfold jT
         rw[sA]
         simp[af.fD]
        have hke:wM (σ.setObj bN (some (.store cf (.sym env.length))))=some ks:=by
         unfold wM at hks ⊢
         rw[GM]
         rw[←hks]
         congr 1
        exact hp w' a _ _ _ v d bs' bn oP fp ⟨cf,_,by rw[af.ff (.inl rfl),if_pos rfl]⟩ ⟨kd,rP bn hke GN (prefix_append env _),by rw[GM];exact hq⟩
     ·cases hs
    ·cases hs
   ·cases hs
  ·cases hs
 ·cases hs

theorem Sf {b:Bind}{t:T}{env:List D}{Q:iD→Prop}(h:den P (.bind b t) env Q):∃d,den P t (env++[d]) Q∧cn P (env++[d]) env.length (some b):=by
 obtain⟨ds,hl,h1,h2⟩:=vY (bs:=[b]) (t:=t) h
 match ds,hl with
 | [d],_=>exact⟨d,h1,h2 0 b rfl⟩

theorem Df {rd:Option Nat} {nd:Nat} {ops:Array Oper} {Q:iD→Prop} {Q':Exit→Act→World→Prop} {k:QG} (hp:acr w0 X Q Q') {N:Nat}
  (hsz:∀(j d:Nat),(ops[j]?).bind (fun(o:Oper)=>o.dst)=some d→d<N) :
  ∀{l:List Oper} {σ:af} {t:T} {env:List D} {a:Act} {w:World} {ρ:dJ},J_ P ops l σ env.length k=some t→den P t env Q→cu w0 X w a σ env ρ→σ.tmps.length=N→σ.mem.length=N →
   (∀(σ':af) (env':List D) (t':T) (a':Act) (w':World) (ρ':dJ),env <+: env'→k σ' env'.length=some t'→den P t' env' Q→cu w0 X w' a' σ' env' ρ'→σ'.tmps.length=N→σ'.mem.length=N→Q' .normal a' w')→wpListIn (FW rd) nd P ops Q' l a w
 | [],σ,t,env,a,w,ρ,hs,hd,hr,h1,h2,hQ=>hQ σ env t a w ρ (List.prefix_refl _) hs hd hr h1 h2
 | o :: r,σ,t,env,a,w,ρ,hs,hd,hr,h1,h2,hQ=>by
  simp only[J_] at hs
  have next:∀{σ':af} {env':List D} {t':T} {a':Act} {w':World} {ρ':dJ},env <+: env'→J_ P ops r σ' env'.length k=some t'→den P t' env' Q→cu w0 X w' a' σ' env' ρ'→σ'.tmps.length=N→σ'.mem.length=N→wpListIn (FW rd) nd P ops Q' r a' w':=by
   intro σ' env' t' a' w' ρ' hpre hs' fz hr' h1' h2'
   exact Df hp hsz hs' fz hr' h1' h2' fun σ2 bP t2 a2 w2 ρ2 hp2=>hQ σ2 bP t2 a2 w2 ρ2 (hpre.trans hp2)
  split at hs
  ·rename_i s WZ
   split at hs
   ·rename_i ig
    obtain⟨hw,hwp⟩:=Gi (ops:=ops) WZ (vo ig) (xM ig) hs hd hr hp (K:=wpListIn (FW rd) nd P ops Q' r) fun σ' env' t' a' w' ρ' hpre hk fz hr' e1 e2=>next hpre hk fz hr' (e1.trans h1) (e2.trans h2)
    unfold wpListIn
    rw[if_pos hw]
    exact hwp
   ·cases hs
  ·have go:∀{σ':af} {b:Option Bind} {env':List D} {t':T},nT P ops o σ env.length=some (σ',b)→env <+: env'→cn P env' env.length b→J_ P ops r σ' env'.length k=some t'→den P t' env' Q→wpListIn (FW rd) nd P ops Q' (o :: r) a w:=by
    intro σ' b env' t' hst hpre hb hs' fz
    have hlen:=Q6 hst
    unfold wpListIn
    rcases Bj (hr.env hpre) (by rw[h1,h2]) (List.IsPrefix.length_le hpre) (fun j d hjd=>by rw[h1];exact hsz j d hjd) hst hb with⟨hw,hok⟩ | ⟨hw,ρ'',bn⟩
    ·rw[if_pos hw]
     refine iN (Bk hst) (hok Q') ?_
     rintro a' w' ⟨ρ',bn⟩
     exact next hpre hs' fz bn (hlen.1.trans h1) (hlen.2.trans h2)
    ·rw[if_neg (by rw[hw];simp)]
     refine⟨fun _ _=>trivial,?_⟩
     exact next hpre hs' fz bn (hlen.1.trans h1) (hlen.2.trans h2)
   split at hs
   ·rename_i σ' hst
    exact go hst (List.prefix_refl _) trivial hs hd
   ·rename_i σ' b hst
    obtain⟨t',hs',rfl⟩:=Option.map_eq_some_iff.1 hs
    obtain⟨d,fz,hb⟩:=Sf hd
    exact go hst (prefix_append env [d]) hb (by rw[List.length_append];exact hs') fz
   ·cases hs

/-! ## a region whose order is drawn,with a special operation at FJ end -/

theorem Oper.MI {F:Fence}{n:Nat}{o:Oper}{a:Act}{w:World}{K:Act→World→Prop}{Q1 Q2:Exit→Act→World→Prop}(h1:∀c a w,Q1 (.panic c) a w→Q2 (.panic c) a w)(h2:∀a w,Q1 .outgrown a w→Q2 .outgrown a w)(h:o.wpIn F n P a w K Q1):o.wpIn F n P a w K Q2:=by
 unfold Oper.wpIn at *
 refine⟨h.1,?_⟩
 have h:=h.2
 have hl:LetsOut Q1→LetsOut Q2:=fun⟨a,w,h⟩=>⟨a,w,h2 a w h⟩
 generalize(o.semAt F.round a.eval).run P w=r at *
 cases r with
 | ok n w'=>
  cases n <;> simp only[Oper.uponIn] at h ⊢ <;>
   first
    | exact h
    | exact⟨h.1,CallsIn.mono h.2 (fun e w'' he=>by cases e <;> first | exact he | exact h1 _ _ _ he | exact hl he)⟩
    | exact⟨h.1,RowsIn.mono h.2 (fun _ _ he=>he)⟩
    | exact⟨h.1,RoundIn.mono h.2 (fun e w'' he=>by cases e <;> first | exact he | exact h1 _ _ _ he | exact hl he)⟩
 | halt x w'=>cases x <;> simp only[Oper.uponIn] at h ⊢ <;> first | exact h1 _ _ _ h | exact h

def Iu (ops:Array Oper):Bool:=
 (List.range (ops.size-1)).all (fun j=>((lF ops.toList []).getD (ops.size-1) 0).testBit j)&&(List.range ops.size).all fun i=>match ops[i]? with
  | some o=>(i==ops.size-1||match o.guard with | some (j,_)=>decide (j<ops.size-1) | none=>true)&&o.after.all fun e=>!Region.binds .any e||decide (e.on<i)
  | none=>false

theorem JO {ops:Array Oper}{tmps:Array Value}{j:Nat}(hj:j<ops.size-1):yielded ops.pop tmps j=yielded ops tmps j:=by
 unfold yielded
 rw[Array.getElem?_pop]
 simp[hj]

theorem MJ {F:Fence}{n:Nat}{ops:Array Oper}{Q:Exit→Act→World→Prop}(h0:0<ops.size)(hl:Iu ops=true) :
  ∀(fuel:Nat) (listed:Array Bool) (a:Act) (w:World),listed.size=ops.size-1→jU ops (Qbq listed) →
   wpAnyIn F n P .any ops.pop (fun e a w=>match e with | .normal=>wpOpIn F n P ops Q (ops.size-1) (Q .normal) a w | e=>Q e a w) fuel listed a w→wpAnyIn F n P .any ops Q (fuel+1) (listed.push false) a w:=by
 simp only[Iu,Bool.and_eq_true,List.all_eq_true,List.mem_range] at hl
 obtain⟨tJ,hall⟩:=hl
 have xF:∀(i:Nat) (o:Oper),ops[i]? = some o→(i<ops.size-1→∀j b,o.guard=some (j,b)→j<ops.size-1)∧∀e,e∈o.after→Region.binds .any e=true→e.on<i:=by
  intro i o ho
  have:=hall i (Array.getElem?_eq_some_iff.1 ho).1
  rw[ho] at this
  simp only[Bool.and_eq_true,Bool.or_eq_true,beq_iff_eq] at this
  refine⟨fun hi j b hg=>?_,fun e he hb=>?_⟩
  ·have h1:=this.1.resolve_left (by omega)
   rw[hg] at h1
   simpa using h1
  ·have:=Array.all_eq_true'.1 this.2 e he
   simpa[hb] using this
 have mM:∀(listed:Array Bool) (j:Nat),listed.size=ops.size-1→j<ops.size-1→∀d,(listed.push false).getD j d=listed.getD j false:=by
  intro listed j hs hj d
  simp only[Array.getD_eq_getD_getElem?]
  rw[Array.getElem?_push_lt (by omega)]
  simp[show j<listed.size by omega]
 have ZB:∀(listed:Array Bool),listed.size=ops.size-1→∀d,(listed.push false).getD (ops.size-1) d=false:=by
  intro listed hs d
  simp only[Array.getD_eq_getD_getElem?,←hs,Array.getElem?_push_size]
  rfl
 have afx:∀i,i<ops.size-1→ops.pop[i]? = ops[i]?:=fun i hi=>by rw[Array.getElem?_pop];simp[hi]
 have step:∀(fuel:Nat) (listed:Array Bool) (a:Act) (w:World),listed.size=ops.size-1→jU ops (Qbq listed) →
   wpAnyIn F n P .any ops.pop (fun e a w=>match e with | .normal=>wpOpIn F n P ops Q (ops.size-1) (Q .normal) a w | e=>Q e a w) fuel listed a w →
   (∀f,fuel=f+1→∀(listed:Array Bool) (a:Act) (w:World),listed.size=ops.size-1→jU ops (Qbq listed) →
    wpAnyIn F n P .any ops.pop (fun e a w=>match e with | .normal=>wpOpIn F n P ops Q (ops.size-1) (Q .normal) a w | e=>Q e a w) f listed a w→wpAnyIn F n P .any ops Q (f+1) (listed.push false) a w) →
   wpAnyIn F n P .any ops Q (fuel+1) (listed.push false) a w:=by
  intro fuel listed a w hs dG h ih
  have hgd:∀(j:Nat),j<ops.size-1→listed.getD j true=listed.getD j false:=fun j hj=>by
   simp only[Array.getD_eq_getD_getElem?]
   simp[show j<listed.size by omega]
  refine⟨fun wm=>?_,fun i hi=>?_⟩
  ·exfalso
   have hdone:∀j,j<ops.size→(listed.push false).getD j false=true:=by
    intro j
    induction j using Nat.strongRecOn with
    | _ j ihj=>
     intro hj
     refine Classical.byContradiction fun hnd=>?_
     have hmem:j∈Region.ready .any ops (listed.push false):=by
      refine mem_ready.2 ⟨?_,ops[j],Array.getElem?_eq_getElem hj,fun e he hb=>?_⟩
      ·rcases Nat.lt_or_ge j (ops.size-1) with hlt | hge
       ·rw[mM listed j hs hlt] at hnd ⊢
        simpa using hnd
       ·have:j=ops.size-1:=by omega
        rw[this,ZB listed hs]
      ·have:=(xF j ops[j] (Array.getElem?_eq_getElem hj)).2 e he hb
       exact ihj e.on this (by omega)
     rw[wm] at hmem
     cases hmem
   have:=hdone (ops.size-1) (by omega)
   rw[ZB listed hs] at this
   cases this
  ·obtain⟨h1,o,ho,ha⟩:=mem_ready.1 hi
   have hin:=(Array.getElem?_eq_some_iff.1 ho).1
   rcases Nat.lt_or_ge i (ops.size-1) with hlt | hge
   ·have hia:∀e,e∈o.after→Region.binds .any e=true→listed.getD e.on false=true:=fun e he hb=>by
     have h2:=ha e he hb
     have h3:=(xF i o ho).2 e he hb
     rwa [mM listed e.on hs (by omega)] at h2
    have hi':i∈Region.ready .any ops.pop listed:=by
     refine mem_ready.2 ⟨?_,o,by rw[afx i hlt];exact ho,hia⟩
     rw[mM listed i hs hlt] at h1
     rw[hgd i hlt]
     exact h1
    cases fuel with
    | zero=>rw[h.1] at hi';cases hi'
    | succ f=>
     have h2:=h.2 i hi'
     have kY:(listed.push false).setIfInBounds i true=(listed.setIfInBounds i true).push false:=by
      apply Array.ext'
      rw[Array.toList_setIfInBounds,Array.toList_push,Array.toList_push,Array.toList_setIfInBounds,List.set_append_left _ _ (by simpa using(by omega:i<listed.size))]
     have Vx:jU ops (Qbq (listed.setIfInBounds i true)):=by
      intro k ok hk hok e he hb
      simp only[Qbq,Array.getD_eq_getD_getElem?,Array.getElem?_setIfInBounds] at hk ⊢
      by_cases hki:i=k
      ·subst hki
       rw[ho] at hok
       cases hok
       have:=hia e he hb
       simp only[Array.getD_eq_getD_getElem?] at this
       split
       ·rename_i hh;simp[show i<listed.size by omega]
       ·exact this
      ·rw[if_neg hki] at hk
       have:=dG k ok (by simpa[Qbq,Array.getD_eq_getD_getElem?] using hk) hok e he hb
       simp only[Qbq,Array.getD_eq_getD_getElem?] at this
       split
       ·simp[show i<listed.size by omega]
       ·exact this
     have hnext:=ih f rfl
     unfold wpOpIn at h2 ⊢
     rw[afx i hlt,ho] at h2
     rw[ho]
     simp only at h2 ⊢
     have Qaj:Region.wanted o (yielded ops.pop a.tmps)=Region.wanted o (yielded ops a.tmps):=by
      unfold Region.wanted
      cases hg:o.guard with
      | none=>rfl
      | some g=>
       obtain⟨j,b⟩:=g
       simp only
       rw[JO ((xF i o ho).1 hlt j b hg)]
     rw[Qaj] at h2
     have fin:∀a' w',wpAnyIn F n P .any ops.pop (fun e a w=>match e with | .normal=>wpOpIn F n P ops Q (ops.size-1) (Q .normal) a w | e=>Q e a w) f (listed.setIfInBounds i true) a' w'→wpAnyIn F n P .any ops Q (f+1) ((listed.push false).setIfInBounds i true) a' w':=by
      intro a' w' h3
      rw[kY]
      exact hnext _ a' w' (by simp[hs]) Vx h3
     split
     ·rename_i hw
      rw[if_pos hw] at h2
      exact Oper.wpIn_mono fin (Oper.MI (fun _ _ _ h=>h) (fun _ _ h=>h) h2)
     ·rename_i hw
      rw[if_neg hw] at h2
      exact⟨h2.1,fin _ _ h2.2⟩
   ·obtain rfl:i=ops.size-1:=by omega
    have hia:∀e,e∈o.after→Region.binds .any e=true→Qbq listed e.on=true:=fun e he hb=>by
     have h2:=ha e he hb
     have h3:=(xF _ o ho).2 e he hb
     rwa [mM listed e.on hs h3] at h2
    have hdone:∀j,j<ops.size-1→Qbq listed j=true:=fun j hj=>xo dG ho hia (tJ j hj)
    have wm:Region.ready .any ops.pop listed=[]:=by
     cases hr:Region.ready .any ops.pop listed with
     | nil=>rfl
     | cons j l=>
      have hmem:j∈Region.ready .any ops.pop listed:=by rw[hr];simp
      obtain⟨h3,o',ho',_⟩:=mem_ready.1 hmem
      have hj:j<ops.size-1:=by simpa using(Array.getElem?_eq_some_iff.1 ho').1
      rw[hgd j hj] at h3
      have:=hdone j hj
      simp only[Qbq] at this
      rw[this] at h3
      cases h3
    have hq:wpOpIn F n P ops Q (ops.size-1) (Q .normal) a w:=by
     cases fuel with
     | zero=>exact h.2
     | succ f=>exact h.1 wm
    refine wpOpIn_mono (fun a' w' Yf=>?_) hq
    have Ls:Region.ready .any ops ((listed.push false).setIfInBounds (ops.size-1) true)=[]:=by
     cases hr:Region.ready .any ops ((listed.push false).setIfInBounds (ops.size-1) true) with
     | nil=>rfl
     | cons j l=>
      have hmem:j∈Region.ready .any ops ((listed.push false).setIfInBounds (ops.size-1) true):=by rw[hr];simp
      obtain⟨h3,o',ho',_⟩:=mem_ready.1 hmem
      have hj:j<ops.size:=(Array.getElem?_eq_some_iff.1 ho').1
      simp only[Array.getD_eq_getD_getElem?,Array.getElem?_setIfInBounds] at h3
      split at h3
      ·simp[hs] at h3
      ·rename_i hne
       have hj':j<ops.size-1:=by omega
       have:=hdone j hj'
       have h4:=mM listed j hs hj' true
       simp only[Array.getD_eq_getD_getElem?] at h4
       rw[h4] at h3
       simp only[Qbq,Array.getD_eq_getD_getElem?] at this
       rw[this] at h3
       cases h3
    cases fuel with
    | zero=>exact⟨Ls,Yf⟩
    | succ f=>exact⟨fun _=>Yf,fun j hj=>by rw[Ls] at hj;cases hj⟩
 have hgd:∀(listed:Array Bool) (j:Nat),listed.size=ops.size-1→j<ops.size-1→listed.getD j true=listed.getD j false:=fun listed j hs hj=>by
  simp only[Array.getD_eq_getD_getElem?]
  simp[show j<listed.size by omega]
 intro fuel
 induction fuel with
 | zero=>
  intro listed a w hs dG h
  exact step 0 listed a w hs dG h fun f hf=>by omega
 | succ fuel ih=>
  intro listed a w hs dG h
  exact step (fuel+1) listed a w hs dG h fun f hf=>by
   obtain rfl:f=fuel:=by omega
   exact ih

end
end
end

section
noncomputable section

def E.upto (n:Nat):E→Bool
 | .sym k=>decide (k<n)
 | .const _ | .nil | .ax=>true
 | .bin _ _ a b | .idx a b | .uS _ a b | .cons a b | .app _ _ a b | .bz a b | .gV _ a b | .guard a _ b | .aa a b | .mm _ a b | .aj _ a b | .ld _ _ a b | .cI _ _ a b | .a_ _ _ a b | .bO a b | .ve _ a b | .vf a b=>a.upto n&&b.upto n
 | .un _ a | .conv _ a | .aR a | .uJ a | .bt a | .cell _ a | .cells _ _ a | .bB _ a | .one a | .az _ a | .rep _ a _ | .deref a | .oO _ a | .gE a | .ay _ a | .nn a | .aU a=>a.upto n
 | .sub _ a b c | .ite a b c | .gQ _ a b c | .fU _ _ _ a b c | .apps a b c=>a.upto n&&b.upto n&&c.upto n
 | .set a b _ c=>a.upto n&&b.upto n&&c.upto n
 | .m4 _ a b c d=>a.upto n&&b.upto n&&c.upto n&&d.upto n

theorem E.nE {n : Nat} {env env' : List D} (h : ∀ k, k < n → env[k]? = env'[k]?) : ∀ {x : E}, x.upto n = true → x.eval env = x.eval env' := by
 intro x
 induction x <;> intro hb <;> simp only [E.upto, Bool.and_eq_true, decide_eq_true_eq] at hb <;> simp only [E.eval]
 case sym k => exact h k hb
 all_goals first
  | rfl
  | (rename_i ih; rw [ih hb])
  | (rename_i i1 i2; rw [i1 hb.1, i2 hb.2])
  | (rename_i i1 i2 i3; rw [i1 hb.1.1, i2 hb.1.2, i3 hb.2])
  | (rename_i i1 i2 i3 i4; rw [i1 hb.1.1.1, i2 hb.1.1.2, i3 hb.1.2, i4 hb.2])

mutual
def SV.upto (n:Nat):SV→Bool
 | .cE | .addr _ _ | .oc _=>true
 | .e x _ | .aj _ x _ _ | .iV x _ | .own x _=>x.upto n
 | .agg cs | .bh cs=>SV.qg n cs
 | .func _ cs=>SV.qg n cs
 | .cond act sv=>act.all (fun p=>p.1.upto n)&&sv.upto n
def SV.qg (n:Nat):List SV→Bool
 | []=>true
 | s :: r=>s.upto n&&SV.qg n r
end

theorem SV.qf {n:Nat}:∀{cs:List SV} {i:Nat} {c:SV},SV.qg n cs=true→cs[i]? = some c→c.upto n=true
 | [],i,c,_,h=>by simp at h
 | s :: r,0,c,h,hi=>by simp[SV.qg] at h hi;exact hi ▸ h.1
 | s :: r,i+1,c,h,hi=>by simp[SV.qg] at h hi;exact SV.qf h.2 hi

theorem ef.cut {w:World}{ρ:dJ}{n:Nat}{env env':List D}{v:Value}{sv:SV}(h:ef w ρ env v sv)(he:∀k,k<n→env[k]? = env'[k]?)(hb:sv.upto n=true):ef w ρ env' v sv:=by
 induction h with
 | cE=>exact .cE
 | e hx h h1=>exact .e ((E.nE he (by simpa[SV.upto] using hb)) ▸ hx) h h1
 | agg hl ho _ ih=>exact .agg hl ho fun i v c hv hc=>ih i v c hv hc (SV.qf (by simpa[SV.upto] using hb) hc)
 | bh hl _ ih=>exact .bh hl fun i v c hv hc=>ih i v c hv hc (SV.qf (by simpa[SV.upto] using hb) hc)
 | addr=>exact .addr
 | aj hx=>exact .aj ((E.nE he (by simpa[SV.upto] using hb)) ▸ hx)
 | iV hx h=>exact .iV ((E.nE he (by simpa[SV.upto] using hb)) ▸ hx) h
 | own hx h hv=>exact .own ((E.nE he (by simpa[SV.upto] using hb)) ▸ hx) h hv
 | oc=>exact .oc
 | func hl _ ih=>exact .func hl fun i v c hv hc=>ih i v c hv hc (SV.qf (by simpa[SV.upto] using hb) hc)
 | @cond v act sv hd _ hn ih=>
  simp only[SV.upto,Bool.and_eq_true,List.all_eq_true] at hb
  have cV:∀p,p∈act→p.1.eval env=p.1.eval env':=fun p hp=>E.nE he (hb.1 p hp)
  have hact:bI env act↔bI env' act:=⟨fun h p hp=>(cV p hp) ▸ h p hp,fun h p hp=>(cV p hp).symm ▸ h p hp⟩
  exact .cond (fun p hp=>let ⟨d,h⟩:=hd p hp;⟨d,(cV p hp) ▸ h⟩) (fun ha=>ih (hact.2 ha) hb.2) fun ha=>hn fun h=>ha (hact.1 h)

def GI (base n:Nat):E→Bool
 | .sym k=>decide (k=base+n)
 | _=>false

mutual
def gW (base:Nat):SV→SV→List E→Option (List E)
 | .cE,_,acc=>some acc
 | .e x s,sv,acc=>
  if GI base acc.length x then(match s,sv with
   | true,.e y true=>some (acc++[y])
   | true,.own y _=>some (acc++[y])
   | false,sv=>sv.jx.map fun y=>acc++[y]
   | _,_=>none)
  else if(SV.e x s).same sv&&x.upto base then some acc else none
 | .own x k,sv,acc=>
  if GI base acc.length x then(match sv with
   | .own y k'=>if k=k' then some (acc++[y]) else none
   | _=>none)
  else if(SV.own x k).same sv&&x.upto base then some acc else none
 | .agg ts,sv,acc=>match sv with
  | .agg cs=>ko base ts cs acc
  | _=>none
 | .bh ts,sv,acc=>if(SV.bh ts).same sv&&SV.qg base ts then some acc else none
 | .addr o f,sv,acc=>if(SV.addr o f).same sv then some acc else none
 | .aj o x s f,sv,acc=>if(SV.aj o x s f).same sv&&x.upto base then some acc else none
 | .iV x f,sv,acc=>if(SV.iV x f).same sv&&x.upto base then some acc else none
 | .oc o,sv,acc=>if(SV.oc o).same sv then some acc else none
 | .func fn ts,sv,acc=>if(SV.func fn ts).same sv&&SV.qg base ts then some acc else none
 | .cond _ _,_,_=>none
def ko (base:Nat):List SV→List SV→List E→Option (List E)
 | [],[],acc=>some acc
 | t :: ts,s :: ss,acc=>(gW base t s acc).bind fun acc=>ko base ts ss acc
 | _,_,_=>none
end

def rM (base:Nat):bl→bl→List E→Option (List E)
 | .box ts,.box cs,acc=>ko base ts cs acc
 | .row x sz,.row y sz',acc=>if sz=sz' then(if GI base acc.length x then some (acc++[y]) else if x.same y&&x.upto base then some acc else none) else none
 | .tok e sz,.tok e' sz',acc=>if e=e'∧sz=sz' then some acc else none
 | .store cf x,.store Qdy y,acc=>if cf=Qdy then(if GI base acc.length x then some (acc++[y]) else if x.same y&&x.upto base then some acc else none) else none
 | _,_,_=>none

def gC (base:Nat):List (Option bl)→List (Option bl)→List E→Option (List E)
 | [],[],acc=>some acc
 | none :: ts,_ :: ss,acc=>gC base ts ss acc
 | some t :: ts,some s :: ss,acc=>(rM base t s acc).bind fun acc=>gC base ts ss acc
 | _,_,_=>none

def H_ (base:Nat):Option bl→Option bl→List E→Option (List E)
 | none,_,acc=>some acc
 | some t,some s,acc=>rM base t s acc
 | _,_,_=>none

def Nx (base:Nat)(tm σ:af):Option (List E):=if bN<tm.mem.length then none else
 (ko base tm.tmps σ.tmps []).bind fun acc=>(gC base tm.mem σ.mem acc).bind fun acc=>H_ base tm.hs σ.hs acc

section
variable {w w0:World} {X:kG} {a:Act} {env:List D} {ρ:dJ}

theorem p5:∀{l m:List E} {ds:List D},aM env (l++m)=some ds→∃d1 d2,aM env l=some d1∧aM env m=some d2∧ds=d1++d2
 | [],m,ds,h=>⟨[],ds,rfl,h,rfl⟩
 | x :: r,m,ds,h=>by
  simp only[List.cons_append,aM,Option.bind_eq_some_iff,Option.map_eq_some_iff] at h
  obtain⟨d,h1,ds',h2,rfl⟩:=h
  obtain⟨d1,d2,h3,h4,rfl⟩:=p5 h2
  exact⟨d :: d1,d2,by simp[aM,h1,h3],h4,rfl⟩

theorem vi:∀{l:List E} {ds:List D},aM env l=some ds→ds.length=l.length
 | [],ds,h=>by simp[aM] at h;simp[←h]
 | x :: r,ds,h=>by
  simp only[aM,Option.bind_eq_some_iff,Option.map_eq_some_iff] at h
  obtain⟨d,_,ds',h2,rfl⟩:=h
  simp[vi h2]

abbrev mS (env:List D)(base:Nat)(ds:List D):List D:=env.take base++ds

theorem xO {base:Nat}{ds:List D}(hb:base≤env.length):∀k,k<base→env[k]? = (mS env base ds)[k]?:=by
 intro k hk
 rw[List.getElem?_append_left (by simp;omega),List.getElem?_take,if_pos hk]

theorem rF {base:Nat}{acc zN:List E}{y x:E}{ds:List D}(hb:base≤env.length)(hx:GI base acc.length x=true)(hp:acc++[y] <+: zN)(hd:aM env zN=some ds):x.eval (mS env base ds)=y.eval env:=by
 obtain⟨r,rfl⟩:=hp
 obtain⟨d1,d2,h1,_,rfl⟩:=p5 hd
 obtain⟨d3,d4,h3,h4,rfl⟩:=p5 h1
 simp only[aM,Option.bind_eq_some_iff,Option.map_some,Option.some.injEq] at h4
 obtain⟨d,hy,rfl⟩:=h4
 unfold GI at hx
 split at hx
 ·simp only[decide_eq_true_eq] at hx
  subst hx
  have hl:=vi h3
  simp only[E.eval,mS,hy]
  rw[List.getElem?_append_right (by simp;omega)]
  simp only[List.length_take,Nat.min_eq_left hb,Nat.add_sub_cancel_left,List.append_assoc]
  rw[←hl]
  simp
 ·cases hx

theorem jf {α:Type}(a b:List α):a <+: a++b:=⟨b,rfl⟩

mutual
theorem KC {base:Nat}:∀{t sv:SV} {acc acc':List E},gW base t sv acc=some acc'→acc <+: acc'
 | .cE,sv,acc,acc',h=>by simp[gW] at h;subst h;exact⟨[],by simp⟩
 | .e x s,sv,acc,acc',h=>by
  simp only[gW] at h
  split at h
  ·split at h
   ·cases h;exact jf _ _
   ·cases h;exact jf _ _
   ·obtain⟨y,_,rfl⟩:=Option.map_eq_some_iff.1 h;exact jf _ _
   ·cases h
  ·split at h
   ·cases h;exact⟨[],by simp⟩
   ·cases h
 | .own x k,sv,acc,acc',h=>by
  simp only[gW] at h
  split at h
  ·split at h
   ·split at h
    ·cases h;exact jf _ _
    ·cases h
   ·cases h
  ·split at h
   ·cases h;exact⟨[],by simp⟩
   ·cases h
 | .agg ts,sv,acc,acc',h=>by
  simp only[gW] at h
  split at h
  ·exact oK h
  ·cases h
 | .bh ts,sv,acc,acc',h | .addr _ _,sv,acc,acc',h | .aj _ _ _ _,sv,acc,acc',h | .iV _ _,sv,acc,acc',h | .oc _,sv,acc,acc',h | .func _ _,sv,acc,acc',h=>by
  simp only[gW] at h
  split at h
  ·cases h;exact⟨[],by simp⟩
  ·cases h
 | .cond _ _,sv,acc,acc',h=>by simp[gW] at h
theorem oK {base:Nat}:∀{ts ss:List SV} {acc acc':List E},ko base ts ss acc=some acc'→acc <+: acc'
 | [],[],acc,acc',h=>by simp[ko] at h;subst h;exact⟨[],by simp⟩
 | t :: ts,s :: ss,acc,acc',h=>by
  simp only[ko,Option.bind_eq_some_iff] at h
  obtain⟨Jx,h1,h2⟩:=h
  exact(KC h1).trans (oK h2)
 | [],_ :: _,_,_,h | _ :: _,[],_,_,h=>by simp[ko] at h
end


theorem ef.qm {base:Nat}{ds:List D}{t sv:SV}{v:Value}(hb:base≤env.length)(h:t.same sv=true)(hu:t.upto base=true)(hr:ef w ρ env v sv):ef w ρ (mS env base ds) v t:=by
 have e:=SV.dU h
 subst e
 exact hr.cut (xO hb) hu

mutual
theorem Nw {base:Nat}{zN:List E}{ds:List D}(hb:base≤env.length)(hd:aM env zN=some ds):∀{t sv:SV} {acc acc':List E} {v:Value},gW base t sv acc=some acc'→acc' <+: zN→ef w ρ env v sv→ef w ρ (mS env base ds) v t
 | .cE,sv,acc,acc',v,h,hp,hr=>.cE
 | .e x s,sv,acc,acc',v,h,hp,hr=>by
  simp only[gW] at h
  split at h
  ·rename_i hx
   split at h
   ·cases h
    obtain⟨d,fz,hrd,h1⟩:=hr.kC
    exact .e ((rF hb hx hp hd).trans fz) hrd h1
   ·cases h
    obtain⟨es,fz,hrd,_⟩:=hr.yH
    exact .e ((rF hb hx hp hd).trans fz) hrd fun _=>rfl
   ·obtain⟨y,hy,rfl⟩:=Option.map_eq_some_iff.1 h
    obtain⟨d,fz,hrd⟩:=SV.ck hy hr
    exact .e ((rF hb hx hp hd).trans fz) hrd (by simp)
   ·cases h
  ·split at h
   ·rename_i hc
    simp only[Bool.and_eq_true] at hc
    exact hr.qm hb hc.1 (by simpa[SV.upto] using hc.2)
   ·cases h
 | .own x k,sv,acc,acc',v,h,hp,hr=>by
  simp only[gW] at h
  split at h
  ·rename_i hx
   split at h
   ·split at h
    ·rename_i hk
     cases h
     subst hk
     obtain⟨es,fz,hrd,h1⟩:=hr.yH
     exact .own ((rF hb hx hp hd).trans fz) hrd h1
    ·cases h
   ·cases h
  ·split at h
   ·rename_i hc
    simp only[Bool.and_eq_true] at hc
    exact hr.qm hb hc.1 (by simpa[SV.upto] using hc.2)
   ·cases h
 | .agg ts,sv,acc,acc',v,h,hp,hr=>by
  simp only[gW] at h
  split at h
  ·obtain⟨vs,rfl,hl,ho,hh⟩:=hr.lV
   obtain⟨hlen,hall⟩:=qu (vs:=vs.toList) hb hd h hp (by simpa using hl) (fun i v c hv hc=>hh i v c (by simpa using hv) hc)
   exact .agg (by rw[hl,hlen]) ho fun i v c hv hc=>hall i v c (by simpa using hv) hc
  ·cases h
 | .bh ts,sv,acc,acc',v,h,hp,hr=>by
  simp only[gW] at h
  split at h
  ·rename_i hc
   simp only[Bool.and_eq_true] at hc
   exact hr.qm hb hc.1 (by simpa[SV.upto] using hc.2)
  ·cases h
 | .addr o f,sv,acc,acc',v,h,hp,hr=>by
  simp only[gW] at h
  split at h
  ·rename_i hc
   exact hr.qm hb hc (by simp[SV.upto])
  ·cases h
 | .aj o x s f,sv,acc,acc',v,h,hp,hr=>by
  simp only[gW] at h
  split at h
  ·rename_i hc
   simp only[Bool.and_eq_true] at hc
   exact hr.qm hb hc.1 (by simpa[SV.upto] using hc.2)
  ·cases h
 | .iV x f,sv,acc,acc',v,h,hp,hr=>by
  simp only[gW] at h
  split at h
  ·rename_i hc
   simp only[Bool.and_eq_true] at hc
   exact hr.qm hb hc.1 (by simpa[SV.upto] using hc.2)
  ·cases h
 | .oc o,sv,acc,acc',v,h,hp,hr=>by
  simp only[gW] at h
  split at h
  ·rename_i hc
   exact hr.qm hb hc (by simp[SV.upto])
  ·cases h
 | .func fn ts,sv,acc,acc',v,h,hp,hr=>by
  simp only[gW] at h
  split at h
  ·rename_i hc
   simp only[Bool.and_eq_true] at hc
   exact hr.qm hb hc.1 (by simpa[SV.upto] using hc.2)
  ·cases h
 | .cond _ _,sv,acc,acc',v,h,hp,hr=>by simp[gW] at h
theorem qu {base:Nat}{zN:List E}{ds:List D}(hb:base≤env.length)(hd:aM env zN=some ds):∀{ts ss:List SV} {acc acc':List E} {vs:List Value},ko base ts ss acc=some acc'→acc' <+: zN→vs.length=ss.length →
  (∀(i:Nat) (v:Value) (c:SV),vs[i]? = some v→ss[i]? = some c→ef w ρ env v c)→ss.length=ts.length∧∀(i:Nat) (v:Value) (c:SV),vs[i]? = some v→ts[i]? = some c→ef w ρ (mS env base ds) v c
 | [],[],acc,acc',vs,h,hp,hl,hh=>⟨rfl,by simp⟩
 | t :: ts,s :: ss,acc,acc',vs,h,hp,hl,hh=>by
  match vs,hl with
  | v :: vs,hl=>
   simp only[ko,Option.bind_eq_some_iff] at h
   obtain⟨Jx,h1,h2⟩:=h
   have hr:=Nw hb hd h1 ((oK h2).trans hp) (hh 0 v s rfl rfl)
   obtain⟨hlen,hall⟩:=qu (vs:=vs) hb hd h2 hp (by simpa using hl) (fun i v c hv hc=>hh (i+1) v c (by simpa using hv) (by simpa using hc))
   refine⟨by simp[hlen],fun i v' c hv hc=>?_⟩
   cases i with
   | zero=>simp at hv hc;subst hv hc;exact hr
   | succ i=>exact hall i v' c (by simpa using hv) (by simpa using hc)
 | [],_ :: _,_,_,_,h,_,_,_ | _ :: _,[],_,_,_,h,_,_,_=>by simp[ko] at h
end

theorem yS {base:Nat}{t s:bl}{acc Jx:List E}(h1:rM base t s acc=some Jx):acc <+: Jx:=by
 unfold rM at h1
 split at h1
 ·exact oK h1
 ·split at h1
  ·split at h1
   ·cases h1;exact jf _ _
   ·split at h1
    ·cases h1;exact⟨[],by simp⟩
    ·cases h1
  ·cases h1
 ·split at h1
  ·cases h1;exact⟨[],by simp⟩
  ·cases h1
 ·split at h1
  ·split at h1
   ·cases h1;exact jf _ _
   ·split at h1
    ·cases h1;exact⟨[],by simp⟩
    ·cases h1
  ·cases h1
 ·cases h1

theorem DW {base:Nat}{t s:Option bl}{acc Jx:List E}(h1:H_ base t s acc=some Jx):acc <+: Jx:=by
 unfold H_ at h1
 split at h1
 ·cases h1;exact⟨[],by simp⟩
 ·exact yS h1
 ·cases h1

theorem oL {base:Nat}:∀{ts ss:List (Option bl)} {acc acc':List E},gC base ts ss acc=some acc'→acc <+: acc'
 | [],[],acc,acc',h=>by simp[gC] at h;subst h;exact⟨[],by simp⟩
 | none :: ts,_ :: ss,acc,acc',h=>by simp only[gC] at h;exact oL h
 | some t :: ts,some s :: ss,acc,acc',h=>by
  simp only[gC,Option.bind_eq_some_iff] at h
  obtain⟨Jx,h1,h2⟩:=h
  exact List.IsPrefix.trans (yS h1) (oL h2)
 | some _ :: _,none :: _,_,_,h | [],_ :: _,_,_,h | some _ :: _,[],_,_,h | none :: _,[],_,_,h=>by simp[gC] at h

theorem Br {base o:Nat}{zN:List E}{ds:List D}(hb:base≤env.length)(hd:aM env zN=some ds){t s:bl}{acc acc':List E}(h:rM base t s acc=some acc')(hp:acc' <+: zN)(hok:iB w ρ env o s) :
  iB w ρ (mS env base ds) o t∧bY ρ o t=bY ρ o s∧t.ro=s.ro:=by
 unfold rM at h
 split at h
 ·obtain⟨vs,ty,h1,h2,h3,h4,h5⟩:=hok
  obtain⟨hlen,hall⟩:=qu (w:=w) (ρ:=ρ) (vs:=vs.toList) hb hd h hp (by simpa using h2) (fun i v c hv hc=>h4 i v c (by simpa using hv) hc)
  exact⟨⟨vs,ty,h1,by omega,h3,fun i v c hv hc=>hall i v c (by simpa using hv) hc,h5⟩,rfl,rfl⟩
 ·obtain⟨vs,ty,es,h1,h2,h3⟩:=hok
  split at h
  ·rename_i hsz
   subst hsz
   split at h
   ·rename_i hx
    cases h
    exact⟨⟨vs,ty,es,h1,(rF hb hx hp hd).trans h2,h3⟩,rfl,rfl⟩
   ·split at h
    ·rename_i hc
     simp only[Bool.and_eq_true] at hc
     cases h
     have e:=E.dU hc.1
     subst e
     exact⟨⟨vs,ty,es,h1,(E.nE (xO hb) hc.2) ▸ h2,h3⟩,rfl,rfl⟩
    ·cases h
  ·cases h
 ·split at h
  ·rename_i hc
   obtain⟨rfl,rfl⟩:=hc
   exact⟨hok,rfl,rfl⟩
  ·cases h
 ·obtain⟨bs,h2,h3⟩:=hok
  split at h
  ·rename_i hsz
   subst hsz
   split at h
   ·rename_i hx
    cases h
    exact⟨⟨bs,(rF hb hx hp hd).trans h2,h3⟩,rfl,rfl⟩
   ·split at h
    ·rename_i hc
     simp only[Bool.and_eq_true] at hc
     cases h
     have e:=E.dU hc.1
     subst e
     exact⟨⟨bs,(E.nE (xO hb) hc.2) ▸ h2,h3⟩,rfl,rfl⟩
    ·cases h
  ·cases h
 ·cases h

theorem uG {base:Nat}{zN:List E}{ds:List D}(hb:base≤env.length)(hd:aM env zN=some ds):∀{ts ss:List (Option bl)} {acc acc':List E} {k:Nat},gC base ts ss acc=some acc'→acc' <+: zN →
  (∀i s,ss[i]? = some (some s)→iB w ρ env (k+i) s)→ss.length=ts.length∧∀i t,ts[i]? = some (some t)→∃s,ss[i]? = some (some s)∧iB w ρ (mS env base ds) (k+i) t∧bY ρ (k+i) t=bY ρ (k+i) s∧t.ro=s.ro
 | [],[],acc,acc',k,h,hp,hok=>⟨rfl,by simp⟩
 | none :: ts,s :: ss,acc,acc',k,h,hp,hok=>by
  simp only[gC] at h
  obtain⟨hl,hall⟩:=uG (k:=k+1) hb hd h hp fun i s' hs=>by
   have:=hok (i+1) s' (by simpa using hs)
   rwa [show k+(i+1)=k+1+i from by omega] at this
  refine⟨by simp[hl],fun i t ht=>?_⟩
  cases i with
  | zero=>simp at ht
  | succ i=>
   obtain⟨s',h1,h2⟩:=hall i t (by simpa using ht)
   rw[show k+(i+1)=k+1+i from by omega]
   exact⟨s',by simpa using h1,h2⟩
 | some t :: ts,some s :: ss,acc,acc',k,h,hp,hok=>by
  simp only[gC,Option.bind_eq_some_iff] at h
  obtain⟨Jx,h1,h2⟩:=h
  have h0:=Br (w:=w) (ρ:=ρ) (o:=k) hb hd h1 ((oL h2).trans hp) (by simpa using hok 0 s rfl)
  obtain⟨hl,hall⟩:=uG (k:=k+1) hb hd h2 hp fun i s' hs=>by
   have:=hok (i+1) s' (by simpa using hs)
   rwa [show k+(i+1)=k+1+i from by omega] at this
  refine⟨by simp[hl],fun i t' ht=>?_⟩
  cases i with
  | zero=>simp at ht;subst ht;exact⟨s,rfl,h0⟩
  | succ i=>
   obtain⟨s',h3,h4⟩:=hall i t' (by simpa using ht)
   rw[show k+(i+1)=k+1+i from by omega]
   exact⟨s',by simpa using h3,h4⟩
 | some _ :: _,none :: _,_,_,_,h,_,_ | [],_ :: _,_,_,_,h,_,_ | some _ :: _,[],_,_,_,h,_,_ | none :: _,[],_,_,_,h,_,_=>by simp[gC] at h

theorem Nv {base:Nat}{tm σ:af}{args:List E}{ds:List D}(h:cu w0 X w a σ env ρ)(hb:base≤env.length)(hm:Nx base tm σ=some args)(hd:aM env args=some ds):cu w0 X w a tm (mS env base ds) ρ∧σ.tmps.length=tm.tmps.length∧σ.mem.length=tm.mem.length:=by
 unfold Nx at hm
 split at hm
 ·cases hm
 rename_i hlen
 simp only[Option.bind_eq_some_iff] at hm
 obtain⟨acc,h1,asO,h2,h2'⟩:=hm
 have hsz:=h.size
 obtain⟨W0,af7⟩:=qu (w:=w) (ρ:=ρ) (vs:=a.tmps.toList) hb hd h1 ((oL h2).trans (DW h2')) (by simpa using hsz) (fun i v c hv hc=>by
  have:=h.tmps i
  rw[show σ.tmp i=c by simp[af.gw,hc]] at this
  rwa [show a.tmps.getD i undef=v by simpa using congrArg (·.getD undef) hv] at this)
 have aoP:σ.mem.length=tm.mem.length:=by
  have go:∀{ts ss:List (Option bl)} {acc acc':List E},gC base ts ss acc=some acc'→ss.length=ts.length:=by
   intro ts
   induction ts with
   | nil=>intro ss acc acc' h;cases ss with | nil=>rfl | cons _ _=>simp[gC] at h
   | cons t ts ih=>
    intro ss acc acc' h
    cases ss with
    | nil=>cases t <;> simp[gC] at h
    | cons s ss=>
     cases t with
     | none=>simp only[gC] at h;simp[ih h]
     | some t=>
      cases s with
      | none=>simp[gC] at h
      | some s=>
       simp only[gC,Option.bind_eq_some_iff] at h
       obtain⟨_,_,h⟩:=h
       simp[ih h]
  exact go h2
 obtain⟨uY,VF⟩:=uG (w:=w) (ρ:=ρ) (k:=0) hb hd h2 (DW h2') (fun i s hs=>by
  rw[Nat.zero_add]
  have hi:=(List.getElem?_eq_some_iff.1 hs).1
  refine h.dO i s ?_
  simp only[af.dV]
  rw[if_neg (by omega)]
  simp[hs])
 have fP:∀o x,tm.obj o=some x→∃s,σ.obj o=some s∧iB w ρ (mS env base ds) o x∧bY ρ o x=bY ρ o s∧x.ro=s.ro:=by
  intro o x hx
  simp only[af.dV] at hx
  split at hx
  ·rename_i ho
   subst ho
   rw[hx] at h2'
   unfold H_ at h2'
   split at h2'
   ·rename_i e;cases e
   ·rename_i t s e hs
    cases e
    have WZ:σ.obj bN=some s:=by rw[af.dV,if_pos rfl];exact hs
    exact⟨s,WZ,Br hb hd h2' ⟨[],by simp⟩ (h.dO bN s WZ)⟩
   ·cases h2'
  ·rename_i ho
   have hx':tm.mem[o]? = some (some x):=by
    simp only[List.getD_eq_getElem?_getD] at hx
    cases hto:tm.mem[o]? with
    | none=>rw[hto] at hx;cases hx
    | some y=>rw[hto] at hx;simp at hx;rw[hx]
   obtain⟨s,h3,h4,h5⟩:=VF o x hx'
   rw[Nat.zero_add] at h4 h5
   refine⟨s,?_,h4,h5⟩
   simp only[af.dV]
   rw[if_neg ho]
   simp[h3]
 refine⟨⟨by omega,fun t=>?_,fun o x hx=>(fP o x hx).choose_spec.2.1,?_,?_,h.cells,h.os,h.tape,h.output,h.grown,h.old,h.sub,h.new,h.zT,h.hold⟩,W0,uY⟩
 ·simp only[af.gw]
  rw[List.getD_eq_getElem?_getD]
  cases ht:tm.tmps[t]? with
  | none=>exact .cE
  | some c=>
   have htl:t<a.tmps.size:=by have:=(List.getElem?_eq_some_iff.1 ht).1;omega
   refine af7 t _ c ?_ ht
   simp only[Array.getElem?_toList]
   exact Ew htl
 ·intro o o' x x' b h3 h4 h5 h6
  obtain⟨s,hs,_,e,_⟩:=fP o x h3
  obtain⟨s',hs',_,e',_⟩:=fP o' x' h4
  exact h.inj o o' s s' b hs hs' (e ▸ h5) (e' ▸ h6)
 ·intro o x b h3 h4
  obtain⟨s,hs,_,e,er⟩:=fP o x h3
  rw[er]
  exact h.own o s b hs (e ▸ h4)

end
end
end

section
noncomputable section

mutual
def SV.zR (k' k:Nat):SV→SV
 | .own x o=>if o=k' then .own x k else .own x o
 | .agg cs=>.agg (SV.wi k' k cs)
 | .bh cs=>.bh (SV.wi k' k cs)
 | .func fn cs=>.func fn (SV.wi k' k cs)
 | .cond act sv=>.cond act (sv.zR k' k)
 | .cE=>.cE
 | .e x s=>.e x s
 | .iV x f=>.iV x f
 | .addr o f=>.addr o f
 | .aj o x s f=>.aj o x s f
 | .oc o=>.oc o
def SV.wi (k' k:Nat):List SV→List SV
 | []=>[]
 | s :: r=>s.zR k' k :: SV.wi k' k r
end

theorem SV.uy {k' k:Nat}:∀{cs:List SV} {i:Nat} {c:SV},(SV.wi k' k cs)[i]? = some c→∃c',cs[i]? = some c'∧c=c'.zR k' k
 | [],i,c,h=>by simp[SV.wi] at h
 | s :: r,0,c,h=>by simp[SV.wi] at h;exact⟨s,rfl,h.symm⟩
 | s :: r,i+1,c,h=>by
  simp[SV.wi] at h
  obtain⟨c',h1,h2⟩:=SV.uy h
  exact⟨c',by simpa using h1,h2⟩

theorem SV.j_ {k' k:Nat}:∀(cs:List SV),(SV.wi k' k cs).length=cs.length
 | []=>rfl
 | _ :: r=>by simp[SV.wi,SV.j_ r]

def dJ.je (ρ:dJ)(k' k:Nat):dJ:={ ρ with val:=fun x=>if x=k then ρ.val k' else ρ.val x }

theorem ef.zR {w:World}{ρ:dJ}{env:List D}{v:Value}{sv:SV}{k' k:Nat}(h:ef w ρ env v sv)(ha:sv.aT k=true):ef w (ρ.je k' k) env v (sv.zR k' k):=by
 induction h with
 | cE=>exact .cE
 | e hx h h1=>exact .e hx h h1
 | agg hl ho _ ih=>exact .agg (by rw[SV.j_];exact hl) ho fun i v c hv hc=>by obtain⟨c',h1,rfl⟩:=SV.uy hc;exact ih i v c' hv h1 (SV.fw (by simpa[SV.aT] using ha) h1)
 | bh hl _ ih=>exact .bh (by rw[SV.j_];exact hl) fun i v c hv hc=>by obtain⟨c',h1,rfl⟩:=SV.uy hc;exact ih i v c' hv h1 (SV.fw (by simpa[SV.aT] using ha) h1)
 | @addr o off=>
  have:(.pointer (some ⟨ρ.blk o,off,none⟩):Value)=.pointer (some ⟨(ρ.je k' k).blk o,off,none⟩):=rfl
  rw[this];exact .addr
 | @aj o size off n x kd hx=>
  have:(.pointer (some ⟨ρ.blk o,n*size+off,none⟩):Value)=.pointer (some ⟨(ρ.je k' k).blk o,n*size+off,none⟩):=rfl
  rw[this];exact .aj hx
 | iV hx h=>exact .iV hx h
 | @own v x o es hx h hv=>
  have hne:o≠k:=by simpa[SV.aT] using ha
  simp only[SV.zR]
  split
  ·rename_i e;subst e
   exact .own hx h (by simp[dJ.je,hv])
  ·exact .own hx h (by simp[dJ.je,hne,hv])
 | @oc o=>
  have hne:o≠k:=by simpa[SV.aT] using ha
  have:ρ.val o=(ρ.je k' k).val o:=by simp[dJ.je,hne]
  rw[this];exact .oc
 | func hl _ ih=>exact .func (by rw[SV.j_];exact hl) fun i v c hv hc=>by obtain⟨c',h1,rfl⟩:=SV.uy hc;exact ih i v c' hv h1 (SV.fw (by simpa[SV.aT] using ha) h1)
 | cond hd _ hn ih=>exact .cond hd (fun hh=>ih hh (by simpa[SV.aT] using ha)) hn

def bl.zR (k' k:Nat):bl→bl
 | .box cs=>.box (SV.wi k' k cs)
 | x=>x

def af.zR (k' k:Nat)(σ:af)(x:bl):af:={ tmps:=SV.wi k' k σ.tmps,mem:=((σ.mem.map fun x=>x.map (bl.zR k' k)).set k' none).set k (some x),hs:=σ.hs.map (bl.zR k' k) }

def af.je (σ:af)(k' k:Nat):af:=
 if k'=k∨¬k<σ.mem.length∨k=bN∨k'=bN then σ else match(σ.down k).obj k' with
  | some (.tok e s)=>(σ.down k).zR k' k (.tok e s)
  | _=>σ

section
variable {w w0:World} {X:kG} {a:Act} {σ:af} {env:List D} {ρ:dJ}

theorem af.Cr {k' k o:Nat}{x y:bl}(hk:k<σ.mem.length)(Tb:k≠bN)(RW:k'≠bN)(h:(σ.zR k' k x).obj o=some y):(o=k∧y=x)∨(o≠k∧o≠k'∧∃z,σ.obj o=some z∧y=z.zR k' k):=by
 simp only[af.dV,af.zR] at h ⊢
 by_cases hH:o=bN
 ·subst hH
  simp only[if_true] at h
  obtain⟨z,hz,rfl⟩:=Option.map_eq_some_iff.1 h
  exact .inr ⟨Ne.symm Tb,Ne.symm RW,z,by simpa using hz,rfl⟩
 rw[if_neg hH] at h
 rw[if_neg hH]
 simp only[List.getD_eq_getElem?_getD,List.getElem?_set,List.length_set,List.getElem?_map,List.length_map] at h ⊢
 by_cases h1:k=o
 ·subst h1
  simp[hk] at h
  exact .inl ⟨rfl,h.symm⟩
 ·rw[if_neg h1] at h
  by_cases h2:k'=o
  ·rw[if_pos h2] at h
   split at h <;> simp at h
  ·rw[if_neg h2] at h
   refine .inr ⟨fun e=>h1 e.symm,fun e=>h2 e.symm,?_⟩
   cases ho:σ.mem[o]? with
   | none=>rw[ho] at h;simp at h
   | some z=>
    rw[ho] at h
    cases z with
    | none=>simp at h
    | some z=>simp at h;exact⟨z,rfl,h.symm⟩

theorem af.XL {k' k:Nat}{x:bl}(t:Nat):(σ.zR k' k x).tmp t=(σ.tmp t).zR k' k:=by
 have go:∀(l:List SV) (t:Nat),(SV.wi k' k l).getD t .cE=(l.getD t .cE).zR k' k:=by
  intro l
  induction l with
  | nil=>intro t;simp[SV.wi,SV.zR]
  | cons s r ih=>
   intro t
   cases t with
   | zero=>simp[SV.wi]
   | succ t=>simpa[SV.wi] using ih t
 rw[af.gw,af.gw];exact go σ.tmps t

theorem cu.zR (h:cu w0 X w a σ env ρ){k' k:Nat}{e:TypeId}{s:Nat}(hne:k'≠k)(hk:k<σ.mem.length)(Tb:k≠bN)(RW:k'≠bN)(ox:σ.aT k)(ho:σ.obj k'=some (.tok e s)):cu w0 X w a (σ.zR k' k (.tok e s)) env (ρ.je k' k):=by
 have hblk:∀(o:Nat) (z:bl),o≠k→bY (ρ.je k' k) o (z.zR k' k)=bY ρ o z:=by
  intro o z hok
  funext b
  cases z <;> simp[bY,dJ.je,bl.zR,hok]
 have VB:bY (ρ.je k' k) k (.tok e s)=bY ρ k' (.tok e s):=by funext b;simp[bY,dJ.je]
 refine⟨by simpa[af.zR,SV.j_] using h.size,fun t=>by rw[af.XL];exact(h.tmps t).zR (ox.1 t),?_,?_,?_,h.cells,h.os,h.tape,h.output,h.grown,h.old,h.sub,h.new,h.zT,h.hold⟩
 ·intro o y hy
  rcases af.Cr hk Tb RW hy with⟨rfl,rfl⟩ | ⟨h1,h2,z,hz,rfl⟩
  ·obtain⟨n,xs,h3,h4⟩:=h.dO k' _ ho
   exact⟨n,xs,by simpa[dJ.je] using h3,by simpa[dJ.je] using h4⟩
  ·have hok:=h.dO o z hz
   cases z with
   | box cs=>
    obtain⟨vs,ty,h3,h4,h5,h6,h7⟩:=hok
    exact⟨vs,ty,h3,by rw[SV.j_];exact h4,h5,fun i v c hv hc=>by obtain⟨c',h8,rfl⟩:=SV.uy hc;exact(h6 i v c' hv h8).zR (SV.fw (by simpa[bl.aT] using ox.2 o _ hz) h8),h7⟩
   | row y sz=>
    obtain⟨vs,ty,es,h3,h4,h5,h6,h7,h8,h9⟩:=hok
    exact⟨vs,ty,es,h3,h4,h5,h6,h7,by simpa[dJ.je,h1] using h8,h9⟩
   | tok e' sz=>
    obtain⟨n,xs,h3,h4⟩:=hok
    exact⟨n,xs,by simpa[dJ.je,h1] using h3,by simpa[dJ.je,h1] using h4⟩
   | store cf x=>exact hok
 ·intro o o' y y' b h1 h2 h3 h4
  rcases af.Cr hk Tb RW h1 with⟨rfl,rfl⟩ | ⟨e1,e2,z,hz,rfl⟩ <;> rcases af.Cr hk Tb RW h2 with⟨rfl,rfl⟩ | ⟨e3,e4,z',My,rfl⟩
  ·rfl
  ·rw[VB] at h3
   rw[hblk o' z' e3] at h4
   exact absurd (h.inj k' o' _ z' b ho My h3 h4).symm e4
  ·rw[VB] at h4
   rw[hblk o z e1] at h3
   exact absurd (h.inj o k' z _ b hz ho h3 h4) e2
  ·rw[hblk o z e1] at h3
   rw[hblk o' z' e3] at h4
   exact h.inj o o' z z' b hz My h3 h4
 ·intro o y b h1 h2
  rcases af.Cr hk Tb RW h1 with⟨rfl,rfl⟩ | ⟨e1,e2,z,hz,rfl⟩
  ·rw[VB] at h2
   exact h.own k' _ b ho h2
  ·rw[hblk o z e1] at h2
   (have:=h.own o z b hz h2;cases z <;> simpa[bl.zR,bl.ro] using this)

theorem cu.je (h:cu w0 X w a σ env ρ)(k' k:Nat):∃ρ',cu w0 X w a (σ.je k' k) env ρ':=by
 unfold af.je
 split
 ·exact⟨ρ,h⟩
 ·rename_i hc
  simp only[not_or,Decidable.not_not] at hc
  split
  ·rename_i e s ho
   exact⟨_,(h.down k).zR hc.1 (by rw[(σ.zn k).2];exact hc.2.1) hc.2.2.1 hc.2.2.2 (σ.kD k) ho⟩
  ·exact⟨ρ,h⟩

theorem af.Q_ (σ:af)(k' k:Nat):(σ.je k' k).tmps.length=σ.tmps.length∧(σ.je k' k).mem.length=σ.mem.length:=by
 unfold af.je
 split
 ·exact⟨rfl,rfl⟩
 ·split
  ·simp[af.zR,SV.j_,(σ.zn k).1,(σ.zn k).2]
  ·exact⟨rfl,rfl⟩

end
end
end

section
noncomputable section

/-! ## forgetting an object -/

def SV.iY (d:Nat)(sv:SV):SV:=
 match sv with
 | .cE=>.cE
 | .e x s=>.e x s
 | sv=>if sv.aT d then sv else .cE

theorem SV.o9 (d:Nat)(sv:SV):sv.iY d=if sv.aT d then sv else .cE:=by
 cases sv <;> first | rfl | simp[SV.iY,SV.aT]

def bl.iY (d:Nat):bl→bl
 | .box cs=>.box (cs.map (SV.iY d))
 | x=>x

def af.iY (d:Nat)(σ:af):af:=if d=bN then σ else { tmps:=Q9 (SV.iY d) σ.tmps,mem:=T2 none (Q9 (fun x=>x.map (bl.iY d)) σ.mem) d,hs:=σ.hs.map (bl.iY d) }

theorem af.o9 (d:Nat)(σ:af):σ.iY d=if d=bN then σ else { tmps:=σ.tmps.map (SV.iY d),mem:=(σ.mem.map fun x=>x.map (bl.iY d)).set d none,hs:=σ.hs.map (bl.iY d) }:=by
 unfold af.iY
 rw[Cp,Co,Cp]

def sites (ops:Array Oper):List Nat:=ops.toList.filterMap fun o=>if jL o then o.dst else none

def iO (ds:List Nat)(σ:af):af:=ds.foldl (fun σ d=>σ.iY d) σ

def ad3 (σ:af)(ops:Array Oper):Bool:=ops.all fun o=>match o.dst with | some d=>decide (d<σ.tmps.length) | none=>true

def Qcw (P:Program)(ops:Array Oper)(σ:af)(u:Nat):Option (af×List Bind):=
 match AZ P ops ops.toList σ u with
 | some x=>if P.follows .mixedOrders=true then(if qt ops x.2.2 σ=true then extras P ops x.2.2 σ else CJ P ops x.2.2 σ (u+x.2.1.length)).map fun xs=>(x.1,x.2.1++xs.map .ev) else none
 | none=>none

def XN (P:Program)(ops:Array Oper)(σ:af)(u:Nat):Bool:=
 match ops[ops.size-1]?,σ.hs with
 | some o,some (.store cf _)=>(match o.guard,o.op with
  | none,.call c=>(match c.callee with
   | .value f=>(match σ.zS f with
    | .func (.func f) []=>cf.fc.contains f&&Iu ops&&(Qcw P ops.pop σ u).isSome
    | _=>false)
   | _=>false)
  | _,_=>false)
 | _,_=>false

def EO (P:Program)(ops:Array Oper)(σ:af)(u:Nat):Option (af×List Bind):=if XN P ops σ u=true then none else Qcw P ops σ u

theorem FU {P:Program}{ops:Array Oper}{σ:af}{u:Nat}{x:af×List Bind}(h:EO P ops σ u=some x):Qcw P ops σ u=some x:=by
 unfold EO at h
 split at h
 ·cases h
 ·exact h

def Cs (P:Program)(ops:Array Oper)(draw:Bool)(σ:af)(u:Nat)(k:QG):Option T:=
 let σ1:=iO (sites ops) σ
 if !ad3 σ1 ops then none else
 if draw then
  match EO P ops σ1 u with
  | some x=>(k x.1 (u+x.2.length)).map (ah x.2)
  | none=>if 0<ops.size∧Iu ops=true then match ops[ops.size-1]?,Qcw P ops.pop σ1 u with
    | some o,some x=>(match J5 P o x.1 with
     | some s=>if qB x.1 o then(HL s o x.1 (u+x.2.length) k).map (ah x.2) else none
     | none=>none)
    | _,_=>none
   else none
 else J_ P ops ops.toList σ1 u k

def Ub (P:Program)(ops:Array Oper)(σ:af):Bool:=
 match ops[ops.size-1]?,σ.hs with
 | some o,some (.store cf _)=>(match o.guard,o.op with
  | none,.call c=>(match c.callee with
   | .value f=>(match σ.zS f with
    | .func (.func f) []=>cf.fc.contains f
    | _=>false)
   | _=>false)
  | _,_=>false)
 | _,_=>false

def HU (P:Program)(ops:Array Oper)(draw:Bool)(σ:af)(u:Nat):Option (Option (Nat×af)):=
 let σ1:=iO (sites ops) σ
 if draw then
  match(if Ub P ops σ1 then none else AZ P ops ops.toList σ1 u) with
  | some x=>some (some (u+x.2.1.length,x.1))
  | none=>match ops[ops.size-1]?,AZ P ops.pop ops.pop.toList σ1 u with
   | some o,some x=>yx P ops [o] x.1 (u+x.2.1.length)
   | _,_=>none
 else yx P ops ops.toList σ1 u

/-! ## tokens get the pattern's names -/

def ya (ts:List SV):List SV→List (Nat×Nat):=
 List.rec (motive:=fun _=>List SV→List (Nat×Nat)) (fun _=>[]) (fun t _ ih ss=>match ss with
  | []=>[]
  | x :: ss=>match t with
   | .own _ k=>(match x with
    | .own _ k'=>(k',k) :: ih ss
    | _=>ih ss)
   | _=>ih ss) ts

def um (ps:List (Nat×Nat))(σ:af):af:=ps.foldl (fun σ p=>σ.je p.1 p.2) σ

def i_ (σ:af):SV→SV
 | .own x k=>match σ.obj k with | some (.tok _ _)=>.own x k | _=>.e x true
 | sv=>sv

def af.i_ (σ:af):af:={ σ with tmps:=Q9 (Go.Am.i_ σ) σ.tmps }

theorem af.wZ (σ:af):σ.i_={ σ with tmps:=σ.tmps.map (Go.Am.i_ σ) }:=by
 unfold af.i_
 rw[Cp]

def pU (base:Nat)(tm σ:af):Option (List E):=Nx base tm (um (ya tm.tmps σ.i_.tmps) σ.i_)

/-! ## patterns for the places where ways meet (nothing hangs on how they are found: 'matchS' looks) -/

def UK:SV→Bool
 | .e _ true=>true
 | .own _ _=>true
 | _=>false

def Y7:SV→Option Nat
 | .own _ k=>some k
 | _=>none

def aaT:SV→Bool
 | .cE=>true
 | _=>false

def abm (l:List (List SV)):List SV:=List.rec (motive:=fun _=>List SV) [] (fun x _ ih=>match x with
 | []=>ih
 | y :: _=>y :: ih) l

def adx (l:List SV):List SV:=
 match l with
 | []=>[]
 | _ :: r=>r

def YT (l:List SV):Bool:=List.rec (motive:=fun _=>Bool) false (fun x _ ih=>match x with
 | .cE=>true
 | _=>ih) l

def XX (base n:Nat)(wD:List SV):SV×Nat:=
 match wD with
 | []=>(.cE,n)
 | .cond _ _ :: _=>(.cE,n)
 | s :: r=>
  if aaT s||YT r then(.cE,n)
  else if r.all (s.same ·)&&s.upto base then(s,n)
  else match Y7 s with
   | some k=>if r.all (fun x=>(Y7 x).isSome) then(.own (.sym (base+n)) k,n+1) else if r.all (fun x=>x.jx.isSome) then(.e (.sym (base+n)) (r.all UK),n+1) else(.cE,n)
   | none=>if(s :: r).all (fun x=>x.jx.isSome) then(.e (.sym (base+n)) ((s :: r).all UK),n+1) else(.cE,n)

def Ky (base:Nat)(l:List SV):List (List SV)→Nat→List SV×Nat:=
 List.rec (motive:=fun _=>List (List SV)→Nat→List SV×Nat) (fun _ n=>([],n)) (fun s _ ih others n=>
  match XX base n (s :: abm others) with
 |(m,n1)=>match ih (Q9 adx others) n1 with
  |(ms,n2)=>(m :: ms,n2)) l

def Qv:List (Option bl)→Option (List (List SV))
 | []=>some []
 | some (.box cs) :: r=>(Qv r).map (cs :: ·)
 | _=>none

def rowsOf (sz:Nat):List (Option bl)→Option (List E)
 | []=>some []
 | some (.row x sz') :: r=>if sz=sz' then(rowsOf sz r).map (x :: ·) else none
 | _=>none

def Tv (e sz:Nat):List (Option bl)→Bool
 | []=>true
 | some (.tok e' sz') :: r=>decide (e=e')&&decide (sz=sz')&&Tv e sz r
 | _=>false

def Kz (base:Nat):List (Option bl)→List (List (Option bl))→Nat→List (Option bl)×Nat
 | [],_,n=>([],n)
 | x :: r,others,n=>
  let hs:=others.filterMap List.head?
  let (m,n1):Option bl×Nat:=match x with
   | some (.box cs)=>(match Qv hs with
    | some css=>let (ms,n1):=Ky base cs css n;(some (.box ms),n1)
    | none=>(none,n))
   | some (.row y sz)=>(match rowsOf sz hs with
    | some ys=>if ys.all (y.same ·)&&y.upto base then(some (.row y sz),n) else(some (.row (.sym (base+n)) sz),n+1)
    | none=>(none,n))
   | some (.tok e sz)=>if Tv e sz hs then(some (.tok e sz),n) else(none,n)
   | _=>(none,n)
  let (ms,n2):=Kz base r (others.map List.tail) n1
  (m :: ms,n2)

def JZ (cf:cz):List (Option bl)→Option (List E)
 | []=>some []
 | some (.store Qdy x) :: r=>if cf=Qdy then(JZ cf r).map (x :: ·) else none
 | _=>none

def aaD (base:Nat)(x:Option bl)(others:List (Option bl))(n:Nat):Option bl×Nat:=
 match x with
 | some (.store cf y)=>(match JZ cf others with
  | some ys=>if ys.all (y.same ·)&&y.upto base then(some (.store cf y),n) else(some (.store cf (.sym (base+n))),n+1)
  | none=>(none,n))
 | _=>(none,n)

def YW (σ0 σ:af):af:=um (ya σ0.tmps σ.i_.tmps) σ.i_

def nq (base:Nat)(σs:List af):af×Nat:=
 match(match σs with | []=>[] | σ :: r=>σ.i_ :: r.map (YW σ.i_)) with
 | []=>({ tmps:=[],mem:=[],hs:=none },0)
 | σ :: r=>
  let (ts,n):=Ky base σ.tmps (r.map (·.tmps)) 0
  let (ms,n):=Kz base σ.mem (r.map (·.mem)) n
  let (hs,n):=aaD base σ.hs (r.map (·.hs)) n
  ({ tmps:=ts,mem:=ms,hs:=hs },n)

def mh:Code→Bool
 | .exit _ | .ret | .goto _ | .refuse _ | .loop _=>false
 | .seq a b=>mh a&&mh b
 | .cond _ a b=>mh a||mh b
 | _=>true

/-! ## all is evaluated ahead of use (so the kernel sees the same question twice) -/

def cg {β:Type}(n:Nat)(K:Nat→β):β:=
 match n with
 | 0=>K 0
 | n+1=>K (Nat.succ n)

theorem eW {β:Type}(n:Nat)(K:Nat→β):cg n K=K n:=by cases n <;> rfl

def jY {β:Type}(b:Bool)(K:Bool→β):β:=
 match b with
 | true=>K true
 | false=>K false

theorem mR {β:Type}(b:Bool)(K:Bool→β):jY b K=K b:=by cases b <;> rfl

def aQ {β:Type}(x:E):(E→β)→β:=
 E.rec (motive:=fun _=>(E→β)→β)
  (fun k K=>cg k fun k=>K (.sym k))
  (fun d K=>K (.const d))
  (fun op kd a b iha ihb K=>iha fun a=>ihb fun b=>K (.bin op kd a b))
  (fun op a iha K=>iha fun a=>K (.un op a))
  (fun k a iha K=>iha fun a=>K (.conv k a))
  (fun a iha K=>iha fun a=>K (.aR a))
  (fun a iha K=>iha fun a=>K (.uJ a))
  (fun a iha K=>iha fun a=>K (.bt a))
  (fun i a iha K=>cg i fun i=>iha fun a=>K (.cell i a))
  (fun i n a iha K=>cg i fun i=>cg n fun n=>iha fun a=>K (.cells i n a))
  (fun n a iha K=>cg n fun n=>iha fun a=>K (.bB n a))
  (fun a i iha ihi K=>iha fun a=>ihi fun i=>K (.idx a i))
  (fun n a i iha ihi K=>cg n fun n=>iha fun a=>ihi fun i=>K (.uS n a i))
  (fun K=>K .nil)
  (fun a b iha ihb K=>iha fun a=>ihb fun b=>K (.cons a b))
  (fun a iha K=>iha fun a=>K (.one a))
  (fun size bytes a b iha ihb K=>cg size fun size=>cg bytes fun bytes=>iha fun a=>ihb fun b=>K (.app size bytes a b))
  (fun a b iha ihb K=>iha fun a=>ihb fun b=>K (.bz a b))
  (fun a iha K=>iha fun a=>K (.gE a))
  (fun f a b iha ihb K=>iha fun a=>ihb fun b=>K (.gV f a b))
  (fun size a lo hi iha akU akV K=>cg size fun size=>iha fun a=>akU fun lo=>akV fun hi=>K (.sub size a lo hi))
  (fun a i off x iha ihi Qf K=>iha fun a=>ihi fun i=>cg off fun off=>Qf fun x=>K (.set a i off x))
  (fun c a b NZ iha ihb K=>NZ fun c=>iha fun a=>ihb fun b=>K (.ite c a b))
  (fun c want a NZ iha K=>NZ fun c=>jY want fun want=>iha fun a=>K (.guard c want a))
  (fun K=>K .ax)
  (fun a b iha ihb K=>iha fun a=>ihb fun b=>K (.aa a b))
  (fun i a iha K=>cg i fun i=>iha fun a=>K (.az i a))
  (fun bytes n d ihn K=>cg bytes fun bytes=>ihn fun n=>K (.rep bytes n d))
  (fun a iha K=>iha fun a=>K (.deref a))
  (fun t a iha K=>iha fun a=>K (.oO t a))
  (fun max a b iha ihb K=>jY max fun max=>iha fun a=>ihb fun b=>K (.mm max a b))
  (fun off a iha K=>cg off fun off=>iha fun a=>K (.ay off a))
  (fun a iha K=>iha fun a=>K (.nn a))
  (fun size a i iha ihi K=>cg size fun size=>iha fun a=>ihi fun i=>K (.aj size a i))
  (fun agg n h p IG ihp K=>jY agg fun agg=>cg n fun n=>IG fun h=>ihp fun p=>K (.ld agg n h p))
  (fun n h p y IG ihp S6 K=>cg n fun n=>IG fun h=>ihp fun p=>S6 fun y=>K (.gQ n h p y))
  (fun e sz h y IG S6 K=>cg sz fun sz=>IG fun h=>S6 fun y=>K (.cI e sz h y))
  (fun h IG K=>IG fun h=>K (.aU h))
  (fun e sz h l IG ihl K=>cg sz fun sz=>IG fun h=>ihl fun l=>K (.a_ e sz h l))
  (fun h l IG ihl K=>IG fun h=>ihl fun l=>K (.bO h l))
  (fun e sz bytes h x y IG Qf S6 K=>cg sz fun sz=>cg bytes fun bytes=>IG fun h=>Qf fun x=>S6 fun y=>K (.fU e sz bytes h x y))
  (fun h x y IG Qf S6 K=>IG fun h=>Qf fun x=>S6 fun y=>K (.apps h x y))
  (fun agg h x IG Qf K=>jY agg fun agg=>IG fun h=>Qf fun x=>K (.ve agg h x))
  (fun h x IG Qf K=>IG fun h=>Qf fun x=>K (.vf h x))
  (fun op a b c d iha ihb NZ ihd K=>iha fun a=>ihb fun b=>NZ fun c=>ihd fun d=>K (.m4 op a b c d)) x

theorem Si {β:Type}(k:Nat)(K:E→β):aQ (.sym k) K=cg k fun k=>K (.sym k):=rfl
theorem L3 {β:Type}(d:D)(K:E→β):aQ (.const d) K=K (.const d):=rfl
theorem Sv {β:Type}(op:BinOp)(kd:Kd)(a:E)(b:E)(K:E→β):aQ (.bin op kd a b) K=aQ a fun a=>aQ b fun b=>K (.bin op kd a b):=rfl
theorem V_ {β:Type}(op:UnOp)(a:E)(K:E→β):aQ (.un op a) K=aQ a fun a=>K (.un op a):=rfl
theorem OQ {β:Type}(k:IntKind)(a:E)(K:E→β):aQ (.conv k a) K=aQ a fun a=>K (.conv k a):=rfl
theorem OM {β:Type}(a:E)(K:E→β):aQ (.aR a) K=aQ a fun a=>K (.aR a):=rfl
theorem OL {β:Type}(a:E)(K:E→β):aQ (.uJ a) K=aQ a fun a=>K (.uJ a):=rfl
theorem OG {β:Type}(a:E)(K:E→β):aQ (.bt a) K=aQ a fun a=>K (.bt a):=rfl
theorem OS {β:Type}(i:Nat)(a:E)(K:E→β):aQ (.cell i a) K=cg i fun i=>aQ a fun a=>K (.cell i a):=rfl
theorem L4 {β:Type}(i:Nat)(n:Nat)(a:E)(K:E→β):aQ (.cells i n a) K=cg i fun i=>cg n fun n=>aQ a fun a=>K (.cells i n a):=rfl
theorem OV {β:Type}(n:Nat)(a:E)(K:E→β):aQ (.bB n a) K=cg n fun n=>aQ a fun a=>K (.bB n a):=rfl
theorem Su {β:Type}(a:E)(i:E)(K:E→β):aQ (.idx a i) K=aQ a fun a=>aQ i fun i=>K (.idx a i):=rfl
theorem ON {β:Type}(n:Nat)(a:E)(i:E)(K:E→β):aQ (.uS n a i) K=cg n fun n=>aQ a fun a=>aQ i fun i=>K (.uS n a i):=rfl
theorem Sq {β:Type}(K:E→β):aQ .nil K=K .nil:=rfl
theorem OR {β:Type}(a:E)(b:E)(K:E→β):aQ (.cons a b) K=aQ a fun a=>aQ b fun b=>K (.cons a b):=rfl
theorem Sn {β:Type}(a:E)(K:E→β):aQ (.one a) K=aQ a fun a=>K (.one a):=rfl
theorem Sw {β:Type}(size:Nat)(bytes:Nat)(a:E)(b:E)(K:E→β):aQ (.app size bytes a b) K=cg size fun size=>cg bytes fun bytes=>aQ a fun a=>aQ b fun b=>K (.app size bytes a b):=rfl
theorem LX {β:Type}(a:E)(b:E)(K:E→β):aQ (.bz a b) K=aQ a fun a=>aQ b fun b=>K (.bz a b):=rfl
theorem LW {β:Type}(a:E)(K:E→β):aQ (.gE a) K=aQ a fun a=>K (.gE a):=rfl
theorem OK {β:Type}(f:FuncId)(a:E)(b:E)(K:E→β):aQ (.gV f a b) K=aQ a fun a=>aQ b fun b=>K (.gV f a b):=rfl
theorem Sj {β:Type}(size:Nat)(a:E)(lo:E)(hi:E)(K:E→β):aQ (.sub size a lo hi) K=cg size fun size=>aQ a fun a=>aQ lo fun lo=>aQ hi fun hi=>K (.sub size a lo hi):=rfl
theorem Sl {β:Type}(a:E)(i:E)(off:Nat)(x:E)(K:E→β):aQ (.set a i off x) K=aQ a fun a=>aQ i fun i=>cg off fun off=>aQ x fun x=>K (.set a i off x):=rfl
theorem Ss {β:Type}(c:E)(a:E)(b:E)(K:E→β):aQ (.ite c a b) K=aQ c fun c=>aQ a fun a=>aQ b fun b=>K (.ite c a b):=rfl
theorem LY {β:Type}(c:E)(want:Bool)(a:E)(K:E→β):aQ (.guard c want a) K=aQ c fun c=>jY want fun want=>aQ a fun a=>K (.guard c want a):=rfl
theorem OE {β:Type}(K:E→β):aQ .ax K=K .ax:=rfl
theorem LV {β:Type}(a:E)(b:E)(K:E→β):aQ (.aa a b) K=aQ a fun a=>aQ b fun b=>K (.aa a b):=rfl
theorem OF {β:Type}(i:Nat)(a:E)(K:E→β):aQ (.az i a) K=cg i fun i=>aQ a fun a=>K (.az i a):=rfl
theorem Sm {β:Type}(bytes:Nat)(n:E)(d:D)(K:E→β):aQ (.rep bytes n d) K=cg bytes fun bytes=>aQ n fun n=>K (.rep bytes n d):=rfl
theorem L2 {β:Type}(a:E)(K:E→β):aQ (.deref a) K=aQ a fun a=>K (.deref a):=rfl
theorem St {β:Type}(t:TypeId)(a:E)(K:E→β):aQ (.oO t a) K=aQ a fun a=>K (.oO t a):=rfl
theorem Wb {β:Type}(max:Bool)(a:E)(b:E)(K:E→β):aQ (.mm max a b) K=jY max fun max=>aQ a fun a=>aQ b fun b=>K (.mm max a b):=rfl
theorem OH {β:Type}(off:Nat)(a:E)(K:E→β):aQ (.ay off a) K=cg off fun off=>aQ a fun a=>K (.ay off a):=rfl
theorem Wa {β:Type}(a:E)(K:E→β):aQ (.nn a) K=aQ a fun a=>K (.nn a):=rfl
theorem L1 {β:Type}(size:Nat)(a:E)(i:E)(K:E→β):aQ (.aj size a i) K=cg size fun size=>aQ a fun a=>aQ i fun i=>K (.aj size a i):=rfl
theorem We {β:Type}(agg:Bool)(n:Nat)(h:E)(p:E)(K:E→β):aQ (.ld agg n h p) K=jY agg fun agg=>cg n fun n=>aQ h fun h=>aQ p fun p=>K (.ld agg n h p):=rfl
theorem Sk {β:Type}(n:Nat)(h:E)(p:E)(y:E)(K:E→β):aQ (.gQ n h p y) K=cg n fun n=>aQ h fun h=>aQ p fun p=>aQ y fun y=>K (.gQ n h p y):=rfl
theorem OJ {β:Type}(e:TypeId)(sz:Nat)(h:E)(y:E)(K:E→β):aQ (.cI e sz h y) K=cg sz fun sz=>aQ h fun h=>aQ y fun y=>K (.cI e sz h y):=rfl
theorem L0 {β:Type}(h:E)(K:E→β):aQ (.aU h) K=aQ h fun h=>K (.aU h):=rfl
theorem OI {β:Type}(e:TypeId)(sz:Nat)(h:E)(l:E)(K:E→β):aQ (.a_ e sz h l) K=cg sz fun sz=>aQ h fun h=>aQ l fun l=>K (.a_ e sz h l):=rfl
theorem LZ {β:Type}(h:E)(l:E)(K:E→β):aQ (.bO h l) K=aQ h fun h=>aQ l fun l=>K (.bO h l):=rfl
theorem OU {β:Type}(e:TypeId)(sz:Nat)(bytes:Nat)(h:E)(x:E)(y:E)(K:E→β):aQ (.fU e sz bytes h x y) K=cg sz fun sz=>cg bytes fun bytes=>aQ h fun h=>aQ x fun x=>aQ y fun y=>K (.fU e sz bytes h x y):=rfl
theorem OT {β:Type}(h:E)(x:E)(y:E)(K:E→β):aQ (.apps h x y) K=aQ h fun h=>aQ x fun x=>aQ y fun y=>K (.apps h x y):=rfl
theorem OO {β:Type}(agg:Bool)(h:E)(x:E)(K:E→β):aQ (.ve agg h x) K=jY agg fun agg=>aQ h fun h=>aQ x fun x=>K (.ve agg h x):=rfl
theorem OP {β:Type}(h:E)(x:E)(K:E→β):aQ (.vf h x) K=aQ h fun h=>aQ x fun x=>K (.vf h x):=rfl
theorem Wd {β:Type}(op:MOp)(a:E)(b:E)(c:E)(d:E)(K:E→β):aQ (.m4 op a b c d) K=aQ a fun a=>aQ b fun b=>aQ c fun c=>aQ d fun d=>K (.m4 op a b c d):=rfl

theorem cD {β : Type} (x : E) : ∀ K : E → β, aQ x K = K x := by
  induction x <;> intro K <;> simp only [eW, mR, Si, L3, Sv, V_, OQ, OM, OL, OG, OS, L4, OV, Su, ON, Sq, OR, Sn, Sw, LX, LW, OK, Sj, Sl, Ss, LY, OE, LV, OF, Sm, L2, St, Wb, OH, Wa, L1, We, Sk, OJ, L0, OI, LZ, OU, OT, OO, OP, Wd, *]

def qE {β : Type} : List (E × Bool) → (List (E × Bool) → β) → β
  | [], K => K []
  | (x, b) :: r, K => aQ x fun x => jY b fun b => qE r fun r => K ((x, b) :: r)

theorem xN {β : Type} : ∀ (l : List (E × Bool)) (K : List (E × Bool) → β), qE l K = K l
  | [], _ => rfl
  | (x, b) :: r, K => by simp only [qE, cD, mR, xN r]

mutual
def lZ {β:Type}:SV→(SV→β)→β
 | .cE,K=>K .cE
 | .e x s,K=>aQ x fun x=>jY s fun s=>K (.e x s)
 | .agg cs,K=>qD cs fun cs=>K (.agg cs)
 | .bh vs,K=>qD vs fun vs=>K (.bh vs)
 | .addr o off,K=>cg o fun o=>cg off fun off=>K (.addr o off)
 | .aj o i s off,K=>cg o fun o=>aQ i fun i=>cg s fun s=>cg off fun off=>K (.aj o i s off)
 | .iV x off,K=>aQ x fun x=>cg off fun off=>K (.iV x off)
 | .own x n,K=>aQ x fun x=>cg n fun n=>K (.own x n)
 | .oc o,K=>cg o fun o=>K (.oc o)
 | .func fn cap,K=>qD cap fun cap=>K (.func fn cap)
 | .cond act sv,K=>qE act fun act=>lZ sv fun sv=>K (.cond act sv)
def qD {β:Type}:List SV→(List SV→β)→β
 | [],K=>K []
 | x :: r,K=>lZ x fun x=>qD r fun r=>K (x :: r)
end

mutual
theorem A0 {β:Type}:∀(x:SV) (K:SV→β),lZ x K=K x
 | .cE,K=>by simp only[lZ]
 | .e x s,K=>by simp only[lZ,cD,mR]
 | .agg cs,K=>by simp only[lZ,p8 cs]
 | .bh vs,K=>by simp only[lZ,p8 vs]
 | .addr o off,K=>by simp only[lZ,eW]
 | .aj o i s off,K=>by simp only[lZ,eW,cD]
 | .iV x off,K=>by simp only[lZ,eW,cD]
 | .own x n,K=>by simp only[lZ,eW,cD]
 | .oc o,K=>by simp only[lZ,eW]
 | .func fn cap,K=>by simp only[lZ,p8 cap]
 | .cond act sv,K=>by simp only[lZ,xN,A0 sv]
theorem p8 {β:Type}:∀(l:List SV) (K:List SV→β),qD l K=K l
 | [],K=>by simp only[qD]
 | x :: r,K=>by simp only[qD,A0 x,p8 r]
end

def V9 {β:Type}(x:SV)(K:SV→β):β:=
 match x with
 | .cE=>K .cE
 | .e x s=>aQ x fun x=>jY s fun s=>K (.e x s)
 | x=>lZ x K

theorem V8 {β:Type}(x:SV)(K:SV→β):V9 x K=K x:=by
 cases x <;> first | rfl | simp only[V9,cD,mR,A0]

def dS {α β:Type}(f:α→(α→β)→β)(l:List α):(List α→β)→β:=List.rec (motive:=fun _=>(List α→β)→β) (fun K=>K []) (fun x _ ih K=>f x fun x=>ih fun r=>K (x :: r)) l

theorem ed {α β:Type}{f:α→(α→β)→β}(hf:∀x k,f x k=k x):∀(l:List α) (K:List α→β),dS f l K=K l
 | [],_=>rfl
 | x :: r,K=>by
  show(f x fun x=>dS f r fun r=>K (x :: r))=_
  rw[hf,ed hf r]

def CK {β:Type}(x:Option bl)(K:Option bl→β):β:=
 match x with
 | none=>K none
 | some (.box cs)=>qD cs fun cs=>K (some (.box cs))
 | some (.row x n)=>aQ x fun x=>cg n fun n=>K (some (.row x n))
 | some (.tok e n)=>cg e fun e=>cg n fun n=>K (some (.tok e n))
 | some (.store cf h)=>aQ h fun h=>K (some (.store cf h))

theorem ES {β:Type}(x:Option bl)(K:Option bl→β):CK x K=K x:=by
 cases x with
 | none=>rfl
 | some y=>cases y <;> simp only[CK,p8,cD,eW]

def r9 {β:Type}(u:Nat)(σ:af)(K:Nat→af→β):β:=
 cg u fun u=>dS V9 σ.tmps fun ts=>dS CK σ.mem fun ms=>CK σ.hs fun hs=>K u { tmps:=ts,mem:=ms,hs:=hs }

theorem mQ {β:Type}(u:Nat)(σ:af)(K:Nat→af→β):r9 u σ K=K u σ:=by
 unfold r9
 rw[eW,ed V8,ed ES,ES]

structure Pe where
 normal:Option (Nat×af)
 kA:List (Nat×af)

def uz:Code→List (Option Nat)
 | .seq a b | .cond _ a b=>uz a++(uz b).filter fun q=>!(uz a).contains q
 | .block id b=>(uz b).filter (·!= some id)
 | .loop b | .rangeFunc _ _ _ b=>uz b
 | .exit id=>[some id]
 | .ret=>[none]
 | _=>[]

def wH:Option Nat→Code
 | none=>.ret
 | some id=>.exit id

def LI (body:Nat→af→Option Pe)(u:Nat)(σ0:af):Nat→af×Nat→Option (af×Nat)
 | 0,tm=>some tm
 | k+1,tm=>r9 (u+tm.2) tm.1 fun u1 σ1=>match body u1 σ1 with
  | none=>none
  | some o=>
   let tm':=nq u (σ0 :: (match o.normal with | some x=>[x.2] | none=>[]))
   if tm'.2=tm.2 then some tm' else LI body u σ0 k tm'

def collect (P:Program):Code→Nat→af→Option Pe
 | .skip,u,σ | .label _,u,σ=>some ⟨some (u,σ),[]⟩
 | .region id ops draw,u,σ=>(HU P ops draw (rW id σ) u).bind fun x=>match x with
  | none=>some ⟨none,[]⟩
  | some (u,σ)=>r9 u σ fun u σ=>some ⟨some (u,σ),[]⟩
 | .seq a b,u,σ=>(collect P a u σ).bind fun r1=>match r1.normal with
  | none=>some r1
  | some (u1,σ1)=>(collect P b u1 σ1).map fun r2=>⟨r2.normal,r1.kA++r2.kA⟩
 | .cond _ a b,u,σ=>r9 u σ fun u σ=>(collect P a u σ).bind fun ra=>(collect P b u σ).map fun rb=>match ra.normal,rb.normal with
  | some x,some y=>let (tm,n):=nq u [x.2,y.2];⟨some (u+n,tm),ra.kA++rb.kA⟩
  | some x,none=>⟨some x,ra.kA++rb.kA⟩
  | none,y=>⟨y,ra.kA++rb.kA⟩
 | .block id body,u,σ=>r9 u σ fun u σ=>(collect P body u σ).map fun r=>
  let outs:=(match r.normal with | some x=>[x.2] | none=>[])++(r.kA.filter (·.1==id)).map (·.2)
  let rest:=r.kA.filter (·.1 != id)
  match outs with
  | []=>⟨none,rest⟩
  | outs=>let (tm,n):=nq u outs;⟨some (u+n,tm),rest⟩
 | .loop body,u,σ=>r9 u σ fun u σ=>(LI (fun u σ=>collect P body u σ) u σ 8 (σ,0)).bind fun(tm,n)=>r9 (u+n) tm fun u1 tm=>(collect P body u1 tm).map fun r=>⟨none,r.kA⟩
 | .exit id,_,σ=>some ⟨none,[(id,σ)]⟩
 | .ret,_,_=>some ⟨none,[]⟩
 | .rangeFunc _ _ _ body,u,σ=>some ⟨some (u+1,mo σ (.sym u)),match uz body with | [some id]=>[(id,mo σ (.sym u))] | _=>[]⟩
 | _,_,_=>none

structure Ex where
 lab:Nat
 tm:af
 base:Nat

abbrev Mt:=Nat→Nat→af→Option T

def lK : List (Nat × Ex) → Nat → Option Ex
  | [], _ => none
  | (i, e) :: r, id => if i = id then some e else lK r id

def Pe.oH (r:Pe):List af:=match r.normal with | some x=>[x.2] | none=>[]
def Pe.at (r:Pe)(id:Nat):List af:=r.oH++(r.kA.filter (·.1==id)).map (·.2)

def Eb (dp u:Nat)(tm:af):Mt:=fun _ _ σ'=>(pU u tm σ').map (T.jump dp)

def Iy (dp u:Nat)(m:af×Nat)(body:Option T)(k:Mt):Option T:=
 match body,k dp (u+m.2) m.1 with
 | some tb,some tr=>some (.join dp m.2 tb tr)
 | _,_=>none

def Qb (x:E)(a b:Option T):Option T:=
 match a,b with
 | some ta,some tb=>some (.ite x ta tb)
 | _,_=>none

def NA (dp u:Nat)(m:af×Nat)(σ:af)(body:Option T):Option T:=
 match pU u m.1 σ,body with
 | some inits,some tb=>if inits.length=m.2 then some (.loop dp inits tb) else none
 | _,_=>none

def cK:Nat→List SV→List (Nat×E)
 | _,[]=>[]
 | i,.e x _ :: r=>(i,x) :: cK (i+1) r
 | i,_ :: r=>cK (i+1) r

def SV.data:SV→SV
 | .e x s=>.e x s
 | _=>.cE

def sR:Nat→List Tmp→List SV→List SV
 | _,[],σs=>σs
 | u,p :: ps,σs=>sR (u+1) ps (σs.set p (.e (.sym u) false))

def d_ (σ:af)(cf:cz)(u:Nat)(ps:List Tmp):af:=
 { tmps:=sR (u+1) ps (σ.tmps.map SV.data),mem:=List.replicate σ.mem.length none,hs:=some (.store cf (.sym u)) }

def iv (dp:Nat):Mt:=fun _ _ σ=>match σ.hs with | some (.store _ h)=>some (.jump dp [h]) | _=>none

def lu (q:Option Nat)(σ:af):Option E:=match q,σ.hs with | none,some (.store _ h)=>some h | _,_=>none

def mw (dp base:Nat)(σ:af)(cf:cz)(q:Option Nat):List (Nat×Ex):=match q with
 | none=>[]
 | some id=>[(id,⟨dp+1,{ tmps:=List.replicate σ.tmps.length .cE,mem:=List.replicate σ.mem.length none,hs:=some (.store cf (.sym base)) },base⟩)]

def gN:Code→Bool
 | .seq a b | .cond _ a b=>gN a&&gN b
 | .block _ b | .loop b=>gN b
 | .rangeFunc _ _ _ _=>false
 | _=>true

def compile (P:Program)(rv:af→Option E):Code→Nat→Nat→af→List (Nat×Ex)→Mt→Option T
 | .skip,dp,u,σ,_,k | .label _,dp,u,σ,_,k=>k dp u σ
 | .region id ops draw,dp,u,σ,_,k=>Cs P ops draw (rW id σ) u fun σ u=>r9 u σ fun u σ=>k dp u σ
 | .seq a b,dp,u,σ,ex,k=>compile P rv a dp u σ ex fun dp u σ=>compile P rv b dp u σ ex k
 | .cond c a b,dp,u,σ,ex,k=>r9 u σ fun u σ=>(σ.zS c).jx.bind fun x=>
   if mh a&&mh b then
    (collect P a u σ).bind fun ra=>(collect P b u σ).bind fun rb=>
     Iy dp u (nq u (ra.oH++rb.oH))
      (Qb x (compile P rv a (dp+1) u σ ex (Eb dp u (nq u (ra.oH++rb.oH)).1)) (compile P rv b (dp+1) u σ ex (Eb dp u (nq u (ra.oH++rb.oH)).1))) k
   else Qb x (compile P rv a dp u σ ex k) (compile P rv b dp u σ ex k)
 | .block id body,dp,u,σ,ex,k=>r9 u σ fun u σ=>(collect P body u σ).bind fun r=>
   if(r.at id).isEmpty then compile P rv body dp u σ (ex.filter (·.1 != id)) (fun _ _ _=>none)
   else Iy dp u (nq u (r.at id)) (compile P rv body (dp+1) u σ ((id,⟨dp,(nq u (r.at id)).1,u⟩) :: ex) (Eb dp u (nq u (r.at id)).1)) k
 | .loop body,dp,u,σ,ex,_=>r9 u σ fun u σ=>(LI (fun u σ=>collect P body u σ) u σ 8 (σ,0)).bind fun m=>
   NA dp u m σ (r9 (u+m.2) m.1 fun u1 tm=>compile P rv body (dp+1) u1 tm ex (Eb dp u m.1))
 | .exit id,_,_,σ,ex,_=>(lK ex id).bind fun e=>(pU e.base e.tm σ).map (T.jump e.lab)
 | .ret,_,_,σ,_,_=>(rv σ).map T.ret
 | .rangeFunc g ps wq body,dp,u,σ,ex,k=>match(σ.zS g).jx,σ.hs with
  | some x,some (.store cf h)=>if cf.ro=true then none else match uz body with
   | [q]=>match compile P (fun _=>none) wq (dp+2) (u+1+ps.size) (d_ σ cf u ps.toList) [] (fun MF u' σ'=>compile P (lu q) body MF u' σ' (mw dp (u+1+ps.size) σ cf q) (iv dp)),k dp (u+1) (mo σ (.sym u)),
     (match q with | none=>(rv (mo σ (.sym u))).map T.ret | some id=>(lK ex id).bind fun e=>(pU e.base e.tm (mo σ (.sym u))).map (T.jump e.lab)) with
    | some tb,some tr,some tq=>some (.lz x h ((cK 0 σ.tmps).map (·.1)) ((cK 0 σ.tmps).map (·.2)) ps.size dp q tb tr tq)
    | _,_,_=>none
   | _=>match compile P (fun _=>none) wq (dp+1) (u+1+ps.size) (d_ σ cf u ps.toList) [] (fun MF u' σ'=>compile P (fun _=>none) body MF u' σ' [] (iv dp)),k dp (u+1) (mo σ (.sym u)) with
   | some tb,some tr=>some (.rB x h ((cK 0 σ.tmps).map (·.1)) ((cK 0 σ.tmps).map (·.2)) ps.size dp tb tr)
   | _,_=>none
  | _,_=>none
 | _,_,_,_,_,_=>none

end
end

section
noncomputable section

section
variable {P:Program}

theorem Mf {w:World}{l:Nat}{r:Loop}(h:w.heap[l]? = some (.loop r))(r':Loop)(b o:Nat):(w.putObj l (.loop r')).cell? ⟨b,o,none⟩=w.cell? ⟨b,o,none⟩:=by
 by_cases e:b=l
 ·subst e
  have h1:w.cell? ⟨b,o,none⟩=none:=by simp[World.cell?,h]
  have h2:=World.putObj_heap_same (o:=.loop r') (Array.getElem?_eq_some_iff.1 h).1
  rw[h1]
  simp[World.cell?,h2]
 ·exact World.cell?_of_block (a:=⟨b,o,none⟩) (World.putObj_heap_other e)

theorem bW.putObj {w:World}{S:Sets}{l:Nat}{r:Loop}(h:w.heap[l]? = some (.loop r))(r':Loop):bW S w (w.putObj l (.loop r')):=fun b o _=>Mf h r' b o

def WT (d x:D):Prop:=(∃(e:TypeId) (sz:Nat) (cs:List D) (j:Nat),x=.blk e sz cs∧cs[j]? = some d)∨(∃(dL:List D) (j:Nat) (d1 d2:D),x=.iE dL∧(D.kept dL)[j]? = some (D.bh [d1,d2])∧(d=d1∨d=d2))

theorem dF.to {w w':World} {S S':Sets} {aJ:Nat→Prop} {bs:List D} (h:dF w S aJ bs) (hS:S.SR S') (hm:∀b o,S' b o→S b o) (hb:∀b,aJ b→w'.heap[b]? = w.heap[b]?)
  (hr:∀(v:Value) (d:D) (i:Nat) (x:D),bs[i]? = some x→WT d x→bU w S v d→bU w' S' v d):dF w' S' aJ bs:=by
 refine⟨hS.n.symm.trans h.n,fun i e sz cs hi=>?_,fun b off hf hs=>h.Cw b off hf (hm _ _ hs),fun i dL hi=>?_,fun i j x y hi hj hx hy e=>h.inj i j x y hi hj hx hy (by rw[←hS.loc,←hS.loc];exact e),fun i z hi hz=>?_⟩
 ·obtain⟨hf,vs,g1,g2,g3,g4,g5,g6⟩:=h.cells i e sz cs hi
  rw[hS.loc,hS.cap]
  exact⟨hf,vs,g1.to (hb _ hf),g2,g3,g4,fun j v d hv hd=>hr v d i _ hi (.inl ⟨e,sz,cs,j,rfl,hd⟩) (g5 j v d hv hd),fun off hs=>g6 off (hm _ _ hs)⟩
 ·obtain⟨hf,es,clock,g1,g2,g3,g4⟩:=h.maps i dL hi
  rw[hS.loc]
  refine⟨hf,es,clock,(hb _ hf).trans g1,g2,fun off hs=>g3 off (hm _ _ hs),fun j e kv he hkv=>?_⟩
  obtain⟨dk,dv,rfl,g6,g7⟩:=g4 j e kv he hkv
  exact⟨dk,dv,rfl,hr _ _ i _ hi (.inr ⟨dL,j,dk,dv,rfl,hkv,.inl rfl⟩) g6,hr _ _ i _ hi (.inr ⟨dL,j,dk,dv,rfl,hkv,.inr rfl⟩) g7⟩
 ·obtain⟨hf,g1,g3⟩:=h.FJ i z hi hz
  rw[hS.loc,hb _ hf]
  exact⟨hf,g1.to (by rw[hS.n];exact Nat.le_refl _) (fun i _=>hS.loc i) (hS.mH i),fun off hs=>g3 off (hm _ _ hs)⟩

theorem dF.drop {w:World}{S:Sets}{aJ:Nat→Prop}{bs:List D}{i:Nat}{z:D}(h:dF w S aJ bs)(hz:bs[i]? = some z)(hl:z.live=true):dF w S (fun b=>aJ b∧b≠S.loc i) (bs.set i (.bh [])):=by
 have hc:∀{j:Nat} {x:D},(bs.set i (.bh []))[j]? = some x→x.live=true→bs[j]? = some x∧S.loc j≠S.loc i:=by
  intro j x hj hx
  rw[List.getElem?_set] at hj
  split at hj
  ·split at hj
   ·cases hj;cases hx
   ·cases hj
  ·rename_i hij
   exact⟨hj,fun e=>hij (h.inj j i _ _ hj hz hx hl e).symm⟩
 refine⟨by rw[h.n];simp,fun j e sz cs hj=>?_,fun b off hf=>h.Cw b off hf.1,fun j dL hj=>?_,fun j k x y hj hk hx hy e=>h.inj j k x y (hc hj hx).1 (hc hk hy).1 hx hy e,fun j x hj hx=>?_⟩
 ·obtain⟨g,hne⟩:=hc hj rfl
  obtain⟨g1,g2⟩:=h.cells j e sz cs g
  exact⟨⟨g1,hne⟩,g2⟩
 ·obtain⟨g,hne⟩:=hc hj rfl
  obtain⟨g1,g2⟩:=h.maps j dL g
  exact⟨⟨g1,hne⟩,g2⟩
 ·obtain⟨g,hne⟩:=hc hj (D.jQ hx)
  obtain⟨g1,g2⟩:=h.FJ j x g hx
  exact⟨⟨g1,hne⟩,g2⟩

theorem dF.aaq {w w':World}{S:Sets}{aJ:Nat→Prop}{bs:List D}{i:Nat}{z:D}(h:dF w S aJ bs)(hz:bs[i]? = some (.bh []))(hi:z.isIt=true)(dN:A8 S i w'.heap[S.loc i]? z)(hf:¬aJ (S.loc i))(hn:∀off,¬S (S.loc i) off)(hk:bW S w w')(hb:∀b,aJ b→w'.heap[b]? = w.heap[b]?) :
  dF w' S (fun b=>aJ b∨b=S.loc i) (bs.set i z):=by
 have hc:∀{j:Nat} {x:D},(bs.set i z)[j]? = some x→x.live=true→(j=i∧x=z)∨(bs[j]? = some x∧aJ (S.loc j)∧w'.heap[S.loc j]? = w.heap[S.loc j]?):=by
  intro j x hj hx
  rw[List.getElem?_set] at hj
  split at hj
  ·rename_i hij
   subst hij
   rw[if_pos (List.getElem?_eq_some_iff.1 hz).1] at hj
   cases hj
   exact .inl ⟨rfl,rfl⟩
  ·have:=h.jl hj hx
   exact .inr ⟨hj,this,hb _ this⟩
 refine⟨by rw[h.n];simp,fun j e sz cs hj=>?_,fun b off W5=>W5.elim (h.Cw b off) fun e=>e ▸ hn off,fun j dL hj=>?_,fun j k x y hj hk' hx hy e=>?_,fun j x hj hx=>?_⟩
 ·rcases hc hj rfl with⟨rfl,e1⟩ | ⟨g,g0,gh⟩
  ·subst e1;cases hi
  ·obtain⟨_,vs,g1,g2,g3,g4,g5,g6⟩:=h.cells j e sz cs g
   exact⟨.inl g0,vs,g1.to gh,g2,g3,g4,fun k v d hv hd=>(g5 k v d hv hd).keep hk (Sets.le_refl _),g6⟩
 ·rcases hc hj rfl with⟨rfl,e1⟩ | ⟨g,g0,gh⟩
  ·subst e1;cases hi
  ·obtain⟨_,es,clock,g1,g2,g3,g4⟩:=h.maps j dL g
   refine⟨.inl g0,es,clock,gh.trans g1,g2,g3,fun k e kv he hkv=>?_⟩
   obtain⟨dk,dv,k1,k2,k3⟩:=g4 k e kv he hkv
   exact⟨dk,dv,k1,k2.keep hk (Sets.le_refl _),k3.keep hk (Sets.le_refl _)⟩
 ·rcases hc hj hx with⟨rfl,_⟩ | ⟨g,g0,_⟩ <;> rcases hc hk' hy with⟨rfl,_⟩ | ⟨g',g0',_⟩
  ·rfl
  ·exact absurd (e ▸ g0') hf
  ·exact absurd (e ▸ g0) hf
  ·exact h.inj j k x y g g' hx hy e
 ·rcases hc hj (D.jQ hx) with⟨rfl,e1⟩ | ⟨g,g0,gh⟩
  ·subst e1;exact⟨.inr rfl,dN,hn⟩
  ·obtain⟨_,g1,g2⟩:=h.FJ j x g hx
   rw[gh]
   exact⟨.inl g0,g1,g2⟩

theorem Gv {bs:List D}(h:cN bs=true){d:D}{i:Nat}{x:D}(hi:bs[i]? = some x)(hp:WT d x):d.gK=true:=by
 have hx:=gm h hi
 rcases hp with⟨e,sz,cs,j,rfl,hj⟩ | ⟨dL,j,d1,d2,rfl,hj,hd⟩
 ·exact gm (by simpa[D.gK] using hx) hj
 ·have hk:cN (D.kept dL)=true:=by
   have h1:cN dL=true:=by simpa[D.gK] using hx
   unfold D.kept
   split
   ·simpa[cN,D.gK] using h1
   ·exact h1
  have:=gm hk hj
  simp[D.gK,cN] at this
  rcases hd with rfl | rfl
  ·exact this.1
  ·exact this.2

def Sets.under (S:Sets)(h:Nat→Option Loop):Sets:={ S with hold:=h }

theorem Sets.nw (S:Sets)(h:Nat→Option Loop):S.SR (S.under h):=⟨fun _ _ h=>h,rfl,fun _=>rfl,fun _=>rfl,fun _=>rfl⟩

theorem qZ:∀{l:List SV} {k i s:Nat} {x:E},(cK k l)[i]? = some (s,x)→k≤s∧∃b,l[s-k]? = some (.e x b)
 | [],_,_,_,_,h=>by simp[cK] at h
 | sv :: r,k,i,s,x,h=>by
  have rest:∀{i:Nat},(cK (k+1) r)[i]? = some (s,x)→k≤s∧∃b,(sv :: r)[s-k]? = some (.e x b):=by
   intro i h
   obtain⟨h1,b,h2⟩:=qZ h
   refine⟨by omega,b,?_⟩
   rw[show s-k=(s-(k+1))+1 from by omega]
   simpa using h2
  cases sv with
  | e y b=>
   simp only[cK] at h
   cases i with
   | zero=>simp at h;obtain⟨rfl,rfl⟩:=h;exact⟨Nat.le_refl _,b,by simp⟩
   | succ i=>exact rest (by simpa using h)
  | _=>
   simp only[cK] at h
   exact rest h

theorem qY:∀{l:List SV} {k s:Nat} {x:E} {b:Bool},l[s]? = some (.e x b)→∃i:Nat,(cK k l)[i]? = some (k+s,x)
 | [],_,_,_,_,h=>by simp at h
 | sv :: r,k,0,x,b,h=>by
  simp at h
  subst h
  exact⟨0,by simp[cK]⟩
 | sv :: r,k,s+1,x,b,h=>by
  obtain⟨i,hi⟩:=qY (k:=k+1) (l:=r) (s:=s) (by simpa using h)
  rw[show k+1+s=k+(s+1) from by omega] at hi
  cases sv with
  | e y c=>exact⟨i+1,by simpa[cK] using hi⟩
  | _=>exact⟨i,by simpa[cK] using hi⟩

structure Ext (w0:World)(X:kG)(w1:World)(X1:kG):Prop where
 sub:X.S≤X1.S
 os:w1.os=w0.os
 tape:TL w1 w0
 output:w1.output=w0.output
 size:w0.heap.size≤w1.heap.size
 old:∀b,b<w0.heap.size→¬X.may b→w1.heap[b]? = w0.heap[b]?
 may:∀b,X1.may b→X.may b∨w0.heap.size≤b
 aJ:∀b,X1.aJ b→X.aJ b∨X.may b∨w0.heap.size≤b
 new:∀b o,X1.S b o→X.S b o∨w0.heap.size≤b∨X.may b
 G7:∃cs:List Nat,X1.G7=(cs.map fun D=>({ target:=.collected D,args:=#[] }:Deferred))++X.G7∧cs.Nodup∧∀D,D∈cs→w1.heap[D]? = some (.deferred (some []))∧¬X1.may D∧¬X1.aJ D∧w0.heap.size≤D

theorem Ext.refl (w0:World)(X:kG):Ext w0 X w0 X:=⟨Sets.le_refl _,rfl,.refl _,rfl,Nat.le_refl _,fun _ _ _=>rfl,fun _ h=>.inl h,fun _ h=>.inl h,fun _ _ h=>.inl h,[],rfl,List.nodup_nil,by simp⟩

theorem Ext.trans {w0 w1 w2:World}{X X1 X2:kG}(h:Ext w0 X w1 X1)(k:Ext w1 X1 w2 X2):Ext w0 X w2 X2:=by
 have hm:∀b,b<w0.heap.size→¬X.may b→¬X1.may b:=fun b hb hn hx=>(h.may b hx).elim hn fun g=>by omega
 refine⟨Sets.le_trans h.sub k.sub,k.os.trans h.os,k.tape.trans h.tape,k.output.trans h.output,Nat.le_trans h.size k.size,fun b hb hn=>(k.old b (Nat.lt_of_lt_of_le hb h.size) (hm b hb hn)).trans (h.old b hb hn),
  fun b hb=>(k.may b hb).elim (h.may b) fun g=>.inr (Nat.le_trans h.size g),fun b hb=>?_,fun b o hs=>?_,?_⟩
 ·rcases k.aJ b hb with g | g | g
  ·exact h.aJ b g
  ·exact .inr (h.may b g)
  ·exact .inr (.inr (Nat.le_trans h.size g))
 ·rcases k.new b o hs with g | g | g
  ·exact h.new b o g
  ·exact .inr (.inl (Nat.le_trans h.size g))
  ·exact .inr ((h.may b g).elim .inr .inl)
 ·obtain⟨cs,h1,h2,h3⟩:=h.G7
  obtain⟨ds,k1,k2,k3⟩:=k.G7
  refine⟨ds++cs,by rw[k1,h1];simp,?_,fun D hD=>?_⟩
  ·rw[List.nodup_append]
   refine⟨k2,h2,fun a ha b hb e=>?_⟩
   subst e
   have g1:=(k3 a ha).2.2.2
   have g2:=(Array.getElem?_eq_some_iff.1 (h3 a hb).1).1
   omega
  ·rcases List.mem_append.1 hD with hD | hD
   ·obtain⟨g1,g2,g3,g4⟩:=k3 D hD
    exact⟨g1,g2,g3,Nat.le_trans h.size g4⟩
   ·obtain⟨g1,g2,g3,g4⟩:=h3 D hD
    have hlt:=(Array.getElem?_eq_some_iff.1 g1).1
    exact⟨(k.old D hlt g2).trans g1,fun hx=>(k.may D hx).elim g2 fun g=>by omega,fun hx=>(k.aJ D hx).elim g3 fun g=>g.elim g2 fun g=>by omega,g4⟩

theorem Ext.rep {w0 w1 w:World}{X X1:kG}{a:Act}{σ:af}{env:List D}{ρ:dJ}(h:Ext w0 X w1 X1)(hr:cu w1 X1 w a σ env ρ)(hh:∀l rec,X.S.hold l=some rec→w0.heap[l]? = some (.loop rec)∧¬X.may l∧¬X.aJ l):cu w0 { X with G7:=X1.G7 } w a σ env ρ:=by
 have hm:∀b,b<w0.heap.size→¬X.may b→¬X1.may b:=fun b hb hn hx=>(h.may b hx).elim hn fun g=>by omega
 refine⟨hr.size,hr.tmps,hr.dO,hr.inj,fun o x b hx hb=>?_,hr.cells,hr.os.trans h.os,hr.tape.trans h.tape,hr.output.trans h.output,Nat.le_trans h.size hr.grown,fun b hb hn=>(hr.old b (Nat.lt_of_lt_of_le hb h.size) (hm b hb hn)).trans (h.old b hb hn),Sets.le_trans h.sub hr.sub,fun b o hs=>?_,hr.zT,hh⟩
 ·obtain⟨g,hlt⟩:=hr.own o x b hx hb
  refine⟨?_,hlt⟩
  rcases g with g | g | g
  ·rcases h.aJ b g.2 with k | k | k
   ·exact .inl ⟨g.1,k⟩
   ·exact .inr (.inr k)
   ·exact .inr (.inl k)
  ·exact .inr (.inl (Nat.le_trans h.size g))
  ·rcases h.may b g with k | k
   ·exact .inr (.inr k)
   ·exact .inr (.inl k)
 ·rcases hr.new b o hs with g | g | g
  ·exact h.new b o g
  ·exact .inr (.inl (Nat.le_trans h.size g))
  ·exact .inr ((h.may b g).elim .inr .inl)

theorem nW {w w':World}{a:Act}{σ:af}{env:List D}{ρ:dJ}{S:Sets}{aJ may:Nat→Prop}{G7:List Deferred}{bs:List D}(h:cu w ⟨may,S,aJ,G7⟩ w' a σ env ρ)(hst:dF w' ρ.S ρ.aJ bs)(dN:∃cf x,σ.obj bN=some (.store cf x))(uX:∀b,may b→aJ b):Left w S aJ may w' ρ.S ρ.aJ bs:=by
 obtain⟨cf,x,dN⟩:=dN
 refine⟨hst,h.sub,h.os,h.tape,h.output,h.grown,h.old,fun b hb=>?_,fun b o hs=>?_,h.cells⟩
 ·obtain⟨g1,g2⟩:=h.own bN _ b dN hb
  refine⟨?_,g2⟩
  rcases g1 with g1 | g1 | g1
  ·exact .inl g1.2
  ·exact .inr g1
  ·exact .inl (uX b g1)
 ·rcases h.new b o hs with g | g | g
  ·exact .inl g
  ·exact .inr (.inr g)
  ·exact .inr (.inl g)

theorem n_ {env:List D}:∀{l:List E} {ds:List D} {i:Nat} {x:E},aM env l=some ds→l[i]? = some x→∃d,ds[i]? = some d∧x.eval env=some d
 | [],_,_,_,_,h=>by simp at h
 | y :: r,ds,i,x,h,hi=>by
  simp only[aM,Option.bind_eq_some_iff,Option.map_eq_some_iff] at h
  obtain⟨d,h1,ds',h2,rfl⟩:=h
  cases i with
  | zero=>simp at hi;subst hi;exact⟨d,rfl,h1⟩
  | succ i=>
   obtain⟨d',g1,g2⟩:=n_ (i:=i) h2 (by simpa using hi)
   exact⟨d',by simpa using g1,g2⟩

theorem xf {w:World}{ρ:dJ}{env:List D}:∀{ps:List Tmp} {vs:List Value} {u:Nat} {tm:Array Value} {wD:List SV},tm.size=wD.length→ps.length=vs.length→(∀t,ef w ρ env (tm.getD t undef) (wD.getD t .cE))→(∀(i:Nat) (v:Value),vs[i]? = some v→∃d,env[u+i]? = some d∧bU w ρ.S v d) →
  ((ps.zip vs).foldl (fun tmps (x:Tmp×Value)=>tmps.setIfInBounds x.1 x.2) tm).size=(sR u ps wD).length∧∀t,ef w ρ env (((ps.zip vs).foldl (fun tmps (x:Tmp×Value)=>tmps.setIfInBounds x.1 x.2) tm).getD t undef) ((sR u ps wD).getD t .cE)
 | [],[],u,tm,wD,hs,_,h,_=>⟨hs,h⟩
 | [],_ :: _,_,_,_,_,hl,_,_=>by simp at hl
 | _ :: _,[],_,_,_,_,hl,_,_=>by simp at hl
 | p :: ps,v :: vs,u,tm,wD,hs,hl,h,hv=>by
  simp only[List.zip_cons_cons,List.foldl_cons,sR]
  refine xf (by simp[hs]) (by simpa using hl) (fun t=>?_) fun i v' hi=>?_
  ·by_cases hp:p<wD.length
   ·simp only[Array.getD_eq_getD_getElem?,Array.getElem?_setIfInBounds,List.getD_eq_getElem?_getD,List.getElem?_set]
    by_cases e:p=t
    ·subst e
     obtain⟨d,hd,hr⟩:=hv 0 v rfl
     simp only[if_true,hs,hp]
     exact .e (by simpa[E.eval] using hd) hr (fun hh=>by cases hh)
    ·simp only[e,if_false]
     have:=h t
     simpa only[Array.getD_eq_getD_getElem?,List.getD_eq_getElem?_getD] using this
   ·have hge:wD.length≤p:=Nat.le_of_not_lt hp
    rw[Array.setIfInBounds_eq_of_size_le (by rw[hs];exact hge),List.set_eq_of_length_le hge]
    exact h t
  ·obtain⟨d,h1,h2⟩:=hv (i+1) v' (by simpa using hi)
   exact⟨d,by rw[show u+1+i=u+(i+1) from by omega];exact h1,h2⟩

theorem pP:∀(ps:List Tmp) (u:Nat) (wD:List SV),(sR u ps wD).length=wD.length
 | [],_,_=>rfl
 | p :: ps,u,wD=>by simp[sR,pP ps]

/-! ## a function leaves aiY has had loops over functions -/

structure WU (w w':World)(cs:List Nat):Prop where
 other:∀b,b∉cs→w'.heap[b]? = w.heap[b]?
 size:w'.heap.size=w.heap.size
 os:w'.os=w.os
 tape:TL w' w
 output:w'.output=w.output
 cell:∀b o,w'.cell? ⟨b,o,none⟩=w.cell? ⟨b,o,none⟩

theorem Me {w:World}{l:Nat}{x:Option (List Deferred)}(h:w.heap[l]? = some (.deferred x))(y:Option (List Deferred))(b o:Nat):(w.putObj l (.deferred y)).cell? ⟨b,o,none⟩=w.cell? ⟨b,o,none⟩:=by
 by_cases e:b=l
 ·subst e
  have h1:w.cell? ⟨b,o,none⟩=none:=by simp[World.cell?,h]
  have h2:=World.putObj_heap_same (o:=.deferred y) (Array.getElem?_eq_some_iff.1 h).1
  rw[h1]
  simp[World.cell?,h2]
 ·exact World.cell?_of_block (a:=⟨b,o,none⟩) (World.putObj_heap_other e)

theorem yW {F:Fence}{n:Nat}{fn:Func}{tmps:Array Value}{R:Ending→World→Prop}{u:FrameMode}(hu:u≠.run):∀(cs:List Nat) (w:World),cs.Nodup→(∀D,D∈cs→w.heap[D]? = some (.deferred (some []))) →
  (∀w',WU w w' cs→LeavesIn F n P fn tmps R [] u w')→LeavesInM F n P fn tmps R (cs.map fun D=>({ target:=.collected D,args:=#[] }:Deferred)) u w
 | [],w,_,_,h=>h w ⟨fun _ _=>rfl,rfl,rfl,.refl _,rfl,fun _ _=>rfl⟩
 | D :: cs,w,hn,hD,h=>by
  rw[List.nodup_cons] at hn
  have hd:=hD D (by simp)
  refine⟨hu,.inl ⟨D,_,rfl,run_takeDeferred hd,yW hu cs _ hn.2 (fun D' hD'=>?_) fun w' hm=>h w' ?_⟩⟩
  ·rw[World.putObj_heap_other (fun e=>by subst e;exact hn.1 hD')]
   exact hD D' (by simp[hD'])
  ·refine⟨fun b hb=>?_,hm.size.trans (by simp),hm.os,⟨hm.tape.tape,hm.tape.dr⟩,hm.output,fun b o=>(hm.cell b o).trans (Me hd _ b o)⟩
   simp only[List.mem_cons,not_or] at hb
   rw[hm.other b hb.2,World.putObj_heap_other hb.1]

theorem cu.marked {w0 w1 w w':World}{X0 X1:kG}{a:Act}{σ:af}{env:List D}{ρ:dJ}{cs:List Nat}(h:cu w1 X1 w a σ env ρ)(h0:cu w0 X0 w a σ env ρ)(hc:∀D,D∈cs→D<w1.heap.size∧¬X1.may D∧¬X1.aJ D∧w0.heap.size≤D)(hm:WU w w' cs):cu w0 X0 w' a σ env ρ:=
 h0.move (fun b o _=>hm.cell b o) (dJ.vB.refl ρ _) (fun o x b hx hb=>hm.other b fun hD=>by
  obtain⟨h1,h2,h3,_⟩:=hc b hD
  rcases(h.own o x b hx hb).1 with g | g | g
  ·exact h3 g.2
  ·omega
  ·exact h2 g) (fun _ _ _ _ _ _ hs=>hs) (fun b o hs=>by rw[hm.size];exact h0.cells b o hs) hm.os hm.tape hm.output (by rw[hm.size];exact Nat.le_refl _) (fun b hb _=>hm.other b fun hD=>by have:=(hc b hD).2.2.2;omega) fun b o hs=>.inl hs

theorem cu.PV {w0 w:World}{X:kG}{a:Act}{σ:af}{env:List D}{ρ:dJ}(h:cu w0 X w a σ env ρ){m:Nat}{r r':Loop}(hm:w0.heap[m]? = some (.loop r))(hn1:¬X.may m)(hn2:¬X.aJ m)(hh:X.S.hold m=none) :
  w.heap[m]? = some (.loop r)∧cu (w0.putObj m (.loop r')) X (w.putObj m (.loop r')) a σ env ρ:=by
 have hlt:m<w0.heap.size:=(Array.getElem?_eq_some_iff.1 hm).1
 have hw:w.heap[m]? = some (.loop r):=(h.old m hlt hn1).trans hm
 have hlt':m<w.heap.size:=(Array.getElem?_eq_some_iff.1 hw).1
 have hb:∀o x b,σ.obj o=some x→bY ρ o x b→b≠m:=fun o x b hx hb e=>by
  subst e
  rcases(h.own o x b hx hb).1 with g | g | g
  ·exact hn2 g.2
  ·omega
  ·exact hn1 g
 have h1:cu w0 X w a σ env ρ:=h
 refine⟨hw,h.size,fun t=>(h.tmps t).keep (bW.putObj hw r') (dJ.vB.refl ρ (fun _=>False)) fun _ hf=>hf.elim,fun o x hx=>(h.dO o x hx).keep (bW.putObj hw r') (dJ.vB.refl ρ (fun _=>False)) id (fun _ hf=>hf.elim) (fun b hb'=>World.putObj_heap_other (hb o x b hx hb')) (fun _ _ _ hs=>hs),h.inj,fun o x b hx hb'=>?_,fun b o hs=>?_,h.os,⟨h.tape.tape,h.tape.dr⟩,h.output,?_,fun b tM tK=>?_,h.sub,fun b o hs=>?_,h.zT,fun l rec hl=>?_⟩
 ·simp only[World.putObj_size]
  exact h.own o x b hx hb'
 ·simp only[World.putObj_size]
  exact h.cells b o hs
 ·simp only[World.putObj_size]
  exact h.grown
 ·simp only[World.putObj_size] at tM
  by_cases e:b=m
  ·subst e
   rw[World.putObj_heap_same hlt,World.putObj_heap_same hlt']
  ·rw[World.putObj_heap_other e,World.putObj_heap_other e]
   exact h.old b tM tK
 ·simp only[World.putObj_size]
  exact h.new b o hs
 ·obtain⟨g1,g2,g3⟩:=h.hold l rec hl
  have e:l≠m:=fun e=>by
   subst e
   rw[hh] at hl
   cases hl
  exact⟨by rw[World.putObj_heap_other e];exact g1,g2,g3⟩

end
end
end
end Go.Am
