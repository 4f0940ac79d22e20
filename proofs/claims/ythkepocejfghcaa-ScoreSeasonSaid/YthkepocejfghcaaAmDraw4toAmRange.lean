/-
  Several texts, one behind the other.
-/
import Derived.Test.YthkepocejfghcaaAmPuretoAmDraw3
import Derived.Defers
import Derived.Lib.SliceRun
import Derived.WalkSpells
import Derived.Test.YthkepocejfghcaaAmBasetoAmTok
import Derived.LoopN
set_option linter.unusedSimpArgs false
set_option linter.unusedVariables false
/-
 A region whose order is drawn: every order leads to the state of the text's order.
-/
namespace Go.Am
noncomputable section

section
variable {P:Program} {ops:Array Oper} {R:List Rec} {σ:SState} {w0:World} {X:Ent} {env:List D}

structure Facts (P:Program)(ops:Array Oper)(R:List Rec)(σ:SState)(env:List D)(i:Nat)(o:Oper)(r:Rec):Prop where
 at_:R[i]? = some r
 eff:reff P ops o (lex ops R σ i) r.ix=some r.eff
 seen:r.seen=seenOf ops o (lex ops R σ i)
 bind:BindOk P env r.ix r.eff.bind
 ix:r.ix≤env.length
 alt:∃ys,altOk P ops R σ (masks ops.toList []) i=some ys∧∀y,y∈ys→∃d,y.eval env=some d

theorem orderOk_at (h:orderOk ops R σ=true){i:Nat}{o:Oper}{r:Rec}(ho:ops[i]? = some o)(hr:R[i]? = some r) :
  (∀e,e∈o.after→Region.binds .any e=true→e.on<i)∧dstOk σ o=true∧(isNew o=true→∀u,r.eff.upd=some u→u.1=HID∨freshAt σ u.1) ∧
  ∀(j:Nat) (oj:Oper) (rj:Rec),j<i→ops[j]? = some oj→R[j]? = some rj→(conf ops oj o rj r=true→softP ops oj o rj r=false→((masks ops.toList []).getD i 0).testBit j=true)∧(isNew o=true→∀u,r.eff.upd=some u→u.1=HID∨rj.touches u.1=false):=by
 have hi:=(Array.getElem?_eq_some_iff.1 ho).1
 unfold orderOk at h
 rw[Bool.and_eq_true] at h
 replace h:=h.2
 have h:=List.all_eq_true.1 h i (List.mem_range.2 hi)
 unfold opOk at h
 rw[ho,hr] at h
 simp only[Bool.and_eq_true,List.all_eq_true,List.mem_range] at h
 obtain⟨⟨⟨h1,h2⟩,h3⟩,h4⟩:=h
 refine⟨fun e he hb=>?_,h2,fun hn u hu=>?_,fun j oj rj hj hoj hrj=>?_⟩
 ·have:=Array.all_eq_true'.1 h1 e he
  simpa[hb] using this
 ·rw[hn,hu] at h3
  simpa[freshAt] using h3
 ·have:=h4 j hj
  rw[hoj,hrj] at this
  simp only[pairOk,Bool.and_eq_true,Bool.or_eq_true,Bool.not_eq_true'] at this
  refine⟨fun hc hs=>by rw[hc,hs] at this;simpa using this.1,fun hn u hu=>?_⟩
  have:=this.2
  rw[hn,hu] at this
  simpa using this

theorem conf_read {oj oi:Oper}{rj ri:Rec}{t:Tmp}(hd:oj.dst=some t)(ht:t∈oi.looksAt ops):conf ops oj oi rj ri=true:=by
 have:oj.apart ops oi=false:=by
  rw[←Bool.not_eq_true]
  intro h
  exact(Oper.apart_spec h).1 t hd ht
 simp[conf,this]

theorem conf_read' {oj oi:Oper}{rj ri:Rec}{t:Tmp}(hd:oi.dst=some t)(ht:t∈oj.looksAt ops):conf ops oj oi rj ri=true:=by
 have:oj.apart ops oi=false:=by
  rw[←Bool.not_eq_true]
  intro h
  exact(Oper.apart_spec h).2.2 t hd ht
 simp[conf,this]

theorem conf_dst {oj oi:Oper}{rj ri:Rec}{t:Tmp}(hd:oj.dst=some t)(ht:oi.dst=some t):conf ops oj oi rj ri=true:=by
 have:oj.apart ops oi=false:=by
  rw[←Bool.not_eq_true]
  intro h
  exact(Oper.apart_spec h).2.1 t hd ht
 simp[conf,this]

theorem conf_upd {oj oi:Oper}{rj ri:Rec}{ob:Nat}(hu:ob∈rj.eff.targets)(ht:ri.touches ob=true):conf ops oj oi rj ri=true:=by
 have:rj.eff.targets.any ri.touches=true:=List.any_eq_true.2 ⟨ob,hu,ht⟩
 simp[conf,this]

theorem conf_upd' {oj oi:Oper}{rj ri:Rec}{ob:Nat}(hu:ob∈ri.eff.targets)(ht:rj.touches ob=true):conf ops oj oi rj ri=true:=by
 have:ri.eff.targets.any rj.touches=true:=List.any_eq_true.2 ⟨ob,hu,ht⟩
 simp[conf,this]

theorem touches_seen {r:Rec}{sv:SV}{ob:Nat}(h:sv∈r.seen)(ha:sv.avoids ob=false):r.touches ob=true:=by
 have:r.seen.any (fun sv=>!sv.avoids ob)=true:=List.any_eq_true.2 ⟨sv,h,by simp[ha]⟩
 simp[Rec.touches,this]

theorem touches_upd {r:Rec}{ob:Nat}(h:ob∈r.eff.targets):r.touches ob=true:=by
 simp[Rec.touches,h]

theorem upd_target {e:Eff}{u:Nat×SObj}(h:e.upd=some u):u.1∈e.targets:=by simp[Eff.targets,h]

theorem dstAt_some {j:Nat}{t:Tmp}(h:dstAt ops j=some t):∃o,ops[j]? = some o∧o.dst=some t:=Option.bind_eq_some_iff.1 h

theorem order_mask {D:Nat→Bool} (hD:Closed ops D) {i:Nat} {o:Oper} (ho:ops[i]? = some o) (hi:D i=false)
  (ha:∀e,e∈o.after→Region.binds .any e=true→D e.on=true) {j:Nat} {oj:Oper} (hoj:ops[j]? = some oj) (h1:j<i→((masks ops.toList []).getD i 0).testBit j=true) (h2:i<j→((masks ops.toList []).getD j 0).testBit i=true):D j=decide (j<i):=by
 rcases Nat.lt_trichotomy j i with h | h | h
 ·rw[masks_spec hD ho ha (h1 h)]
  simp[h]
 ·subst h;rw[hi];simp
 ·have hm:=h2 h
  have:D j=false:=by
   rw[←Bool.not_eq_true]
   intro hDj
   have:=masks_spec hD hoj (hD j oj hDj hoj) hm
   rw[hi] at this
   cases this
  rw[this];simp;omega

theorem order_done (hok:orderOk ops R σ=true) {D:Nat→Bool} (hD:Closed ops D) {i:Nat} {o:Oper} {r:Rec} (ho:ops[i]? = some o) (hr:R[i]? = some r) (hi:D i=false)
  (ha:∀e,e∈o.after→Region.binds .any e=true→D e.on=true) {j:Nat} {oj:Oper} {rj:Rec} (hoj:ops[j]? = some oj) (hrj:R[j]? = some rj) (hc:(conf ops oj o rj r=true∧softP ops oj o rj r=false)∧conf ops o oj r rj=true∧softP ops o oj r rj=false):D j=decide (j<i):=
 order_mask hD ho hi ha hoj (fun h=>(orderOk_at hok ho hr).2.2.2 j oj rj h hoj hrj |>.1 hc.1.1 hc.1.2) fun h=>(orderOk_at hok hoj hrj).2.2.2 i o r h ho hr |>.1 hc.2.1 hc.2.2

theorem soft_apart {oj oi:Oper}{rj ri:Rec}(h:oj.apart ops oi=false):softP ops oj oi rj ri=false:=by simp[softP,h]

theorem apart_read {oj oi:Oper}{t:Tmp}(hd:oj.dst=some t)(ht:t∈oi.looksAt ops):oj.apart ops oi=false:=by
 rw[←Bool.not_eq_true]
 intro h
 exact(Oper.apart_spec h).1 t hd ht

theorem apart_read' {oj oi:Oper}{t:Tmp}(hd:oi.dst=some t)(ht:t∈oj.looksAt ops):oj.apart ops oi=false:=by
 rw[←Bool.not_eq_true]
 intro h
 exact(Oper.apart_spec h).2.2 t hd ht

theorem apart_dst {oj oi:Oper}{t:Tmp}(hd:oj.dst=some t)(ht:oi.dst=some t):oj.apart ops oi=false:=by
 rw[←Bool.not_eq_true]
 intro h
 exact(Oper.apart_spec h).2.1 t hd ht

theorem soft_ne {oj oi:Oper}{rj ri:Rec}{ob:Nat}(h:ob∈rj.eff.targets)(hne:ob≠HID):softP ops oj oi rj ri=false∧softP ops oi oj ri rj=false:=by
 have h1:rj.reader=false:=by
  rw[←Bool.not_eq_true];intro hr
  rw[reader_targets hr] at h;cases h
 have h2:rj.storer=false:=by
  rw[←Bool.not_eq_true];intro hr
  rw[storer_targets hr] at h;simp at h;exact hne h
 simp[softP,h1,h2]

theorem soft_two {oj oi:Oper}{rj ri:Rec}{ob ob':Nat}(h:ob∈rj.eff.targets)(h':ob'∈ri.eff.targets):softP ops oj oi rj ri=false∧softP ops oi oj ri rj=false:=by
 have h1:rj.reader=false:=by
  rw[←Bool.not_eq_true];intro hr
  rw[reader_targets hr] at h;cases h
 have h2:ri.reader=false:=by
  rw[←Bool.not_eq_true];intro hr
  rw[reader_targets hr] at h';cases h'
 simp[softP,h1,h2]

theorem mem_softs {ms:List Nat}{i j:Nat}{rj:Rec}(hj:j<ops.size)(hrj:R[j]? = some rj)(hs:rj.storer=true)(hne:j≠i)(h:j∉softs ops R ms i):(j<i→(ms.getD i 0).testBit j=true)∧(i<j→(ms.getD j 0).testBit i=true):=by
 unfold softs at h
 rw[List.mem_filter] at h
 simp only[List.mem_range,hj,true_and,hrj,hs,Bool.true_and,Bool.and_eq_true,Bool.not_eq_true',decide_eq_true_eq,Bool.and_eq_false_iff,decide_eq_false_iff_not] at h
 refine⟨fun hlt=>Classical.byContradiction fun hb=>h ⟨⟨.inr (by simpa using hb),.inl (by omega)⟩,hne⟩,fun hlt=>Classical.byContradiction fun hb=>h ⟨⟨.inl (by omega),.inr (by simpa using hb)⟩,hne⟩⟩

theorem wanted_step {D:Nat→Bool} (hok:orderOk ops R σ=true) (hF:∀(i:Nat) (o:Oper),ops[i]? = some o→∃r,Facts P ops R σ env i o r) (hD:Closed ops D) {i:Nat} {o:Oper} (ho:ops[i]? = some o) (hi:D i=false)
  (ha:∀e,e∈o.after→Region.binds .any e=true→D e.on=true):∃r:Rec,BindOk P env r.ix r.eff.bind∧r.ix≤env.length∧rstep P ops o (runTo ops R D σ ops.size) r.ix=some (runTo ops R (fun j=>D j||j==i) σ ops.size,r.eff.bind):=by
 obtain⟨r,f⟩:=hF i o ho
 have hin:=(Array.getElem?_eq_some_iff.1 ho).1
 obtain⟨_,hdst,hfr,hpair⟩:=orderOk_at hok ho f.at_
 have hrec:∀(j:Nat),j<ops.size→∃oj rj,ops[j]? = some oj∧R[j]? = some rj:=fun j hj=>by
  obtain⟨rj,fj⟩:=hF j ops[j] (Array.getElem?_eq_getElem hj)
  exact⟨_,rj,Array.getElem?_eq_getElem hj,fj.at_⟩
 have hdone:=fun {j:Nat} {oj:Oper} {rj:Rec}=>order_done (j:=j) (oj:=oj) (rj:=rj) hok hD ho f.at_ hi ha
 have htmp:∀t,t∈o.looksAt ops→(runTo ops R D σ ops.size).tmp t=(lex ops R σ i).tmp t:=by
  intro t ht
  refine runTo_tmp_at (Nat.le_of_lt hin) fun j hj hjt=>?_
  obtain⟨oj,hoj,hdj⟩:=dstAt_some hjt
  obtain⟨rj,fj⟩:=hF j oj hoj
  exact hdone hoj fj.at_ ⟨⟨conf_read hdj ht,soft_apart (apart_read hdj ht)⟩,conf_read' hdj ht,soft_apart (apart_read' hdj ht)⟩
 have hobj:∀ob,ob≠HID→r.touches ob=true→(runTo ops R D σ ops.size).obj ob=(lex ops R σ i).obj ob:=by
  intro ob hne htouch
  refine runTo_obj_at (Nat.le_of_lt hin) fun j hj hju=>?_
  obtain⟨oj,rj,hoj,hrj⟩:=hrec j hj
  have huj:ob∈rj.eff.targets:=by simpa[effAt,hrj] using hju
  obtain⟨hs1,hs2⟩:=soft_ne (ops:=ops) (oj:=oj) (oi:=o) (ri:=r) huj hne
  exact hdone hoj hrj ⟨⟨conf_upd huj htouch,hs1⟩,conf_upd' huj htouch,hs2⟩
 have htouchT:∀t ob,t∈o.looksAt ops→((lex ops R σ i).tmp t).avoids ob=false→r.touches ob=true:=fun t ob ht hav=>touches_seen (sv:=(lex ops R σ i).tmp t) (by rw[f.seen];exact List.mem_append.2 (.inl (List.mem_map_of_mem ht))) hav
 have htouchH:usesHr o (fun x=>((lex ops R σ i).opd x).mayE) (cfOf (lex ops R σ i).obj)=true→r.touches HID=true:=fun hu=>touches_seen (sv:=.slc HID) (by rw[f.seen];refine List.mem_append.2 (.inr ?_);rw[hu];simp) (by simp[SV.avoids])
 have hkept:cfKept R σ=true:=by
  unfold orderOk at hok
  rw[Bool.and_eq_true] at hok
  exact hok.1
 have hC:cfOf (runTo ops R D σ ops.size).obj=cfOf (lex ops R σ i).obj:=(runTo_cf hkept _).trans (runTo_cf hkept _).symm
 have hadd0:runTo ops R (fun j=>D j||j==i) σ ops.size=(runTo ops R D σ ops.size).app o.dst r.eff:=by
  rw[runTo_add hi ops.size hin fun j hj hij hDj=>?_]
  ·have h1:dstAt ops i=o.dst:=by simp[dstAt,ho]
   have h2:effAt R i=r.eff:=by simp[effAt,f.at_]
   rw[h1,h2]
  ·obtain⟨oj,rj,hoj,hrj⟩:=hrec j hj
   have hno:¬((conf ops oj o rj r=true∧softP ops oj o rj r=false)∧conf ops o oj r rj=true∧softP ops o oj r rj=false):=by
    intro hc
    have:=hdone hoj hrj hc
    rw[hDj] at this
    simp at this
    omega
   refine⟨fun t h1 h2=>hno ?_,fun ob h1 h2=>hno ?_⟩
   ·obtain⟨o1,ho1,hd1⟩:=dstAt_some h1
    obtain⟨o2,ho2,hd2⟩:=dstAt_some h2
    rw[ho] at ho1;rw[hoj] at ho2
    cases ho1;cases ho2
    exact⟨⟨conf_dst hd2 hd1,soft_apart (apart_dst hd2 hd1)⟩,conf_dst hd1 hd2,soft_apart (apart_dst hd1 hd2)⟩
   ·have hu1:ob∈r.eff.targets:=by simpa[effAt,f.at_] using h1
    have hu2:ob∈rj.eff.targets:=by simpa[effAt,hrj] using h2
    obtain⟨hs1,hs2⟩:=soft_two (ops:=ops) (oj:=oj) (oi:=o) hu2 hu1
    exact⟨⟨conf_upd' hu1 (touches_upd hu2),hs1⟩,conf_upd hu1 (touches_upd hu2),hs2⟩
 have fin:∀e:Eff,reff P ops o (runTo ops R D σ ops.size) r.ix=some e→BindOk P env r.ix e.bind→e.val=r.eff.val→e.upd=r.eff.upd→e.del=r.eff.del→∃r:Rec,BindOk P env r.ix r.eff.bind∧r.ix≤env.length∧rstep P ops o (runTo ops R D σ ops.size) r.ix=some (runTo ops R (fun j=>D j||j==i) σ ops.size,r.eff.bind):=by
  intro e heff hbind h1 h2 h3
  refine⟨⟨e,[],r.ix⟩,hbind,f.ix,?_⟩
  have hadd:runTo ops R (fun j=>D j||j==i) σ ops.size=(runTo ops R D σ ops.size).app o.dst e:=by
   rw[hadd0]
   simp only[SState.app,h1,h2,h3]
  rw[hadd]
  refine rstep_of_reff heff ?_ fun hn u hu=>?_
  ·unfold dstOk at hdst ⊢
   rw[(runTo_len ..).1]
   exact hdst
  ·have hu:=h2 ▸ hu
   rcases hfr hn u hu with hH1 | hfr
   ·exact .inl hH1
   by_cases hne:u.1=HID
   ·exact .inl hne
   refine .inr (runTo_fresh hfr ops.size fun j hj hDj=>?_)
   obtain⟨oj,rj,hoj,hrj⟩:=hrec j hj
   refine⟨rj,hrj,?_⟩
   rcases Nat.lt_trichotomy j i with h | h | h
   ·exact((hpair j oj rj h hoj hrj).2 hn u hu).resolve_left hne
   ·subst h;rw[hi] at hDj;cases hDj
   ·rw[←Bool.not_eq_true]
    intro ht
    obtain⟨hs1,hs2⟩:=soft_ne (ops:=ops) (oj:=o) (oi:=oj) (ri:=rj) (upd_target hu) hne
    have:=hdone hoj hrj ⟨⟨conf_upd' (upd_target hu) ht,hs2⟩,conf_upd (upd_target hu) ht,hs1⟩
    rw[hDj] at this
    simp at this
    omega
 by_cases hkeep:r.touches HID=true→(runTo ops R D σ ops.size).obj HID=(lex ops R σ i).obj HID
 ·have heff:reff P ops o (runTo ops R D σ ops.size) r.ix=some r.eff:=by
   rw[reff_congr htmp (fun t ob ht hav=>?_) hC (fun hu=>hkeep (htouchH hu))]
   ·exact f.eff
   ·by_cases hne:ob=HID
    ·subst hne;exact hkeep (htouchT t _ ht hav)
    ·exact hobj ob hne (htouchT t ob ht hav)
  exact fin r.eff heff f.bind rfl rfl rfl
 ·-- a writer of the store has another place
  rw[Classical.not_imp] at hkeep
  obtain⟨htouch,hkeep⟩:=hkeep
  have hw:∀j,j<ops.size→HID∈(effAt R j).targets→D j=decide (j<i)∨(r.reader=true∧j∈softs ops R (masks ops.toList []) i):=by
   intro j hj hju
   obtain⟨oj,rj,hoj,hrj⟩:=hrec j hj
   have huj:HID∈rj.eff.targets:=by simpa[effAt,hrj] using hju
   by_cases hji:j=i
   ·subst hji;left;rw[hi];simp
   by_cases hsoft:r.reader=true∧rj.storer=true
   ·by_cases hm:j∈softs ops R (masks ops.toList []) i
    ·exact .inr ⟨hsoft.1,hm⟩
    ·obtain⟨m1,m2⟩:=mem_softs hj hrj hsoft.2 hji hm
     exact .inl (order_mask hD ho hi ha hoj m1 m2)
   ·have hnr:rj.reader=false:=by
     rw[←Bool.not_eq_true];intro hr
     rw[reader_targets hr] at huj;cases huj
    have hs:∀{o1 o2:Oper},softP ops o1 o2 rj r=false∧softP ops o2 o1 r rj=false:=by
     intro o1 o2
     have:(r.reader&&rj.storer)=false:=by
      rw[←Bool.not_eq_true,Bool.and_eq_true];exact hsoft
     simp only[softP,hnr,this,Bool.false_and,Bool.or_false,Bool.and_false,and_self]
    exact .inl (hdone hoj hrj ⟨⟨conf_upd huj htouch,hs.1⟩,conf_upd' huj htouch,hs.2⟩)
  have hsame:(∀j,j<ops.size→HID∈(effAt R j).targets→D j=decide (j<i))→False:=fun h=>hkeep (runTo_obj_at (Nat.le_of_lt hin) h)
  have hread:r.reader=true:=by
   refine Classical.byContradiction fun hn=>hsame fun j hj hju=>?_
   exact(hw j hj hju).resolve_right fun h=>hn h.1
  obtain⟨ys,hys,hev⟩:=f.alt
  unfold altOk at hys
  simp only[ho,f.at_,hread,htouch,Bool.and_self,if_true] at hys
  split at hys
  ·rename_i hs
   exact(hsame fun j hj hju=>(hw j hj hju).resolve_right fun h=>by rw[hs] at h;cases h.2).elim
  ·rename_i j0 hs
   have hD0:D j0≠decide (j0<i):=by
    intro h
    refine hsame fun j hj hju=>(hw j hj hju).elim id fun h'=>?_
    rw[hs] at h'
    have:=h'.2
    simp at this
    rw[this];exact h
   have halt:(runTo ops R D σ ops.size).obj HID=altObj ops R σ i j0:=by
    refine runTo_obj ops.size fun j hj hju=>?_
    by_cases hj0:j=j0
    ·subst hj0
     cases hDj:D j <;> cases hdj:decide (j<i) <;> simp_all
    ·have:D j=decide (j<i):=(hw j hj hju).resolve_right fun h=>by rw[hs] at h;simp at h;exact hj0 h.2
     show D j=(decide (j<i) != (j==j0))
     rw[this,show(j==j0)=false from by simpa using hj0]
     cases decide (j<i) <;> rfl
   split at hys
   ·rename_i e he
    split at hys
    ·rename_i hc
     simp only[Bool.and_eq_true,Option.isNone_iff_eq_none] at hc
     have hrd:=hread
     unfold Rec.reader at hrd
     simp only[Bool.and_eq_true,Option.isNone_iff_eq_none] at hrd
     have heff:reff P ops o (runTo ops R D σ ops.size) r.ix=some e:=by
      rw[←he]
      have hH:((lex ops R σ i).setObj HID (altObj ops R σ i j0)).obj HID=altObj ops R σ i j0:=by rw[obj_setObj_eq,if_pos (.inl rfl)]
      refine reff_congr (fun t ht=>?_) (fun t ob ht hav=>?_) ?_ fun _=>by rw[hH];exact halt
      ·rw[SState.tmp_setObj];exact htmp t ht
      ·rw[SState.tmp_setObj] at hav
       by_cases hne:ob=HID
       ·subst hne;rw[hH];exact halt
       ·rw[obj_setObj_ne (Ne.symm hne)];exact hobj ob hne (htouchT t ob ht hav)
      ·rw[cfOf_eq,cfOf_eq,hH,halt]
     have hb:BindOk P env r.ix e.bind:=by
      split at hys
      ·rename_i b a hbe hba
       cases hys
       obtain⟨d,hd⟩:=hev _ (List.mem_singleton_self _)
       have h0:=f.bind
       rw[hba] at h0
       obtain⟨da,h1,h2⟩:=h0
       rw[hbe]
       simp only[E.eval,h1,Option.bind_some,Option.bind_eq_some_iff] at hd
       obtain⟨db,h3,h4⟩:=hd
       simp only[Am.D.m4] at h4
       split at h4
       ·rename_i hsm
        have:=Am.D.same_eq hsm
        subst this
        exact⟨da,h3,h2⟩
       ·cases h4
      ·rename_i hbe hba
       rw[hbe];trivial
      ·cases hys
     exact fin e heff hb (SV.same_eq hc.1.1) (hc.1.2.trans hrd.1.symm) (hc.2.trans hrd.2.symm)
    ·cases hys
   ·cases hys
  ·cases hys

abbrev doneOf (listed:Array Bool):Nat→Bool:=fun j=>listed.getD j false

theorem countP_drop {p q:Nat→Bool}{i:Nat}:∀{l:List Nat},(∀j,q j=true→p j=true)→i∈l→p i=true→q i=false→l.countP q<l.countP p
 | [],_,h,_,_=>by cases h
 | j :: l,hpq,hm,hp,hq=>by
  have hle:l.countP q≤l.countP p:=List.countP_mono_left fun x _ hx=>hpq x hx
  rw[List.countP_cons,List.countP_cons]
  rcases List.mem_cons.1 hm with rfl | hm
  ·rw[hp,hq];simp;omega
  ·have ih:=countP_drop hpq hm hp hq
   cases hqj:q j with
   | false=>cases p j <;> simp <;> omega
   | true=>rw[hpq j hqj];simp;omega

theorem wpAny_gen {rd:Option Nat} {n:Nat} {Q:Exit→Act→World→Prop} {st:(Nat→Bool)→SState} (hafter:∀(i:Nat) (o:Oper),ops[i]? = some o→∀e,e∈o.after→Region.binds .any e=true→e.on<i)
  (hst:∀(D:Nat→Bool) (i:Nat) (o:Oper),Closed ops D→ops[i]? = some o→D i=false→(∀e,e∈o.after→Region.binds .any e=true→D e.on=true)→∃r:Rec,BindOk P env r.ix r.eff.bind∧r.ix≤env.length∧rstep P ops o (st D) r.ix=some (st (fun j=>D j||j==i),r.eff.bind))
  (hlen:∀D,(st D).tmps.length=σ.tmps.length∧(st D).mem.length=σ.mem.length) (hcongr:∀D D':Nat→Bool,(∀j,j<ops.size→D j=D' j)→st D=st D') (hm:σ.mem.length=σ.tmps.length)
  (hsz:∀(j d:Nat),(ops[j]?).bind (fun(o:Oper)=>o.dst)=some d→d<σ.tmps.length) (hQ:∀a' w' ρ',Rep w0 X w' a' (st fun _=>true) env ρ'→Q .normal a' w') :
  ∀(fuel:Nat) (listed:Array Bool) (a:Act) (w:World) (ρ:Rho),listed.size=ops.size→Closed ops (doneOf listed)→(List.range ops.size).countP (fun j=>!doneOf listed j)≤fuel →
   Rep w0 X w a (st (doneOf listed)) env ρ→wpAnyIn (FW rd) n P .any ops Q fuel listed a w:=by
 have hall:∀(listed:Array Bool),listed.size=ops.size→Region.ready .any ops listed=[]→∀j,j<ops.size→doneOf listed j=true:=by
  intro listed hs hr j
  induction j using Nat.strongRecOn with
  | _ j ih=>
   intro hj
   refine Classical.byContradiction fun hnd=>?_
   have hmem:j∈Region.ready .any ops listed:=by
    refine mem_ready.2 ⟨?_,ops[j],Array.getElem?_eq_getElem hj,fun e he hb=>?_⟩
    ·simp only[doneOf,Array.getD_eq_getD_getElem?,Array.getElem?_eq_getElem (show j<listed.size by omega),Option.getD_some] at hnd ⊢
     simpa using hnd
    ·have:=hafter j ops[j] (Array.getElem?_eq_getElem hj) e he hb
     exact ih e.on this (by omega)
   rw[hr] at hmem
   cases hmem
 have hend:∀(listed:Array Bool) (a:Act) (w:World) (ρ:Rho),listed.size=ops.size→Region.ready .any ops listed=[]→Rep w0 X w a (st (doneOf listed)) env ρ→Q .normal a w:=by
  intro listed a w ρ hs hr hrep
  rw[hcongr _ (fun _=>true) fun j hj=>hall listed hs hr j hj] at hrep
  exact hQ a w ρ hrep
 intro fuel
 induction fuel with
 | zero=>
  intro listed a w ρ hs hD hc hrep
  have hnil:Region.ready .any ops listed=[]:=by
   cases hr:Region.ready .any ops listed with
   | nil=>rfl
   | cons j l=>
    have hmem:j∈Region.ready .any ops listed:=by rw[hr];simp
    obtain⟨h1,o,ho,_⟩:=mem_ready.1 hmem
    have hj:=(Array.getElem?_eq_some_iff.1 ho).1
    have hpos:0<(List.range ops.size).countP (fun j=>!doneOf listed j):=List.countP_pos_iff.2 ⟨j,List.mem_range.2 hj,by
     simp only[doneOf,Array.getD_eq_getD_getElem?,Array.getElem?_eq_getElem (show j<listed.size by omega),Option.getD_some] at h1 ⊢
     simpa using h1⟩
    omega
  exact⟨hnil,hend listed a w ρ hs hnil hrep⟩
 | succ fuel ih=>
  intro listed a w ρ hs hD hc hrep
  refine⟨fun hnil=>hend listed a w ρ hs hnil hrep,fun i hi=>?_⟩
  obtain⟨h1,o,ho,ha⟩:=mem_ready.1 hi
  have hin:=(Array.getElem?_eq_some_iff.1 ho).1
  have hil:i<listed.size:=by omega
  have hDi:doneOf listed i=false:=by
   simp only[doneOf,Array.getD_eq_getD_getElem?,Array.getElem?_eq_getElem hil,Option.getD_some] at h1 ⊢
   exact h1
  have hset:doneOf (listed.setIfInBounds i true)=fun j=>doneOf listed j||j==i:=by
   funext j
   simp only[doneOf,Array.getD_eq_getD_getElem?,Array.getElem?_setIfInBounds]
   by_cases hij:i=j
   ·subst hij;simp[hil]
   ·have:(j==i)=false:=by simp;omega
    simp[hij,this]
  obtain⟨r,hbind,hix,hstep⟩:=hst _ i o hD ho hDi ha
  have hD':Closed ops (doneOf (listed.setIfInBounds i true)):=by
   rw[hset]
   intro k ok hk hok' e he hb
   simp only[Bool.or_eq_true,beq_iff_eq] at hk ⊢
   rcases hk with hk | rfl
   ·exact .inl (hD k ok hk hok' e he hb)
   ·rw[ho] at hok';cases hok'
    exact .inl (ha e he hb)
  have hcount:(List.range ops.size).countP (fun j=>!doneOf (listed.setIfInBounds i true) j)≤fuel:=by
   have:=countP_drop (p:=fun j=>!doneOf listed j) (q:=fun j=>!doneOf (listed.setIfInBounds i true) j) (i:=i) (l:=List.range ops.size) (fun j hj=>by rw[hset] at hj;simp at hj ⊢;exact hj.1) (List.mem_range.2 hin) (by simp[hDi]) (by rw[hset];simp)
   omega
  have hnext:∀a' w' ρ',Rep w0 X w' a' (st (fun j=>doneOf listed j||j==i)) env ρ'→wpAnyIn (FW rd) n P .any ops Q fuel (listed.setIfInBounds i true) a' w':=by
   intro a' w' ρ' hr'
   exact ih _ a' w' ρ' (by simp[hs]) hD' hcount (by rw[hset];exact hr')
  have hlen:=hlen (doneOf listed)
  unfold wpOpIn
  rw[ho]
  simp only
  rcases rstep_sound hrep (by rw[hlen.1,hlen.2];exact hm) hix (fun j d hjd=>by rw[hlen.1];exact hsz j d hjd) hstep hbind with⟨hw,hopok⟩ | ⟨hw,ρ'',hr'⟩
  ·rw[if_pos hw]
   refine wpIn_of_upon (rstep_defer hstep) (hopok Q) ?_
   rintro a' w' ⟨ρ',hr'⟩
   exact hnext a' w' ρ' hr'
  ·rw[if_neg (by rw[hw];simp)]
   exact⟨fun _ _=>trivial,hnext _ _ _ hr'⟩

theorem wpAny_draw {rd:Option Nat} {n:Nat} {Q:Exit→Act→World→Prop} (hok:orderOk ops R σ=true) (hF:∀(i:Nat) (o:Oper),ops[i]? = some o→∃r,Facts P ops R σ env i o r) (hm:σ.mem.length=σ.tmps.length)
  (hsz:∀(j d:Nat),(ops[j]?).bind (fun(o:Oper)=>o.dst)=some d→d<σ.tmps.length) (hQ:∀a' w' ρ',Rep w0 X w' a' (lex ops R σ ops.size) env ρ'→Q .normal a' w') :
  ∀(fuel:Nat) (listed:Array Bool) (a:Act) (w:World) (ρ:Rho),listed.size=ops.size→Closed ops (doneOf listed)→(List.range ops.size).countP (fun j=>!doneOf listed j)≤fuel →
   Rep w0 X w a (runTo ops R (doneOf listed) σ ops.size) env ρ→wpAnyIn (FW rd) n P .any ops Q fuel listed a w:=
 wpAny_gen (st:=fun D=>runTo ops R D σ ops.size) (fun i o ho=>by
  obtain⟨r,f⟩:=hF i o ho
  exact(orderOk_at hok ho f.at_).1) (fun D i o hD ho hi ha=>wanted_step hok hF hD ho hi ha) (fun D=>runTo_len ops R D σ ops.size) (fun D D' h=>runTo_congr ops.size h) hm hsz hQ

end
end
end Go.Am

/-
 A region whose order is drawn,in which two operations write the store,whichever comes first.
-/
namespace Go.Am
noncomputable section

def storeIx (cf:StCfg)(e:Eff):Option Nat:=
 match e.upd with
 | some (k,.store cf' (.sym n))=>if k=HID∧cf'=cf then some n else none
 | _=>none

theorem storeIx_some {cf:StCfg}{e:Eff}{n:Nat}(h:storeIx cf e=some n):e.upd=some (HID,.store cf (.sym n)):=by
 unfold storeIx at h
 split at h
 ·rename_i k cf' n' hu
  split at h
  ·rename_i hc
   cases h
   rw[hu,hc.1,hc.2]
  ·cases h
 ·cases h

def Eff.bare (e:Eff):Eff:=match e.upd with | some u=>if u.1=HID then { e with upd:=none } else e | none=>e

def bareR (R:List Rec):List Rec:=R.map fun r=>{ r with eff:=r.eff.bare }

structure Two where
 i:Nat
 j:Nat
 ni:Nat
 nj:Nat
 ja:Nat

def hobj (σ:SState)(cf:StCfg)(t:Two):Bool→Bool→Option SObj
 | false,false=>σ.obj HID
 | true,false=>some (.store cf (.sym t.ni))
 | false,true=>some (.store cf (.sym t.ja))
 | true,true=>some (.store cf (.sym t.nj))

def conf0 (ops:Array Oper)(oj oi:Oper)(rj ri:Rec):Bool:=
 !oj.apart ops oi||rj.eff.bare.targets.any ri.touches||ri.eff.bare.targets.any rj.touches

def opOk2 (ops:Array Oper)(R:List Rec)(σ:SState)(m i:Nat):Bool:=
 match ops[i]?,R[i]? with
 | some oi,some ri=>oi.after.all (fun e=>!Region.binds .any e||decide (e.on<i))&&dstOk σ oi &&
   (!isNew oi||match ri.eff.upd with | some u=>decide (u.1=HID)||((σ.obj u.1).isNone&&σ.avoidsB u.1) | none=>true) &&
   (List.range i).all fun j=>match ops[j]?,R[j]? with
    | some oj,some rj=>(!conf0 ops oj oi rj ri||m.testBit j)&&(!isNew oi||match ri.eff.upd with | some u=>decide (u.1=HID)||!rj.touches u.1 | none=>true)
    | _,_=>true
 | _,_=>false

def onlyTwo (R:List Rec)(cf:StCfg)(t:Two):Bool:=
 decide (t.i<t.j)&&(List.range R.length).all fun k=>match R[k]? with
  | some r=>decide (r.eff.del≠some HID)&&(if k=t.i then decide (storeIx cf r.eff=some t.ni) else if k=t.j then decide (storeIx cf r.eff=some t.nj) else match r.eff.upd with
   | some u=>decide (u.1≠HID)
   | none=>true)
  | none=>true

def orderOk2 (ops:Array Oper)(R:List Rec)(σ:SState)(cf:StCfg)(t:Two):Bool:=
 decide (ops.size=R.length)&&decide (cfO (σ.obj HID)=some cf)&&onlyTwo R cf t&&(List.range ops.size).all fun i=>opOk2 ops R σ ((masks ops.toList []).getD i 0) i

def free2 (ms:List Nat)(k w:Nat):Bool:=!(decide (w<k)&&(ms.getD k 0).testBit w)&&!(decide (k<w)&&(ms.getD w 0).testBit k)

def doneIf (ms:List Nat)(k w:Nat):List Bool:=if free2 ms k w then[false,true] else[decide (w<k)]

def reffAt (P:Program)(ops:Array Oper)(R:List Rec)(σ:SState)(cf:StCfg)(t:Two)(k:Nat)(o:Oper)(a b:Bool)(ix:Nat):Option Eff:=
 reff P ops o ((lex ops R σ k).setObj HID (hobj σ cf t a b)) ix

def altRd (P:Program)(ops:Array Oper)(R:List Rec)(σ:SState)(cf:StCfg)(t:Two)(k:Nat)(o:Oper)(r:Rec)(a b:Bool):Option (List E):=
 if a=decide (t.i<k)∧b=decide (t.j<k) then some [] else match reffAt P ops R σ cf t k o a b r.ix with
 | some e=>if e.val.same r.eff.val&&e.upd.isNone&&r.eff.upd.isNone&&e.del.isNone&&r.eff.del.isNone then(match e.bind,r.eff.bind with
   | some (.ev b),some (.ev a)=>some [.m4 .same a b .nil .nil]
   | none,none=>some []
   | _,_=>none) else none
 | none=>none

def catO:List (Option (List E))→Option (List E)
 | []=>some []
 | x :: r=>x.bind fun xs=>(catO r).map (xs++·)

def alt2 (P:Program)(ops:Array Oper)(R:List Rec)(σ:SState)(cf:StCfg)(t:Two)(ms:List Nat)(k:Nat):Option (List E):=
 match ops[k]?,R[k]? with
 | some o,some r=>
  if k=t.i then(match reffAt P ops R σ cf t k o false true t.nj with
   | some e=>if e.val.same r.eff.val&&decide (storeIx cf e=some t.nj)&&e.del.isNone&&r.eff.del.isNone then(match e.bind with
    | some (.ev b)=>some [.m4 .same b (.sym t.nj) .nil .nil]
    | _=>none) else none
   | none=>none)
  else if k=t.j then(match reffAt P ops R σ cf t k o false false t.ja with
   | some e=>if e.val.same r.eff.val&&decide (storeIx cf e=some t.ja)&&e.del.isNone&&r.eff.del.isNone then(match e.bind with
    | some (.ev b)=>some [.m4 .same (.sym t.ja) b .nil .nil]
    | _=>none) else none
   | none=>none)
  else if r.touches HID then catO ((doneIf ms k t.i).flatMap fun a=>(doneIf ms k t.j).map fun b=>altRd P ops R σ cf t k o r a b)
  else some []
 | _,_=>none

def altJ (P:Program)(ops:Array Oper)(R:List Rec)(σ:SState)(cf:StCfg)(t:Two):Option E:=
 match ops[t.j]? with
 | some o=>(match reffAt P ops R σ cf t t.j o false false t.ja with
  | some e=>(match e.bind with
   | some (.ev b)=>some b
   | _=>none)
  | none=>none)
 | none=>none

def twoOf (R:List Rec)(cf:StCfg)(ja:Nat):Option Two:=
 match(List.range R.length).filterMap fun k=>(R[k]?).bind fun r=>(storeIx cf r.eff).map fun n=>(k,n) with
 | [(i,ni),(j,nj)]=>some ⟨i,j,ni,nj,ja⟩
 | _=>none

def extras2 (P:Program)(ops:Array Oper)(R:List Rec)(σ:SState)(ja:Nat):Option (List E):=
 match cfO (σ.obj HID) with
 | some cf=>(twoOf R cf ja).bind fun t=>if orderOk2 ops R σ cf t=true then(altJ P ops R σ cf t).bind fun b=>
   (catO ((List.range ops.size).map (alt2 P ops R σ cf t (masks ops.toList [])))).map (b :: ·) else none
 | none=>none

/-! ## states -/

section
variable {P:Program} {ops:Array Oper} {R:List Rec} {σ:SState} {D:Nat→Bool} {cf:StCfg} {t:Two} {env:List Am.D}

theorem bare_val (e:Eff):e.bare.val=e.val:=by
 unfold Eff.bare;split
 ·split <;> rfl
 ·rfl

theorem bare_del (e:Eff):e.bare.del=e.del:=by
 unfold Eff.bare;split
 ·split <;> rfl
 ·rfl

theorem bare_upd (e:Eff):e.bare.upd=match e.upd with | some u=>if u.1=HID then none else some u | none=>none:=by
 unfold Eff.bare
 split
 ·rename_i u hu
  split
  ·rfl
  ·exact hu
 ·rename_i hu;exact hu

theorem bare_sub {e:Eff}{ob:Nat}(h:ob∈e.bare.targets)(hd:e.del≠some HID):ob∈e.targets∧ob≠HID:=by
 unfold Eff.targets at h ⊢
 rw[bare_upd,bare_del] at h
 rcases List.mem_append.1 h with h | h
 ·cases hu:e.upd with
  | none=>rw[hu] at h;simp at h
  | some u=>
   rw[hu] at h
   by_cases hh:u.1=HID
   ·simp[hh] at h
   ·simp[hh] at h
    subst h
    exact⟨by simp,hh⟩
 ·cases hk:e.del with
  | none=>rw[hk] at h;simp at h
  | some k=>
   rw[hk] at h
   simp at h
   subst h
   exact⟨by simp,fun e=>hd (by rw[hk,e])⟩

def leftObj (e:Eff)(z:Option SObj):Option SObj:=match e.upd with | some u=>if u.1=HID then some u.2 else z | none=>z

theorem app_bare {τ:SState}{dst:Option Tmp}{e:Eff}{z:Option SObj}(hd:e.del≠some HID):(τ.setObj HID z).app dst e=(τ.app dst e.bare).setObj HID (leftObj e z):=by
 have two:∀(τ:SState) (x y:Option SObj),(τ.setObj HID x).setObj HID y=τ.setObj HID y:=by
  intro τ x y
  simp[SState.setObj_def]
 unfold SState.app leftObj
 rw[bare_upd,bare_del,bare_val,put_setObj]
 congr 1
 cases hk:e.del with
 | none=>
  cases hu:e.upd with
  | none=>rfl
  | some u=>
   by_cases hh:u.1=HID
   ·simp only[hh,if_true,SState.dels,SState.sets,two]
   ·simp only[hh,if_false,SState.dels,SState.sets]
    exact setObj_comm _ _ _ (Ne.symm hh)
 | some k=>
  have hkk:HID≠k:=fun e=>hd (by rw[hk,e])
  cases hu:e.upd with
  | none=>
   simp only[SState.dels,SState.sets]
   exact setObj_comm _ _ _ hkk
  | some u=>
   simp only[SState.dels]
   rw[setObj_comm _ _ _ hkk]
   by_cases hh:u.1=HID
   ·simp only[hh,if_true,SState.sets,two]
   ·simp only[hh,if_false,SState.sets]
    exact setObj_comm _ _ _ (Ne.symm hh)

theorem effAt_bare (k:Nat):effAt (bareR R) k=(effAt R k).bare:=by
 unfold effAt bareR
 rw[List.getElem?_map]
 cases R[k]? <;> rfl

theorem setObj_self (σ:SState):σ.setObj HID (σ.obj HID)=σ:=by
 simp[SState.setObj_def,SState.obj_def]

theorem runTo_bare (hdel:∀k,(effAt R k).del≠some HID):∀n,∃z,runTo ops R D σ n=(runTo ops (bareR R) D σ n).setObj HID z
 | 0=>⟨σ.obj HID,(setObj_self σ).symm⟩
 | n+1=>by
  obtain⟨z,hz⟩:=runTo_bare hdel n
  unfold runTo
  split
  ·rw[hz,app_bare (hdel n),effAt_bare]
   exact⟨_,rfl⟩
  ·exact⟨z,hz⟩

structure TwoOk (R:List Rec)(cf:StCfg)(t:Two):Prop where
 lt:t.i<t.j
 del:∀k,(effAt R k).del≠some HID
 at_i:∀r,R[t.i]? = some r→r.eff.upd=some (HID,.store cf (.sym t.ni))
 at_j:∀r,R[t.j]? = some r→r.eff.upd=some (HID,.store cf (.sym t.nj))
 other:∀k r,R[k]? = some r→k≠t.i→k≠t.j→∀u,r.eff.upd=some u→u.1≠HID

theorem twoOk (h:onlyTwo R cf t=true):TwoOk R cf t:=by
 unfold onlyTwo at h
 simp only[Bool.and_eq_true,decide_eq_true_eq,List.all_eq_true,List.mem_range] at h
 obtain⟨hlt,h⟩:=h
 have at_:∀{k:Nat} {r:Rec},R[k]? = some r→r.eff.del≠some HID∧((k=t.i→storeIx cf r.eff=some t.ni)∧(k≠t.i→k=t.j→storeIx cf r.eff=some t.nj)∧(k≠t.i→k≠t.j→∀u,r.eff.upd=some u→u.1≠HID)):=by
  intro k r hk
  have:=h k (List.getElem?_eq_some_iff.1 hk).1
  rw[hk] at this
  simp only[Bool.and_eq_true,decide_eq_true_eq] at this
  refine⟨this.1,fun e=>?_,fun e1 e2=>?_,fun e1 e2 u hu=>?_⟩
  ·rw[if_pos e] at this;simpa using this.2
  ·rw[if_neg e1,if_pos e2] at this;simpa using this.2
  ·rw[if_neg e1,if_neg e2,hu] at this;simpa using this.2
 refine⟨hlt,fun k=>?_,fun r hr=>storeIx_some ((at_ hr).2.1 rfl),fun r hr=>storeIx_some ((at_ hr).2.2.1 (by omega) rfl),fun k r hr e1 e2=>(at_ hr).2.2.2 e1 e2⟩
 unfold effAt
 cases hr:R[k]? with
 | none=>simp
 | some r=>exact(at_ hr).1

theorem TwoOk.eff_i (ht:TwoOk R cf t)(hl:t.i<R.length):(effAt R t.i).upd=some (HID,.store cf (.sym t.ni)):=by
 have hr:R[t.i]? = some R[t.i]:=List.getElem?_eq_getElem hl
 unfold effAt
 rw[hr]
 exact ht.at_i _ hr

theorem TwoOk.eff_j (ht:TwoOk R cf t)(hl:t.j<R.length):(effAt R t.j).upd=some (HID,.store cf (.sym t.nj)):=by
 have hr:R[t.j]? = some R[t.j]:=List.getElem?_eq_getElem hl
 unfold effAt
 rw[hr]
 exact ht.at_j _ hr

theorem TwoOk.eff_ne (ht:TwoOk R cf t){k:Nat}(h1:k≠t.i)(h2:k≠t.j){u:Nat×SObj}(hu:(effAt R k).upd=some u):u.1≠HID:=by
 unfold effAt at hu
 cases hr:R[k]? with
 | none=>rw[hr] at hu;cases hu
 | some r=>rw[hr] at hu;exact ht.other k r hr h1 h2 u hu

theorem lex_succ (n:Nat):lex ops R σ (n+1)=(lex ops R σ n).app (dstAt ops n) (effAt R n):=rfl

theorem lex_obj (ht:TwoOk R cf t)(hlen:t.j<R.length):∀n,(lex ops R σ n).obj HID=hobj σ cf t (decide (t.i<n)) (decide (t.j<n))
 | 0=>by simp[hobj,runTo]
 | n+1=>by
  have ih:=lex_obj ht hlen n
  have hlt:=ht.lt
  rw[lex_succ]
  generalize lex ops R σ n=τ at ih
  have hd:=ht.del n
  have key:∀e:Eff,e.del≠some HID→(τ.app (dstAt ops n) e).obj HID=leftObj e (τ.obj HID):=by
   intro e hd
   have:=app_bare (τ:=τ) (dst:=dstAt ops n) (z:=τ.obj HID) hd
   rw[setObj_self] at this
   rw[this,obj_setObj_eq,if_pos (.inl rfl)]
  rw[key _ hd,ih]
  by_cases h1:n=t.i
  ·subst h1
   rw[leftObj,ht.eff_i (by omega)]
   have e1:decide (t.i<t.i+1)=true:=by simp
   have e2:decide (t.j<t.i+1)=false:=by simp;omega
   rw[e1,e2]
   rfl
  ·by_cases h2:n=t.j
   ·subst h2
    rw[leftObj,ht.eff_j hlen]
    have e1:decide (t.i<t.j+1)=true:=by simp;omega
    have e2:decide (t.j<t.j+1)=true:=by simp
    rw[e1,e2]
    rfl
   ·have e1:decide (t.i<n+1)=decide (t.i<n):=decide_eq_decide.2 (by omega)
    have e2:decide (t.j<n+1)=decide (t.j<n):=decide_eq_decide.2 (by omega)
    rw[e1,e2]
    unfold leftObj
    split
    ·rename_i u hu
     rw[if_neg (ht.eff_ne h1 h2 hu)]
    ·rfl

def st2 (ops:Array Oper)(R:List Rec)(σ:SState)(cf:StCfg)(t:Two)(D:Nat→Bool):SState:=
 (runTo ops (bareR R) D σ ops.size).setObj HID (hobj σ cf t (D t.i) (D t.j))

theorem catO_mem:∀{l:List (Option (List E))} {xs:List E},catO l=some xs→∀x,x∈l→∃ys,x=some ys∧∀y,y∈ys→y∈xs
 | [],_,_,x,hx=>by cases hx
 | a :: l,xs,h,x,hx=>by
  simp only[catO,Option.bind_eq_some_iff,Option.map_eq_some_iff] at h
  obtain⟨ys,h1,zs,h2,rfl⟩:=h
  rcases List.mem_cons.1 hx with rfl | hx
  ·exact⟨ys,h1,fun y hy=>List.mem_append.2 (.inl hy)⟩
  ·obtain⟨ys',g1,g2⟩:=catO_mem h2 x hx
   exact⟨ys',g1,fun y hy=>List.mem_append.2 (.inr (g2 y hy))⟩

structure Facts2 (P:Program)(ops:Array Oper)(R:List Rec)(σ:SState)(env:List Am.D)(cf:StCfg)(t:Two)(i:Nat)(o:Oper)(r:Rec):Prop where
 at_:R[i]? = some r
 eff:reff P ops o (lex ops R σ i) r.ix=some r.eff
 seen:r.seen=seenOf ops o (lex ops R σ i)
 bind:BindOk P env r.ix r.eff.bind
 ix:r.ix≤env.length
 alt:∃ys,alt2 P ops R σ cf t (masks ops.toList []) i=some ys∧∀y,y∈ys→∃d,y.eval env=some d

theorem same_bind {a b:E}{n:Nat}(hd:∃d,(E.m4 .same a b .nil .nil).eval env=some d)(hb:b.eval env=env[n]?):BindOk P env n (some (.ev a)):=by
 obtain⟨d,hd⟩:=hd
 simp only[E.eval,Option.bind_eq_some_iff] at hd
 obtain⟨x,h1,y,h2,_,_,_,_,h3⟩:=hd
 simp only[Am.D.m4] at h3
 split at h3
 ·rename_i hs
  have:=Am.D.same_eq hs
  subst this
  exact⟨x,h1,by rw[←hb,h2]⟩
 ·cases h3

theorem same_bind' {a b:E}{n:Nat}(hd:∃d,(E.m4 .same b a .nil .nil).eval env=some d)(hb:b.eval env=env[n]?):BindOk P env n (some (.ev a)):=by
 obtain⟨d,hd⟩:=hd
 simp only[E.eval,Option.bind_eq_some_iff] at hd
 obtain⟨x,h1,y,h2,_,_,_,_,h3⟩:=hd
 simp only[Am.D.m4] at h3
 split at h3
 ·rename_i hs
  have:=Am.D.same_eq hs
  subst this
  exact⟨x,h2,by rw[←hb,h1]⟩
 ·cases h3

theorem sym_lt {n:Nat}{a:E}(hb:BindOk P env n (some (.ev a))):n≤env.length:=by
 obtain⟨d,_,h⟩:=hb
 exact Nat.le_of_lt (List.getElem?_eq_some_iff.1 h).1

theorem doneIf_mem (hD:Closed ops D){k w:Nat}{o:Oper}(ho:ops[k]? = some o)(hk:D k=false)(ha:∀e,e∈o.after→Region.binds .any e=true→D e.on=true)(hw:w<ops.size)(hne:k≠w):D w∈doneIf (masks ops.toList []) k w:=by
 unfold doneIf
 split
 ·cases D w <;> simp
 ·rename_i hf
  simp only[free2,Bool.and_eq_true,Bool.not_eq_true',Bool.and_eq_false_iff,decide_eq_false_iff_not] at hf
  rw[List.mem_singleton]
  exact order_mask hD ho hk ha (Array.getElem?_eq_getElem hw) (fun h=>Classical.byContradiction fun hb=>hf ⟨.inr (by simpa using hb),.inl (by omega)⟩) fun h=>Classical.byContradiction fun hb=>hf ⟨.inl (by omega),.inr (by simpa using hb)⟩

theorem step2 (hok:orderOk2 ops R σ cf t=true) (hF:∀(i:Nat) (o:Oper),ops[i]? = some o→∃r,Facts2 P ops R σ env cf t i o r) (hj:t.j<ops.size) (hD:Closed ops D) {i:Nat} {o:Oper} (ho:ops[i]? = some o) (hi:D i=false)
  (ha:∀e,e∈o.after→Region.binds .any e=true→D e.on=true):∃r:Rec,BindOk P env r.ix r.eff.bind∧r.ix≤env.length∧rstep P ops o (st2 ops R σ cf t D) r.ix=some (st2 ops R σ cf t (fun j=>D j||j==i),r.eff.bind):=by
 unfold orderOk2 at hok
 simp only[Bool.and_eq_true,decide_eq_true_eq,List.all_eq_true,List.mem_range] at hok
 obtain⟨⟨⟨hsize,hcf⟩,htwo⟩,hall⟩:=hok
 have ht:=twoOk htwo
 obtain⟨r,f⟩:=hF i o ho
 have hin:=(Array.getElem?_eq_some_iff.1 ho).1
 have hrec:∀(j:Nat),j<ops.size→∃oj rj,ops[j]? = some oj∧R[j]? = some rj:=fun j hj=>by
  obtain⟨rj,fj⟩:=hF j ops[j] (Array.getElem?_eq_getElem hj)
  exact⟨_,rj,Array.getElem?_eq_getElem hj,fj.at_⟩
 have hopk:∀{k:Nat} {ok:Oper} {rk:Rec},ops[k]? = some ok→R[k]? = some rk→dstOk σ ok=true∧(isNew ok=true→∀u,rk.eff.upd=some u→u.1=HID∨freshAt σ u.1) ∧
   ∀(j:Nat) (oj:Oper) (rj:Rec),j<k→ops[j]? = some oj→R[j]? = some rj→(conf0 ops oj ok rj rk=true→((masks ops.toList []).getD k 0).testBit j=true)∧(isNew ok=true→∀u,rk.eff.upd=some u→u.1=HID∨rj.touches u.1=false):=by
  intro k ok rk hk hrk
  have h:=hall k (Array.getElem?_eq_some_iff.1 hk).1
  unfold opOk2 at h
  rw[hk,hrk] at h
  simp only[Bool.and_eq_true,List.all_eq_true,List.mem_range] at h
  obtain⟨⟨⟨_,h2⟩,h3⟩,h4⟩:=h
  refine⟨h2,fun hn u hu=>?_,fun j oj rj hj hoj hrj=>?_⟩
  ·rw[hn,hu] at h3
   simpa[freshAt] using h3
  ·have:=h4 j hj
   rw[hoj,hrj] at this
   simp only[Bool.and_eq_true,Bool.or_eq_true,Bool.not_eq_true'] at this
   refine⟨fun hc=>by rw[hc] at this;simpa using this.1,fun hn u hu=>?_⟩
   have:=this.2
   rw[hn,hu] at this
   simpa using this
 obtain⟨hdst,hfr,hpair⟩:=hopk ho f.at_
 have hdone:∀{j:Nat} {oj:Oper} {rj:Rec},ops[j]? = some oj→R[j]? = some rj→conf0 ops oj o rj r=true→conf0 ops o oj r rj=true→D j=decide (j<i):=fun {j oj rj} hoj hrj h1 h2=>
  order_mask hD ho hi ha hoj (fun h=>(hpair j oj rj h hoj hrj).1 h1) fun h=>((hopk hoj hrj).2.2 i o r h ho f.at_).1 h2
 have ap:∀{j:Nat} {oj:Oper} {rj:Rec},oj.apart ops o=false→o.apart ops oj=false→ops[j]? = some oj→R[j]? = some rj→D j=decide (j<i):=fun h1 h2 hoj hrj=>
  hdone hoj hrj (by simp[conf0,h1]) (by simp[conf0,h2])
 have eAt:∀{k:Nat} {rk:Rec},R[k]? = some rk→effAt R k=rk.eff:=fun hk=>by simp[effAt,hk]
 obtain⟨zD,hzD⟩:=runTo_bare (ops:=ops) (σ:=σ) (D:=D) ht.del ops.size
 obtain⟨zL,hzL⟩:=runTo_bare (ops:=ops) (σ:=σ) (D:=fun _=>true) ht.del i
 have htmp:∀s,s∈o.looksAt ops→(st2 ops R σ cf t D).tmp s=(lex ops R σ i).tmp s:=by
  intro s hs
  have h1:(runTo ops R D σ ops.size).tmp s=(lex ops R σ i).tmp s:=by
   refine runTo_tmp_at (Nat.le_of_lt hin) fun j hj hjt=>?_
   obtain⟨oj,hoj,hdj⟩:=dstAt_some hjt
   obtain⟨rj,fj⟩:=hF j oj hoj
   exact ap (apart_read hdj hs) (apart_read' hdj hs) hoj fj.at_
  rw[←h1,hzD]
  unfold st2
  rw[SState.tmp_setObj,SState.tmp_setObj]
 have hobj0:∀ob,ob≠HID→r.touches ob=true→(st2 ops R σ cf t D).obj ob=(lex ops R σ i).obj ob:=by
  intro ob hne htouch
  have h1:(runTo ops (bareR R) D σ ops.size).obj ob=(runTo ops (bareR R) (fun _=>true) σ i).obj ob:=by
   refine runTo_obj_at (Nat.le_of_lt hin) fun j hj hju=>?_
   obtain⟨oj,rj,hoj,hrj⟩:=hrec j hj
   rw[effAt_bare,eAt hrj] at hju
   refine hdone hoj hrj ?_ ?_
   ·have:rj.eff.bare.targets.any r.touches=true:=List.any_eq_true.2 ⟨ob,hju,htouch⟩
    simp[conf0,this]
   ·have:rj.eff.bare.targets.any r.touches=true:=List.any_eq_true.2 ⟨ob,hju,htouch⟩
    simp[conf0,this]
  have h2:(lex ops R σ i).obj ob=(runTo ops (bareR R) (fun _=>true) σ i).obj ob:=by
   show(runTo ops R (fun _=>true) σ i).obj ob=_
   rw[hzL,obj_setObj_ne (Ne.symm hne)]
  unfold st2
  rw[obj_setObj_ne (Ne.symm hne),h1,h2]
 have htouchT:∀s ob,s∈o.looksAt ops→((lex ops R σ i).tmp s).avoids ob=false→r.touches ob=true:=fun s ob hs hav=>touches_seen (sv:=(lex ops R σ i).tmp s) (by rw[f.seen];exact List.mem_append.2 (.inl (List.mem_map_of_mem hs))) hav
 have htouchH:usesHr o (fun x=>((lex ops R σ i).opd x).mayE) (cfOf (lex ops R σ i).obj)=true→r.touches HID=true:=fun hu=>touches_seen (sv:=.slc HID) (by rw[f.seen];refine List.mem_append.2 (.inr ?_);rw[hu];simp) (by simp[SV.avoids])
 have hstH:(st2 ops R σ cf t D).obj HID=hobj σ cf t (D t.i) (D t.j):=by
  unfold st2
  rw[obj_setObj_eq,if_pos (.inl rfl)]
 have hcfO:∀a b,cfO (hobj σ cf t a b)=some cf:=by
  intro a b
  cases a <;> cases b <;> first | exact hcf | rfl
 have hlexH:=lex_obj (ops:=ops) (σ:=σ) ht (by omega) i
 have hcfL:cfOf (lex ops R σ i).obj=some cf:=by rw[cfOf_eq,hlexH,hcfO]
 have hat:∀ix,reff P ops o (st2 ops R σ cf t D) ix=reffAt P ops R σ cf t i o (D t.i) (D t.j) ix:=by
  intro ix
  unfold reffAt
  have hH:((lex ops R σ i).setObj HID (hobj σ cf t (D t.i) (D t.j))).obj HID=hobj σ cf t (D t.i) (D t.j):=by rw[obj_setObj_eq,if_pos (.inl rfl)]
  refine reff_congr (fun s hs=>?_) (fun s ob hs hav=>?_) ?_ fun _=>by rw[hstH,hH]
  ·rw[SState.tmp_setObj];exact htmp s hs
  ·rw[SState.tmp_setObj] at hav
   by_cases hne:ob=HID
   ·subst hne;rw[hstH,hH]
   ·rw[obj_setObj_ne (Ne.symm hne)];exact hobj0 ob hne (htouchT s ob hs hav)
  ·rw[cfOf_eq,cfOf_eq,hstH,hH]
 have hrunadd:runTo ops (bareR R) (fun j=>D j||j==i) σ ops.size=(runTo ops (bareR R) D σ ops.size).app o.dst r.eff.bare:=by
  rw[runTo_add hi ops.size hin fun j hj hij hDj=>?_]
  ·rw[effAt_bare,eAt f.at_]
   congr 1
   simp[dstAt,ho]
  ·obtain⟨oj,rj,hoj,hrj⟩:=hrec j hj
   have hno:D j≠decide (j<i):=by rw[hDj];simp;omega
   refine⟨fun s h1 h2=>hno ?_,fun ob h1 h2=>hno ?_⟩
   ·obtain⟨o1,ho1,hd1⟩:=dstAt_some h1
    obtain⟨o2,ho2,hd2⟩:=dstAt_some h2
    rw[ho] at ho1;rw[hoj] at ho2
    cases ho1;cases ho2
    exact ap (apart_dst hd2 hd1) (apart_dst hd1 hd2) hoj hrj
   ·rw[effAt_bare,eAt f.at_] at h1
    rw[effAt_bare,eAt hrj] at h2
    have hd:=ht.del i
    rw[eAt f.at_] at hd
    obtain⟨g1,g2⟩:=bare_sub h1 hd
    refine hdone hoj hrj ?_ ?_
    ·have:r.eff.bare.targets.any rj.touches=true:=List.any_eq_true.2 ⟨ob,h1,by
      have hdj:=ht.del j
      rw[eAt hrj] at hdj
      exact touches_upd (bare_sub h2 hdj).1⟩
     simp[conf0,this]
    ·have:r.eff.bare.targets.any rj.touches=true:=List.any_eq_true.2 ⟨ob,h1,by
      have hdj:=ht.del j
      rw[eAt hrj] at hdj
      exact touches_upd (bare_sub h2 hdj).1⟩
     simp[conf0,this]
 have hrd:r.eff.del≠some HID:=by have:=ht.del i;rwa [eAt f.at_] at this
 have fin:∀(e:Eff) (ix:Nat),reff P ops o (st2 ops R σ cf t D) ix=some e→BindOk P env ix e.bind→ix≤env.length→e.val=r.eff.val→e.bare.upd=r.eff.bare.upd→e.del=r.eff.del→(∀u,e.upd=some u→u.1=HID→some u.2=hobj σ cf t (D t.i||t.i==i) (D t.j||t.j==i))→((∀u,e.upd=some u→u.1≠HID)→i≠t.i∧i≠t.j) →
   (isNew o=true→∀u,e.upd=some u→u.1=HID∨r.eff.upd=some u)→∃r:Rec,BindOk P env r.ix r.eff.bind∧r.ix≤env.length∧rstep P ops o (st2 ops R σ cf t D) r.ix=some (st2 ops R σ cf t (fun j=>D j||j==i),r.eff.bind):=by
  intro e ix heff hbind hix h1 h2 h3 h4 h5 h6
  refine⟨⟨e,[],ix⟩,hbind,hix,?_⟩
  have hbare:e.bare={ e.bare with val:=r.eff.bare.val,upd:=r.eff.bare.upd,del:=r.eff.bare.del }:=by
   rw[←h2,bare_val,bare_del,←h1,←h3,←bare_val e,←bare_del e]
  have hnew:st2 ops R σ cf t (fun j=>D j||j==i)=(st2 ops R σ cf t D).app o.dst e:=by
   unfold st2
   rw[app_bare (by rw[h3];exact hrd),hrunadd]
   have happ:∀τ:SState,τ.app o.dst e.bare=τ.app o.dst r.eff.bare:=fun τ=>by
    unfold SState.app
    rw[h2,bare_del,bare_del,bare_val,bare_val,h1,h3]
   rw[happ]
   congr 1
   unfold leftObj
   cases hu:e.upd with
   | none=>
    obtain⟨g1,g2⟩:=h5 fun u hu'=>by rw[hu] at hu';cases hu'
    have e1:(t.i==i)=false:=by simpa using Ne.symm g1
    have e2:(t.j==i)=false:=by simpa using Ne.symm g2
    simp only[e1,e2,Bool.or_false]
   | some u=>
    by_cases hh:u.1=HID
    ·simp only[hh,if_true]
     exact(h4 u hu hh).symm
    ·simp only[hh,if_false]
     obtain⟨g1,g2⟩:=h5 fun u' hu'=>by rw[hu] at hu';cases hu';exact hh
     have e1:(t.i==i)=false:=by simpa using Ne.symm g1
     have e2:(t.j==i)=false:=by simpa using Ne.symm g2
     simp only[e1,e2,Bool.or_false]
  rw[hnew]
  refine rstep_of_reff heff ?_ fun hn u hu=>?_
  ·unfold dstOk at hdst ⊢
   unfold st2
   rw[SState.tmps_setObj,(runTo_len ..).1]
   exact hdst
  ·rcases h6 hn u hu with hH1 | hu
   ·exact .inl hH1
   rcases hfr hn u hu with hH1 | hfr
   ·exact .inl hH1
   by_cases hne:u.1=HID
   ·exact .inl hne
   right
   have hbt:∀{k:Nat} {rk:Rec},R[k]? = some rk→rk.touches u.1=false→({ rk with eff:=rk.eff.bare }:Rec).touches u.1=false:=by
    intro k rk hk hrk
    obtain⟨g1,g2,g3⟩:=touches_false hrk
    have hdk:=ht.del k
    rw[eAt hk] at hdk
    have hseen:rk.seen.any (fun sv=>!sv.avoids u.1)=false:=by
     simp only[Rec.touches,Bool.or_eq_false_iff] at hrk
     exact hrk.1.1.1
    have ht1:rk.eff.bare.targets.contains u.1=false:=by
     rw[←Bool.not_eq_true]
     intro hc
     exact g2 (bare_sub (by simpa using hc) hdk).1
    have hup:∀u',rk.eff.bare.upd=some u'→u'.2.avoids u.1=true:=by
     intro u' hu'
     rw[bare_upd] at hu'
     split at hu'
     ·rename_i u0 hu0
      split at hu'
      ·cases hu'
      ·cases hu';exact g3 _ hu0
     ·cases hu'
    unfold Rec.touches
    simp only[hseen,bare_val,g1,ht1,Bool.not_true,Bool.or_false,Bool.false_or]
    split
    ·rename_i u' hu'
     rw[hup u' hu']
     rfl
    ·rfl
   have hfr2:=runTo_fresh (R:=bareR R) (ops:=ops) (D:=D) hfr ops.size fun j hj hDj=>by
    obtain⟨oj,rj,hoj,hrj⟩:=hrec j hj
    refine⟨{ rj with eff:=rj.eff.bare },by unfold bareR;rw[List.getElem?_map,hrj];rfl,?_⟩
    refine hbt hrj ?_
    rcases Nat.lt_trichotomy j i with h | h | h
    ·exact((hpair j oj rj h hoj hrj).2 hn u hu).resolve_left hne
    ·subst h;rw[hi] at hDj;cases hDj
    ·rw[←Bool.not_eq_true]
     intro htt
     have hub:u.1∈r.eff.bare.targets:=by
      unfold Eff.targets
      rw[bare_upd,hu]
      simp[hne]
     have:=hdone hoj hrj (by
      have:r.eff.bare.targets.any rj.touches=true:=List.any_eq_true.2 ⟨_,hub,htt⟩
      simp[conf0,this]) (by
      have:r.eff.bare.targets.any rj.touches=true:=List.any_eq_true.2 ⟨_,hub,htt⟩
      simp[conf0,this])
     rw[hDj] at this
     simp at this
     omega
   obtain⟨q1,q2⟩:=hfr2
   refine⟨by unfold st2;rw[obj_setObj_ne (Ne.symm hne)];exact q1,?_⟩
   unfold st2
   simp only[SState.avoidsB,SState.setObj_def,if_true,Bool.and_eq_true] at q2 ⊢
   refine⟨q2.1,?_⟩
   have:=hcfO (D t.i) (D t.j)
   cases hh:hobj σ cf t (D t.i) (D t.j) with
   | none=>rfl
   | some z=>
    rw[hh] at this
    cases z <;> simp[cfO] at this
    rfl
 obtain⟨ys,hys,hev⟩:=f.alt
 by_cases hki:i=t.i
 ·have hru:=ht.at_i r (hki ▸ f.at_)
  have hbr:r.eff.bare.upd=none:=by rw[bare_upd,hru];simp
  cases hDj:D t.j with
  | false=>
   have heff:reff P ops o (st2 ops R σ cf t D) r.ix=some r.eff:=by
    rw[hat,←f.eff]
    unfold reffAt
    have e1:hobj σ cf t (D t.i) (D t.j)=(lex ops R σ i).obj HID:=by
     rw[hlexH,hDj,←hki,hi]
     have h1:decide (i<i)=false:=by simp
     have h2:decide (t.j<i)=false:=by simp;have:=ht.lt;omega
     rw[h1,h2]
    rw[e1,setObj_self]
   refine fin r.eff r.ix heff f.bind f.ix rfl rfl rfl (fun u hu hh=>?_) (fun h=>absurd rfl (h _ hru)) fun _ u hu=>.inr hu
   rw[hru] at hu
   cases hu
   have e1:(t.i==i)=true:=by simp[hki]
   have e2:(t.j==i)=false:=by simp;have:=ht.lt;omega
   rw[hDj,e1,e2,Bool.or_true,Bool.or_false]
   rfl
  | true=>
   unfold alt2 at hys
   rw[hki] at ho
   have hat':=f.at_
   rw[hki] at hat'
   simp only[hki,ho,hat',if_true] at hys
   split at hys
   ·rename_i e he
    split at hys
    ·rename_i hc
     simp only[Bool.and_eq_true,decide_eq_true_eq,Option.isNone_iff_eq_none] at hc
     obtain⟨⟨⟨c1,c2⟩,c3⟩,c4⟩:=hc
     split at hys
     ·rename_i b hb
      cases hys
      have hup:=storeIx_some c2
      have hbok:=same_bind (P:=P) (n:=t.nj) (hev _ (List.mem_singleton_self _)) rfl
      refine fin e t.nj ?_ (by rw[hb];exact hbok) (sym_lt hbok) (SV.same_eq c1) (by rw[bare_upd,hup,hbr];simp) (c3.trans c4.symm) (fun u hu hh=>?_) (fun h=>absurd rfl (h _ hup)) fun _ u hu=>by rw[hup] at hu;cases hu;exact .inl rfl
      ·rw[hat,←hki,hi,hDj,hki]
       exact he
      ·rw[hup] at hu
       cases hu
       have e1:(t.i==i)=true:=by simp[hki]
       rw[hDj,e1,Bool.or_true,Bool.true_or]
       rfl
     ·cases hys
    ·cases hys
   ·cases hys
 by_cases hkj:i=t.j
 ·have hru:=ht.at_j r (hkj ▸ f.at_)
  have hbr:r.eff.bare.upd=none:=by rw[bare_upd,hru];simp
  cases hDi:D t.i with
  | true=>
   have heff:reff P ops o (st2 ops R σ cf t D) r.ix=some r.eff:=by
    rw[hat,←f.eff]
    unfold reffAt
    have e1:hobj σ cf t (D t.i) (D t.j)=(lex ops R σ i).obj HID:=by
     rw[hlexH,hDi,←hkj,hi]
     have h1:decide (t.i<i)=true:=by simp;have:=ht.lt;omega
     have h2:decide (i<i)=false:=by simp
     rw[h1,h2]
    rw[e1,setObj_self]
   refine fin r.eff r.ix heff f.bind f.ix rfl rfl rfl (fun u hu hh=>?_) (fun h=>absurd rfl (h _ hru)) fun _ u hu=>.inr hu
   rw[hru] at hu
   cases hu
   have e1:(t.j==i)=true:=by simp[hkj]
   rw[hDi,e1,Bool.or_true,Bool.true_or]
   rfl
  | false=>
   unfold alt2 at hys
   have hne:¬t.j=t.i:=by have:=ht.lt;omega
   rw[hkj] at ho
   have hat':=f.at_
   rw[hkj] at hat'
   simp only[hkj,ho,hat',hne,if_false,if_true] at hys
   split at hys
   ·rename_i e he
    split at hys
    ·rename_i hc
     simp only[Bool.and_eq_true,decide_eq_true_eq,Option.isNone_iff_eq_none] at hc
     obtain⟨⟨⟨c1,c2⟩,c3⟩,c4⟩:=hc
     split at hys
     ·rename_i b hb
      cases hys
      have hup:=storeIx_some c2
      have hbok:=same_bind' (P:=P) (n:=t.ja) (hev _ (List.mem_singleton_self _)) rfl
      refine fin e t.ja ?_ (by rw[hb];exact hbok) (sym_lt hbok) (SV.same_eq c1) (by rw[bare_upd,hup,hbr];simp) (c3.trans c4.symm) (fun u hu hh=>?_) (fun h=>absurd rfl (h _ hup)) fun _ u hu=>by rw[hup] at hu;cases hu;exact .inl rfl
      ·rw[hat,hDi,←hkj,hi,hkj]
       exact he
      ·rw[hup] at hu
       cases hu
       have e1:(t.j==i)=true:=by simp[hkj]
       have e2:(t.i==i)=false:=by simp;have:=ht.lt;omega
       rw[hDi,e1,e2,Bool.or_true,Bool.or_false]
       rfl
     ·cases hys
    ·cases hys
   ·cases hys
 have hother:=ht.other i r f.at_ hki hkj
 have hiT:t.i<ops.size:=by have:=ht.lt;omega
 have done:∀e,reff P ops o (st2 ops R σ cf t D) r.ix=some e→BindOk P env r.ix e.bind→e.val=r.eff.val→e.upd=r.eff.upd→e.del=r.eff.del→∃r:Rec,BindOk P env r.ix r.eff.bind∧r.ix≤env.length∧rstep P ops o (st2 ops R σ cf t D) r.ix=some (st2 ops R σ cf t (fun j=>D j||j==i),r.eff.bind):=by
  intro e heff hbind h1 h2 h3
  exact fin e r.ix heff hbind f.ix h1 (by rw[bare_upd,bare_upd,h2]) h3 (fun u hu hh=>absurd hh (hother u (h2 ▸ hu))) (fun _=>⟨hki,hkj⟩) fun _ u hu=>.inr (h2 ▸ hu)
 by_cases htouch:r.touches HID=true
 ·unfold alt2 at hys
  simp only[ho,f.at_,hki,hkj,if_false,htouch,if_true] at hys
  obtain⟨zs,hzs,hsub⟩:=catO_mem hys (altRd P ops R σ cf t i o r (D t.i) (D t.j)) (List.mem_flatMap.2 ⟨D t.i,doneIf_mem hD ho hi ha hiT hki,List.mem_map.2 ⟨D t.j,doneIf_mem hD ho hi ha hj hkj,rfl⟩⟩)
  unfold altRd at hzs
  split at hzs
  ·rename_i hc
   have heff:reff P ops o (st2 ops R σ cf t D) r.ix=some r.eff:=by
    rw[hat,←f.eff]
    unfold reffAt
    have e1:hobj σ cf t (D t.i) (D t.j)=(lex ops R σ i).obj HID:=by rw[hlexH,hc.1,hc.2]
    rw[e1,setObj_self]
   exact done r.eff heff f.bind rfl rfl rfl
  ·split at hzs
   ·rename_i e he
    split at hzs
    ·rename_i hc
     simp only[Bool.and_eq_true,Option.isNone_iff_eq_none] at hc
     obtain⟨⟨⟨⟨c1,c2⟩,c3⟩,c4⟩,c5⟩:=hc
     refine done e (by rw[hat];exact he) ?_ (SV.same_eq c1) (c2.trans c3.symm) (c4.trans c5.symm)
     split at hzs
     ·rename_i b a' hbe hba
      cases hzs
      have h0:=f.bind
      rw[hba] at h0
      obtain⟨da,k1,k2⟩:=h0
      rw[hbe]
      exact same_bind' (hev _ (hsub _ (List.mem_singleton_self _))) (by rw[k1,k2])
     ·rename_i hbe hba
      rw[hbe];trivial
     ·cases hzs
    ·cases hzs
   ·cases hzs
 ·have heff:reff P ops o (st2 ops R σ cf t D) r.ix=some r.eff:=by
   rw[←f.eff]
   refine reff_congr htmp (fun s ob hs hav=>?_) ?_ fun hu=>absurd (htouchH hu) htouch
   ·by_cases hne:ob=HID
    ·subst hne;exact absurd (htouchT s _ hs hav) htouch
    ·exact hobj0 ob hne (htouchT s ob hs hav)
   ·rw[cfOf_eq,hstH,hcfO,hcfL]
  exact done r.eff heff f.bind rfl rfl rfl

theorem st2_all (ht:TwoOk R cf t)(hlen:ops.size=R.length)(hj:t.j<ops.size):st2 ops R σ cf t (fun _=>true)=lex ops R σ ops.size:=by
 obtain⟨z,hz⟩:=runTo_bare (ops:=ops) (σ:=σ) (D:=fun _=>true) ht.del ops.size
 have h1:=lex_obj (ops:=ops) (σ:=σ) ht (by omega) ops.size
 have e1:decide (t.i<ops.size)=true:=by simp;have:=ht.lt;omega
 have e2:decide (t.j<ops.size)=true:=by simp;omega
 rw[e1,e2] at h1
 unfold st2
 show _=runTo ops R (fun _=>true) σ ops.size
 rw[←h1]
 show _=runTo ops R (fun _=>true) σ ops.size
 have h2:(lex ops R σ ops.size).obj HID=z:=by
  show(runTo ops R (fun _=>true) σ ops.size).obj HID=z
  rw[hz,obj_setObj_eq,if_pos (.inl rfl)]
 rw[h2,hz]

theorem extras2_some {ja:Nat}{xs:List E}(h:extras2 P ops R σ ja=some xs):∃cf t,orderOk2 ops R σ cf t=true∧t.j<ops.size∧∀i,i<ops.size→∃ys,alt2 P ops R σ cf t (masks ops.toList []) i=some ys∧∀y,y∈ys→y∈xs:=by
 unfold extras2 at h
 split at h
 ·rename_i cf hcf
  obtain⟨t,ht,h⟩:=Option.bind_eq_some_iff.1 h
  split at h
  ·rename_i hok
   obtain⟨b,hb,h⟩:=Option.bind_eq_some_iff.1 h
   obtain⟨zs,hzs,rfl⟩:=Option.map_eq_some_iff.1 h
   refine⟨cf,t,hok,?_,fun i hi=>?_⟩
   ·unfold altJ at hb
    split at hb
    ·rename_i o ho
     exact(Array.getElem?_eq_some_iff.1 ho).1
    ·cases hb
   ·obtain⟨ys,h1,h2⟩:=catO_mem hzs (alt2 P ops R σ cf t (masks ops.toList []) i) (List.mem_map.2 ⟨i,List.mem_range.2 hi,rfl⟩)
    exact⟨ys,h1,fun y hy=>List.mem_cons_of_mem _ (h2 y hy)⟩
  ·cases h
 ·cases h

theorem wpAny_draw2 {w0:World} {X:Ent} {rd:Option Nat} {n:Nat} {Q:Exit→Act→World→Prop} (hok:orderOk2 ops R σ cf t=true) (hF:∀(i:Nat) (o:Oper),ops[i]? = some o→∃r,Facts2 P ops R σ env cf t i o r) (hj:t.j<ops.size) (hm:σ.mem.length=σ.tmps.length)
  (hsz:∀(j d:Nat),(ops[j]?).bind (fun(o:Oper)=>o.dst)=some d→d<σ.tmps.length) (hQ:∀a' w' ρ',Rep w0 X w' a' (lex ops R σ ops.size) env ρ'→Q .normal a' w') :
  ∀(fuel:Nat) (listed:Array Bool) (a:Act) (w:World) (ρ:Rho),listed.size=ops.size→Closed ops (doneOf listed)→(List.range ops.size).countP (fun j=>!doneOf listed j)≤fuel →
   Rep w0 X w a (st2 ops R σ cf t (doneOf listed)) env ρ→wpAnyIn (FW rd) n P .any ops Q fuel listed a w:=by
 have hok0:=hok
 unfold orderOk2 at hok
 simp only[Bool.and_eq_true,decide_eq_true_eq,List.all_eq_true,List.mem_range] at hok
 obtain⟨⟨⟨hsize,hcf⟩,htwo⟩,hall⟩:=hok
 have ht:=twoOk htwo
 refine wpAny_gen (st:=st2 ops R σ cf t) (fun i o ho e he hb=>?_) (fun D i o hD ho hi ha=>step2 hok0 hF hj hD ho hi ha) (fun D=>?_) (fun D D' h=>?_) hm hsz (fun a' w' ρ' hr=>hQ a' w' ρ' (by rw[←st2_all ht hsize hj];exact hr))
 ·obtain⟨r,f⟩:=hF i o ho
  have h:=hall i (Array.getElem?_eq_some_iff.1 ho).1
  unfold opOk2 at h
  rw[ho,f.at_] at h
  simp only[Bool.and_eq_true] at h
  have:=Array.all_eq_true'.1 h.1.1.1 e he
  simpa[hb] using this
 ·unfold st2
  rw[SState.tmps_setObj,SState.mlen_setObj]
  exact runTo_len ops (bareR R) D σ ops.size
 ·unfold st2
  rw[runTo_congr ops.size h,h t.i (by have:=ht.lt;omega),h t.j hj]

theorem st2_none:st2 ops R σ cf t (fun _=>false)=σ:=by
 unfold st2
 rw[runTo_below (i:=0) ops.size (Nat.zero_le _) fun _ _ _=>rfl]
 exact setObj_self σ

end
end
end Go.Am

/-
 The small language that Go functions are turned into,and what its texts mean.
-/
namespace Go.Am
noncomputable section

structure Left (w:World)(S:Sets)(foot may:Nat→Prop)(w':World)(S':Sets)(foot':Nat→Prop)(bs':List D):Prop where
 st:StOk w' S' foot' bs'
 le:S≤S'
 os:w'.os=w.os
 tape:TL w' w
 output:w'.output=w.output
 size:w.heap.size≤w'.heap.size
 old:∀b,b<w.heap.size→¬may b→w'.heap[b]? = w.heap[b]?
 ft:∀b,foot' b→(foot b∨w.heap.size≤b)∧b<w'.heap.size
 new:∀b o,S' b o→S b o∨may b∨w.heap.size≤b
 lt:∀b o,S' b o→b<w'.heap.size

def FSpecD (P:Program)(f:FuncId)(st:D)(cs:List D)(m:Option D)(st':D):Prop:=
 ∀(w:World) (S:Sets) (foot:Nat→Prop) (bs:List D) (vs:Array Value) (u:FrameMode),st=.st bs→StOk w S foot bs→HoldOk w S foot→(∀b,foot b→b<w.heap.size)→(∀b o,S b o→b<w.heap.size)→vs.size=cs.length→(∀(i:Nat) (v:Value) (x:D),vs[i]? = some v→cs[i]? = some x→RdD w S v x) →
  (match m with | none=>u=.returning | some d=>∃v,RdD w S v d∧u=.panicking [{ v,recovered:=false }]) →
  CallsD P f vs u w fun e u' w'=>∃(v:Value) (S':Sets) (foot':Nat→Prop) (bs':List D),e=.returned v∧settle u'=.returning∧st'=.st bs'∧Left w S foot foot w' S' foot' bs'


inductive T where
 | bind (b:Bind) (t:T)
 | ite (c:E) (a b:T)
 | loop (l:Nat) (inits:List E) (body:T)
 | join (l n:Nat) (body rest:T)
 | jump (l:Nat) (vals:List E)
 | ret (x:E)
 | pan (x h:E) (sl:List Nat) (ks:List E)
 | nilq (x:E) (neg:Bool) (t:T)
 | pick (x:E) (t:T)
 | dfr (f:FuncId) (keep:List Nat) (caps:List E) (res:E) (t:T)
 | pcall (f:FuncId) (h:E) (args:List E) (rs:List Bool) (sl:List Nat) (ks:List E) (t:T)
 | wpcall (f:FuncId) (h:E) (args:List E) (rs:List Bool) (sl:List Nat) (ks:List E) (t:T)
 | wpcallv (x h:E) (args:List E) (rs:List Bool) (sl:List Nat) (ks:List E) (t:T)
 | rfor (x h:E) (sl:List Nat) (caps:List E) (n l:Nat) (body rest:T)
 | rforx (x h:E) (sl:List Nat) (caps:List E) (n l:Nat) (q:Option Nat) (body rest quit:T)
 deriving Inhabited

inductive Sig where
 | jump (l:Nat) (ds:List D)
 | ret (d:D)
 | pan (d st:D) (sl:List Nat) (kd:List D)

def D.isNil (x:D):Option (List Bool):=
 match x with
 | .lst []=>some [true,false]
 | .lst _ | .sl _ _ _=>some [false]
 | .snil=>some [true]
 | _=>none

def rsig (l:Nat)(q:Option Nat)(b:Bool)(st:D):Sig:=bif b then .jump l [st] else match q with | none=>.ret st | some _=>.jump (l+1) [st]

def catchL (l:Nat)(K:List D→Prop)(Q:Sig→Prop):Sig→Prop
 | .jump l' ds=>if l'=l then K ds else Q (.jump l' ds)
 | .ret d=>Q (.ret d)
 | .pan d st sl kd=>Q (.pan d st sl kd)

def rounds (l:Nat)(body:List D→(Sig→Prop)→Prop)(Q:Sig→Prop):Nat→List D→Prop
 | 0,_=>False
 | n+1,ds=>body ds (catchL l (rounds l body Q n) Q)

def D.isLoc:D→Bool
 | .loc _ _=>true
 | _=>false

def DfrQ (P:Program)(f:FuncId)(keep:List Nat)(cds:List D)(res:E)(Q:Sig→Prop):Sig→Prop
 | .ret (.tup [.tup kd,st])=>∃st' d',FSpecD P f st cds none st'∧res.eval (kd++[st'])=some d'∧Q (.ret (.tup [d',st']))
 | .pan d st sl kd=>sl=keep∧∃st' d',FSpecD P f st cds (some d) st'∧res.eval (kd++[st'])=some d'∧Q (.ret (.tup [d',st']))
 | _=>False

theorem DfrQ_mono {P:Program}{f:FuncId}{keep:List Nat}{cds:List D}{res:E}{Q Q':Sig→Prop}(hq:∀s,Q s→Q' s){s:Sig}(h:DfrQ P f keep cds res Q s):DfrQ P f keep cds res Q' s:=by
 unfold DfrQ at h ⊢
 split at h
 ·obtain⟨st',d',h1,h2,h3⟩:=h;exact⟨st',d',h1,h2,hq _ h3⟩
 ·obtain⟨h0,st',d',h1,h2,h3⟩:=h;exact⟨h0,st',d',h1,h2,hq _ h3⟩
 ·exact h

def den (P:Program):T→List D→(Sig→Prop)→Prop
 | .bind (.ev x) t,env,Q=>∃d,x.eval env=some d∧den P t (env++[d]) Q
 | .bind (.call act f h args rs) t,env,Q=>(∀p,p∈act→∃d,p.1.eval env=some d)∧∃d,(actHolds env act→∃st ds,h.eval env=some st∧evalAll env args=some ds∧FSpecR P f st ds d∧d.fits rs=true)∧den P t (env++[d]) Q
 | .bind (.wcall act f h args rs) t,env,Q=>(∀p,p∈act→∃d,p.1.eval env=some d)∧∃st d h',h.eval env=some st∧(actHolds env act→∃ds,evalAll env args=some ds∧FSpecW P f st ds d h'∧d.fits rs=true)∧(¬actHolds env act→h'=st)∧den P t (env++[.tup [d,h']]) Q
 | .bind (.callv act x h args rs) t,env,Q=>(∀p,p∈act→∃d,p.1.eval env=some d)∧∃d,(actHolds env act→∃f us cs st ds,x.eval env=some (.fn f us cs)∧callable P f=true∧h.eval env=some st∧evalAll env args=some ds∧FSpecR P f st (us++ds++cs) d∧d.fits rs=true)∧den P t (env++[d]) Q
 | .bind (.wcallv act x h args rs) t,env,Q=>(∀p,p∈act→∃d,p.1.eval env=some d)∧∃st d h',h.eval env=some st∧(actHolds env act→∃xd ds,x.eval env=some xd∧evalAll env args=some ds∧CallV P xd st ds d h'∧d.fits rs=true)∧(¬actHolds env act→h'=st)∧den P t (env++[.tup [d,h']]) Q
 | .ite c a b,env,Q=>∃v,c.eval env=some (.v (.bool v))∧(v=true→den P a env Q)∧(v=false→den P b env Q)
 | .loop l inits body,env,Q=>∃ds,evalAll env inits=some ds∧∃n,rounds l (fun ds Q=>ds.length=inits.length∧den P body (env++ds) Q) Q n ds
 | .join l n body rest,env,Q=>den P body env (catchL l (fun ds=>ds.length=n∧den P rest (env++ds) Q) Q)
 | .jump l vals,env,Q=>∃ds,evalAll env vals=some ds∧Q (.jump l ds)
 | .ret x,env,Q=>∃d,x.eval env=some d∧Q (.ret d)
 | .pan x h sl ks,env,Q=>∃d st kd,x.eval env=some d∧h.eval env=some st∧evalAll env ks=some kd∧Q (.pan d st sl kd)
 | .nilq x neg t,env,Q=>∃d bs,x.eval env=some d∧d.isNil=some bs∧∀b,b∈bs→den P t (env++[.v (.bool (b != neg))]) Q
 | .pick x t,env,Q=>∃ys,x.eval env=some (.lst ys)∧∀d st,.tup [d,st]∈ys→den P t (env++[.tup [d,st]]) Q
 | .dfr f keep caps res t,env,Q=>∃cds,evalAll env caps=some cds∧cds.all D.isLoc=true∧den P t env (DfrQ P f keep cds res Q)
 | .pcall f h args rs sl ks t,env,Q=>∃st ds o,h.eval env=some st∧evalAll env args=some ds∧FSpecO P f st ds o∧match o with
  | .ret d=>d.fits rs=true∧den P t (env++[d]) Q
  | .pan d=>∃kd,evalAll env ks=some kd∧Q (.pan d st sl kd)
 | .wpcall f h args rs sl ks t,env,Q=>∃st ds o h',h.eval env=some st∧evalAll env args=some ds∧FSpecWO P f st ds o h'∧match o with
  | .ret d=>d.fits rs=true∧den P t (env++[.tup [d,h']]) Q
  | .pan d=>∃kd,evalAll env ks=some kd∧Q (.pan d h' sl kd)
 | .wpcallv x h args rs sl ks t,env,Q=>∃f us cs st ds o h',x.eval env=some (.fn f us cs)∧callable P f=true∧h.eval env=some st∧evalAll env args=some ds∧FSpecWO P f st (us++ds++cs) o h'∧match o with
  | .ret d=>d.fits rs=true∧den P t (env++[.tup [d,h']]) Q
  | .pan d=>∃kd,evalAll env ks=some kd∧Q (.pan d h' sl kd)
 | .rfor x h sl caps n l body rest,env,Q=>∃f us cs st cds d st',x.eval env=some (.fn f us cs)∧callable P f=true∧h.eval env=some st∧evalAll env caps=some cds∧noyls cds=true∧st'.noyl=true ∧
   (∀(m:Nat) (rec:Loop),(∀st1 ds st2,st1.noyl=true→noyls ds=true→ds.length=n→den P body (env++[st1]++ds) (fun s=>s=.jump l [st2])→YSpec P (.yl m rec sl cds) st1 ds st2)→FSpecW P f st (us++[.yl m rec sl cds]++cs) d st')∧den P rest (env++[st']) Q
 | .rforx x h sl caps n l q body rest quit,env,Q=>∃f us cs bs cds d bs' stop,x.eval env=some (.fn f us cs)∧callable P f=true∧h.eval env=some (.st bs)∧evalAll env caps=some cds∧bs'[bs.length]? = some (.tup []) ∧
   (∀(rec:Loop×Code),(∀bs1 ds b bs2,bs1[bs.length]? = some (.lpb false)→ds.length=n→bs2[bs.length]? = some (.tup [])→den P body (env++[.st (bs1.set bs.length (.tup []))]++ds) (fun s=>s=rsig l q b (.st bs2))→YSpecB P (.ylb bs.length rec sl cds) (.st bs1) ds b (.st (bs2.set bs.length (.lpb !b)))) →
    FSpecW P f (.st (bs++[.lpb false])) (us++[.ylb bs.length rec sl cds]++cs) d (.st (bs'.set bs.length (.lpb stop))))∧(stop=false→den P rest (env++[.st bs']) Q)∧(stop=true→den P quit (env++[.st bs']) Q)

theorem rounds_mono {l:Nat}{body body':List D→(Sig→Prop)→Prop}{Q Q':Sig→Prop}(hb:∀ds (R R':Sig→Prop),(∀s,R s→R' s)→body ds R→body' ds R')(hQ:∀s,Q s→Q' s):∀(n:Nat) (ds:List D),rounds l body Q n ds→rounds l body' Q' n ds
 | 0,_,h=>h
 | n+1,ds,h=>hb ds _ _ (fun s hs=>by
   cases s with
   | jump l' ds'=>
    simp only[catchL] at hs ⊢
    split
    ·rename_i e;rw[if_pos e] at hs;exact rounds_mono hb hQ n ds' hs
    ·rename_i e;rw[if_neg e] at hs;exact hQ _ hs
   | ret d=>exact hQ _ hs
   | pan d st sl kd=>exact hQ _ hs) h

theorem den_mono {P:Program}:∀{t:T} {env:List D} {Q Q':Sig→Prop},(∀s,Q s→Q' s)→den P t env Q→den P t env Q'
 | .bind (.ev x) t,env,Q,Q',hq,⟨d,h1,h2⟩=>⟨d,h1,den_mono hq h2⟩
 | .bind (.call act f h args rs) t,env,Q,Q',hq,⟨h0,d,h1,h2⟩=>⟨h0,d,h1,den_mono hq h2⟩
 | .bind (.wcall act f h args rs) t,env,Q,Q',hq,⟨h0,st,d,h',h1,h2,h3,h5⟩=>⟨h0,st,d,h',h1,h2,h3,den_mono hq h5⟩
 | .bind (.callv act x h args rs) t,env,Q,Q',hq,⟨h0,d,h1,h2⟩=>⟨h0,d,h1,den_mono hq h2⟩
 | .bind (.wcallv act x h args rs) t,env,Q,Q',hq,⟨h0,st,d,h',h1,h2,h3,h5⟩=>⟨h0,st,d,h',h1,h2,h3,den_mono hq h5⟩
 | .ite c a b,env,Q,Q',hq,⟨v,h1,h2,h3⟩=>⟨v,h1,fun e=>den_mono hq (h2 e),fun e=>den_mono hq (h3 e)⟩
 | .loop l inits body,env,Q,Q',hq,⟨ds,h1,n,h2⟩=>⟨ds,h1,n,rounds_mono (fun ds R R' hR h=>⟨h.1,den_mono hR h.2⟩) hq n ds h2⟩
 | .join l n body rest,env,Q,Q',hq,h=>den_mono (t:=body) (fun s hs=>by
   cases s with
   | jump l' ds'=>
    simp only[catchL] at hs ⊢
    split
    ·rename_i e;rw[if_pos e] at hs;exact⟨hs.1,den_mono hq hs.2⟩
    ·rename_i e;rw[if_neg e] at hs;exact hq _ hs
   | ret d=>exact hq _ hs
   | pan d st sl kd=>exact hq _ hs) h
 | .jump l vals,env,Q,Q',hq,⟨ds,h1,h2⟩=>⟨ds,h1,hq _ h2⟩
 | .ret x,env,Q,Q',hq,⟨d,h1,h2⟩=>⟨d,h1,hq _ h2⟩
 | .pan x h sl ks,env,Q,Q',hq,⟨d,st,kd,h1,h2,h3,h4⟩=>⟨d,st,kd,h1,h2,h3,hq _ h4⟩
 | .nilq x neg t,env,Q,Q',hq,⟨d,bs,h1,h2,h3⟩=>⟨d,bs,h1,h2,fun b hb=>den_mono hq (h3 b hb)⟩
 | .pick x t,env,Q,Q',hq,⟨ys,h1,h2⟩=>⟨ys,h1,fun d st hy=>den_mono hq (h2 d st hy)⟩
 | .dfr f keep caps res t,env,Q,Q',hq,⟨cds,h1,h2,h3⟩=>⟨cds,h1,h2,den_mono (fun _=>DfrQ_mono hq) h3⟩
 | .pcall f h args rs sl ks t,env,Q,Q',hq,⟨st,ds,.ret d,h1,h2,h3,h4,h5⟩=>⟨st,ds,.ret d,h1,h2,h3,h4,den_mono hq h5⟩
 | .pcall f h args rs sl ks t,env,Q,Q',hq,⟨st,ds,.pan d,h1,h2,h3,kd,h4,h5⟩=>⟨st,ds,.pan d,h1,h2,h3,kd,h4,hq _ h5⟩
 | .wpcall f h args rs sl ks t,env,Q,Q',hq,⟨st,ds,.ret d,h',h1,h2,h3,h4,h5⟩=>⟨st,ds,.ret d,h',h1,h2,h3,h4,den_mono hq h5⟩
 | .wpcall f h args rs sl ks t,env,Q,Q',hq,⟨st,ds,.pan d,h',h1,h2,h3,kd,h4,h5⟩=>⟨st,ds,.pan d,h',h1,h2,h3,kd,h4,hq _ h5⟩
 | .wpcallv x h args rs sl ks t,env,Q,Q',hq,⟨f,us,cs,st,ds,.ret d,h',g1,g2,h1,h2,h3,h4,h5⟩=>⟨f,us,cs,st,ds,.ret d,h',g1,g2,h1,h2,h3,h4,den_mono hq h5⟩
 | .wpcallv x h args rs sl ks t,env,Q,Q',hq,⟨f,us,cs,st,ds,.pan d,h',g1,g2,h1,h2,h3,kd,h4,h5⟩=>⟨f,us,cs,st,ds,.pan d,h',g1,g2,h1,h2,h3,kd,h4,hq _ h5⟩
 | .rfor x h sl caps n l body rest,env,Q,Q',hq,⟨f,us,cs,st,cds,d,st',h1,h2,h3,h4,h5,h6,h7,h8⟩=>⟨f,us,cs,st,cds,d,st',h1,h2,h3,h4,h5,h6,h7,den_mono hq h8⟩
 | .rforx x h sl caps n l q body rest quit,env,Q,Q',hq,⟨f,us,cs,bs,cds,d,bs',stop,h1,h2,h3,h4,h5,h6,h7,h8⟩=>⟨f,us,cs,bs,cds,d,bs',stop,h1,h2,h3,h4,h5,h6,fun e=>den_mono hq (h7 e),fun e=>den_mono hq (h8 e)⟩

def wrapBinds (bs:List Bind)(t:T):T:=bs.foldr T.bind t

theorem evalAll_mono {env env':List D}(h:env <+: env'):∀{l:List E} {ds:List D},evalAll env l=some ds→evalAll env' l=some ds
 | [],ds,hd=>hd
 | x :: r,ds,hd=>by
  simp only[evalAll,Option.bind_eq_some_iff,Option.map_eq_some_iff] at hd ⊢
  obtain⟨d,h1,ds',h2,h3⟩:=hd
  exact⟨d,E.eval_mono h x h1,ds',evalAll_mono h h2,h3⟩

theorem prefix_append (env ds:List D):env <+: env++ds:=⟨ds,rfl⟩

theorem den_binds {P:Program}{t:T}{Q:Sig→Prop}:∀{bs:List Bind} {env:List D},den P (wrapBinds bs t) env Q→∃ds,ds.length=bs.length∧den P t (env++ds) Q∧BindsOk P (env++ds) env.length bs
 | [],env,h=>⟨[],rfl,by simpa[wrapBinds] using h,fun i b hi=>by simp at hi⟩
 | b :: bs,env,h=>by
  have go:∀{d:D},den P (wrapBinds bs t) (env++[d]) Q→(∀ds,BindOk P (env++[d]++ds) env.length (some b))→∃ds,ds.length=(b :: bs).length∧den P t (env++ds) Q∧BindsOk P (env++ds) env.length (b :: bs):=by
   intro d hd hb
   obtain⟨ds,hl,h1,h2⟩:=den_binds hd
   refine⟨d :: ds,by simp[hl],by simpa using h1,fun i b' hi=>?_⟩
   cases i with
   | zero=>simp at hi;subst hi;simpa using hb ds
   | succ i=>
    have:=h2 i b' (by simpa using hi)
    simp only[List.length_append,List.length_cons,List.length_nil,List.append_assoc,List.cons_append,List.nil_append] at this
    rwa [show env.length+(i+1)=env.length+(0+1)+i from by omega]
  have hat:∀(d:D) (ds:List D),(env++[d]++ds)[env.length]? = some d:=by
   intro d ds
   simp
  cases b with
  | ev x=>
   obtain⟨d,hx,hd⟩:=h
   exact go hd fun ds=>⟨d,E.eval_mono (by rw[List.append_assoc];exact prefix_append _ _) _ hx,hat d ds⟩
  | call act f hx args rs=>
   obtain⟨hdef,d,hx,hd⟩:=h
   refine go hd fun ds=>⟨d,hat d ds,fun ha=>?_⟩
   obtain⟨st,as,h0,h1,h2⟩:=hx (actHolds_mono (by rw[List.append_assoc];exact prefix_append _ _) hdef ha)
   exact⟨st,as,E.eval_mono (by rw[List.append_assoc];exact prefix_append _ _) _ h0,evalAll_mono (by rw[List.append_assoc];exact prefix_append _ _) h1,h2⟩
  | callv act x hx args rs=>
   obtain⟨hdef,d,hx,hd⟩:=h
   refine go hd fun ds=>⟨d,hat d ds,fun ha=>?_⟩
   have hp:env <+: env++[d]++ds:=by rw[List.append_assoc];exact prefix_append _ _
   obtain⟨f,us,cs,st,as,g0,g1,g2,g3,g4⟩:=hx (actHolds_mono hp hdef ha)
   exact⟨f,us,cs,st,as,E.eval_mono hp _ g0,g1,E.eval_mono hp _ g2,evalAll_mono hp g3,g4⟩
  | wcallv act x hx args rs=>
   obtain⟨hdef,st,d,h',g0,g1,g2,hd⟩:=h
   refine go hd fun ds=>?_
   have hp:env <+: env++[.tup [d,h']]++ds:=by rw[List.append_assoc];exact prefix_append _ _
   refine⟨st,d,h',E.eval_mono hp _ g0,hat _ ds,fun ha=>?_,fun hn=>g2 fun ha=>hn (actHolds_up hp ha)⟩
   obtain⟨xd,as,k1,k2,k3⟩:=g1 (actHolds_mono hp hdef ha)
   exact⟨xd,as,E.eval_mono hp _ k1,evalAll_mono hp k2,k3⟩
  | wcall act f hx args rs=>
   obtain⟨hdef,st,d,h',g0,g1,g2,hd⟩:=h
   refine go hd fun ds=>?_
   have hp:env <+: env++[.tup [d,h']]++ds:=by rw[List.append_assoc];exact prefix_append _ _
   refine⟨st,d,h',E.eval_mono hp _ g0,hat _ ds,fun ha=>?_,fun hn=>g2 fun ha=>hn (actHolds_up hp ha)⟩
   obtain⟨as,k2,k3⟩:=g1 (actHolds_mono hp hdef ha)
   exact⟨as,evalAll_mono hp k2,k3⟩

end
end Go.Am

/-
 Operations after which the text of the small language branches: a panic,a call that may panic,the question whether a slice is nil.
-/
namespace Go.Am
noncomputable section

inductive Sop where
 | pan (x:E)
 | nilq (x:E) (neg:Bool)
 | call (f:FuncId) (args:List E) (rs:List Bool)
 | wcall (f:FuncId) (args:List E) (rs:List Bool)
 | wcallv (x:E) (args:List E) (rs:List Bool)
 | next (p:E)
 deriving Inhabited

def isNilS:Operand→Bool
 | .const (.slice none 0 0)=>true
 | _=>false

def sopOf (P:Program)(o:Oper)(σ:SState):Option Sop:=
 match o.guard with
 | some _=>none
 | none=>match o.op with
  | .panic x=>(match(σ.opd x).toE,σ.hs with
   | some y,some (.store _ _)=>some (.pan (.m4 .isifc y .nil .nil .nil))
   | _,_=>none)
  | .next it false=>(match(σ.opd it).toE,σ.hs with
   | some p,some (.store cf _)=>if cf.ro then none else some (.next p)
   | _,_=>none)
  | .binOp .eql t x y _=>(match P.underlying t with
   | some (.slice _)=>if isNilS y then(σ.opd x).toE.map (.nilq · false) else none
   | _=>none)
  | .binOp .neq t x y _=>(match P.underlying t with
   | some (.slice _)=>if isNilS y then(σ.opd x).toE.map (.nilq · true) else none
   | _=>none)
  | .call c=>(match c.callee with
   | .value f=>match σ.opd f,σ.hs with
    | .func (.func f) [],some (.store cf _)=>if cf.pan.contains f then(match P.funcs[f]?,toEAll (c.args.toList.map σ.opd) with
      | some fn,some xs=>(match scalars P fn.resultTypes.toList with
       | some rs=>if callable P f=false then none else if cf.wr.contains f then(if cf.ro then none else some (.wcall f xs rs)) else some (.call f xs rs)
       | none=>none)
      | _,_=>none) else none
    | .e x _,some (.store cf _)=>if cf.pan.contains (1000000+o.dst.getD 999999) then(match rsOfType P o.type,toEAll (c.args.toList.map σ.opd) with
      | some rs,some xs=>if cf.ro then none else some (.wcallv x xs rs)
      | _,_=>none) else none
    | _,_=>none
   | _=>none)
  | _=>none

abbrev SKont:=SState→Nat→Option T

def hsOf (σ:SState):E:=match σ.hs with | some (.store _ h)=>h | _=>.const (.st [])

def setH (σ:SState)(x:E):SState:=match σ.hs with | some (.store cf _)=>σ.setObj HID (some (.store cf x)) | _=>σ

def keepOf (σ:SState):List Nat:=match σ.hs with | some (.store cf _)=>cf.keep | _=>[]

def keepE (σ:SState):Option (List E):=toEAll ((keepOf σ).map σ.tmp)

def KeepRd (w:World)(S:Sets)(a:Act)(slots:List Nat)(kd:List D):Prop:=
 kd.length=slots.length∧∀(i s:Nat) (d:D),slots[i]? = some s→kd[i]? = some d→RdD w S (a.tmps.getD s undef) d

def sopT (s:Sop)(o:Oper)(σ:SState)(u:Nat)(rest:SState→Nat→Option T):Option T:=
 match s with
 | .pan x=>(keepE σ).map (.pan x (hsOf σ) (keepOf σ))
 | .nilq x neg=>(rest (σ.put o.dst (.e (.sym u) true)) (u+1)).map (.nilq x neg)
 | .next p=>(rest ((setH σ (.tget 1 (.sym u))).put o.dst (.e (.tget 0 (.sym u)) false)) (u+1)).map (.pick (.m4 .next (hsOf σ) p .nil .nil))
 | .call f xs rs=>(keepE σ).bind fun ks=>(rest (σ.put o.dst (resSV (.sym u) rs)) (u+1)).map (.pcall f (hsOf σ) xs rs (keepOf σ) ks)
 | .wcall f xs rs=>(keepE σ).bind fun ks=>(rest ((setH σ (.tget 1 (.sym u))).put o.dst (resSV (.tget 0 (.sym u)) rs)) (u+1)).map (.wpcall f (hsOf σ) xs rs (keepOf σ) ks)
 | .wcallv x xs rs=>(keepE σ).bind fun ks=>(rest ((setH σ (.tget 1 (.sym u))).put o.dst (resSV (.tget 0 (.sym u)) rs)) (u+1)).map (.wpcallv x (hsOf σ) xs rs (keepOf σ) ks)

def segs (P:Program)(ops:Array Oper):List Oper→SState→Nat→SKont→Option T
 | [],σ,u,k=>k σ u
 | o :: r,σ,u,k=>match sopOf P o σ with
  | some s=>if dstOk σ o then sopT s o σ u fun σ u=>segs P ops r σ u k else none
  | none=>match rstep P ops o σ u with
   | some (σ',none)=>segs P ops r σ' u k
   | some (σ',some b)=>(segs P ops r σ' (u+1) k).map (.bind b)
   | none=>none

def segsC (P:Program)(ops:Array Oper):List Oper→SState→Nat→Option (Option (Nat×SState))
 | [],σ,u=>some (some (u,σ))
 | o :: r,σ,u=>match sopOf P o σ with
  | some (.pan _)=>some none
  | some (.nilq _ _)=>segsC P ops r (σ.put o.dst (.e (.sym u) true)) (u+1)
  | some (.next _)=>segsC P ops r ((setH σ (.tget 1 (.sym u))).put o.dst (.e (.tget 0 (.sym u)) false)) (u+1)
  | some (.call _ _ rs)=>segsC P ops r (σ.put o.dst (resSV (.sym u) rs)) (u+1)
  | some (.wcallv _ _ rs)=>segsC P ops r ((setH σ (.tget 1 (.sym u))).put o.dst (resSV (.tget 0 (.sym u)) rs)) (u+1)
  | some (.wcall _ _ rs)=>segsC P ops r ((setH σ (.tget 1 (.sym u))).put o.dst (resSV (.tget 0 (.sym u)) rs)) (u+1)
  | none=>match rstep P ops o σ u with
   | some (σ',none)=>segsC P ops r σ' u
   | some (σ',some _)=>segsC P ops r σ' (u+1)
   | none=>none

section
variable {P:Program} {w0:World} {X:Ent}

theorem run_eqNil {t e:TypeId}{v:Value}{w:World}(ht:P.underlying t=some (.slice e))(hv:∃ad n c,v=.slice ad n c):∃b,(binOp .eql t v (.slice none 0 0)).run P w=.ok (.bool b) w∧(binOp .neq t v (.slice none 0 0)).run P w=.ok (.bool (!b)) w∧(b=true↔∃n c,v=.slice none n c):=by
 obtain⟨ad,n,c,rfl⟩:=hv
 exact⟨ad.isNone,Lib.run_eql_slice_nil w t e ad n c 0 0 ht,run_neq_slice_nil_any w t e ad n c 0 0 ht,by cases ad <;> simp⟩

theorem isNil_rd {w:World}{S:Sets}{v:Value}{d:D}{bs:List Bool}(h:RdD w S v d)(hb:d.isNil=some bs):(∃ad n c,v=.slice ad n c)∧∀b:Bool,(b=true↔∃n c,v=.slice none n c)→b∈bs:=by
 unfold D.isNil at hb
 split at hb
 ·cases hb
  obtain⟨ad,n,c,hv,_⟩:=h.lst_form
  exact⟨⟨ad,n,c,hv⟩,fun b _=>by cases b <;> simp⟩
 ·cases hb
  rename_i hne
  cases h with
  | nil=>exact absurd rfl hne
  | emp _=>exact absurd rfl hne
  | lst=>exact⟨⟨_,_,_,rfl⟩,fun b hb=>by cases b <;> simp at hb ⊢⟩
 ·cases hb
  cases h
  exact⟨⟨_,_,_,rfl⟩,fun b hb=>by cases b <;> simp at hb ⊢⟩
 ·cases hb
  cases h
  exact⟨⟨_,_,_,rfl⟩,fun b hb=>by cases b <;> simp at hb ⊢⟩
 ·cases hb

theorem hsOf_eval {w:World}{a:Act}{σ:SState}{env:List D}{ρ:Rho}(h:Rep w0 X w a σ env ρ){cf:StCfg}{x:E}(hx:σ.hs=some (.store cf x)):hsOf σ=x∧σ.obj HID=some (.store cf x)∧∃bs,x.eval env=some (.st bs)∧StOk w ρ.S ρ.foot bs:=by
 have hob:σ.obj HID=some (.store cf x):=by rw[SState.obj_def,if_pos rfl];exact hx
 obtain⟨bs,h1,h2,_⟩:=h.objs _ _ hob
 exact⟨by simp[hsOf,hx],hob,bs,h1,h2⟩

def PanQ (w0:World)(X:Ent)(Q:Sig→Prop)(Q':Exit→Act→World→Prop):Prop:=
 ∀(w:World) (a:Act) (σ:SState) (env:List D) (ρ:Rho) (v:Value) (d:D) (bs:List D),Rep w0 X w a σ env ρ→RdD w ρ.S v d→StOk w ρ.S ρ.foot bs→(∃cf x,σ.obj HID=some (.store cf x))→(∃kd,KeepRd w ρ.S a (keepOf σ) kd∧Q (.pan d (.st bs) (keepOf σ) kd))→Q' (.panic [{ v,recovered:=false }]) a w

theorem keepE_rd {w:World}{a:Act}{σ:SState}{env:List D}{ρ:Rho}(h:Rep w0 X w a σ env ρ){ks:List E}(hk:keepE σ=some ks){env0:List D}{kd:List D}(he:evalAll env0 ks=some kd)(hp:env0 <+: env):KeepRd w ρ.S a (keepOf σ) kd:=by
 obtain⟨ds,hev,hl,hrd⟩:=toEAll_rd (w:=w) (ρ:=ρ) (env:=env) (vs:=(keepOf σ).map fun s=>a.tmps.getD s undef) hk (by simp) (fun i v s hv hs=>by
  simp only[List.getElem?_map,Option.map_eq_some_iff] at hv hs
  obtain⟨x,hx,rfl⟩:=hv
  obtain⟨y,hy,rfl⟩:=hs
  rw[hx] at hy
  cases hy
  exact h.tmps x)
 have:=evalAll_mono hp he
 rw[hev] at this
 cases this
 exact⟨by simpa using hl.symm,fun i s d hs hd=>hrd i _ d (by simp[hs]) hd⟩

theorem callable_run {f:FuncId}{o:Oper}{a:Act}{w:World}{c:Operand}{args:Array Operand}{ts:Array TypeId}(hcl:callable P f=true)(ho:o.op=.call { callee:=.value c,args:=args,argTypes:=ts })(hc:a.eval c=.func (.func f) #[] #[]) :
  (execOp a.eval o).run P w=.ok (.enter f (args.map a.eval)) w:=by
 unfold callable at hcl
 split at hcl
 ·rename_i fn hf
  simp only[Bool.and_eq_true,Bool.not_eq_true',Option.isSome_iff_ne_none] at hcl
  have hbn:fn.body.isNone=false:=by
   cases hb:fn.body with
   | none=>exact absurd hb hcl.2
   | some _=>rfl
  unfold execOp
  simp only[ho,resolve,hc,Deferred.ofValue,invoke,Sem.run_bind,Sem.run_pure,Result.andThen_ok,callFunc,run_program,hf,hcl.1,hbn,Bool.false_eq_true,if_false]
  simp
 ·cases hcl

theorem sop_sound {rd:Option Nat} {nd:Nat} {ops:Array Oper} {o:Oper} {s:Sop} {σ:SState} {rest:SState→Nat→Option T} {t:T} {env:List D} {Q:Sig→Prop} {Q':Exit→Act→World→Prop} {K:Act→World→Prop} {a:Act} {w:World} {ρ:Rho}
  (hs:sopOf P o σ=some s) (hnd:noDefer o=true) (hd:∀d,o.dst=some d→d<σ.tmps.length) (ht:sopT s o σ env.length rest=some t) (hden:den P t env Q) (hr:Rep w0 X w a σ env ρ) (hp:PanQ w0 X Q Q')
  (hK:∀(σ':SState) (env':List D) (t':T) (a':Act) (w':World) (ρ':Rho),env <+: env'→rest σ' env'.length=some t'→den P t' env' Q→Rep w0 X w' a' σ' env' ρ'→σ'.tmps.length=σ.tmps.length→σ'.mem.length=σ.mem.length→K a' w') :
  Region.wanted o (yielded ops a.tmps)=true∧o.wpIn (FW rd) nd P a w K Q':=by
 unfold sopOf at hs
 split at hs
 ·cases hs
 rename_i hg
 refine⟨by simp[Region.wanted,hg],?_⟩
 have hv:=fun x=>opd_rd (a:=a) hr x
 have hplen:∀sv,(σ.put o.dst sv).tmps.length=σ.tmps.length∧(σ.put o.dst sv).mem.length=σ.mem.length:=fun sv=>by cases o.dst <;> simp[SState.put_def]
 have nil:∀{op:BinOp} {ty yt:TypeId} {x y:Operand} {x':E} {neg:Bool},o.op=.binOp op ty x y yt→(op=.eql∧neg=false∨op=.neq∧neg=true)→(∃e,P.underlying ty=some (.slice e))→isNilS y=true→(σ.opd x).toE=some x'→s=.nilq x' neg→o.wpIn (FW rd) nd P a w K Q':=by
  intro op ty yt x y x' neg ho hop ⟨e,hu⟩ hy hx hs
  subst hs
  simp only[sopT] at ht
  obtain⟨t',ht',rfl⟩:=Option.map_eq_some_iff.1 ht
  obtain⟨d,bs,he,hb,hall⟩:=hden
  obtain⟨d',he',hrd⟩:=SV.toE_rd hx (hv x)
  rw[he] at he'
  cases he'
  obtain⟨hform,hmem⟩:=isNil_rd hrd hb
  obtain⟨b,h1,h2,h3⟩:=run_eqNil (P:=P) (w:=w) hu hform
  have hye:a.eval y=.slice none 0 0:=by
   unfold isNilS at hy
   split at hy
   ·rfl
   ·cases hy
  have hd':=hall b (hmem b h3)
  have hguard:(eqGuard op ty x y (a.eval x) (.slice none 0 0)).run P w=.ok () w:=by
   obtain⟨ad,n,c,hvx⟩:=hform
   rw[hvx]
   rcases hop with⟨rfl,_⟩ | ⟨rfl,_⟩ <;> simp[eqGuard]
  refine wpIn_of_upon (K:=K) hnd ?_ fun _ _ h=>h
  have hrun:(execOp a.eval o).run P w=.ok (.value (.bool (b != neg))) w:=by
   unfold execOp
   rcases hop with⟨rfl,rfl⟩ | ⟨rfl,rfl⟩
   ·simp only[ho,hye,Sem.run_bind,hguard,Result.andThen_ok,h1,Sem.run_pure];simp
   ·simp only[ho,hye,Sem.run_bind,hguard,Result.andThen_ok,h2,Sem.run_pure];simp
  rw[hrun]
  have hrep:=(hr.env (prefix_append env [.v (.bool (b != neg))])).put (dst:=o.dst) (v:=.bool (b != neg)) (sv:=.e (.sym env.length) true) hd (.e (d:=.v (.bool (b != neg))) (by simp[E.eval]) (.v rfl) fun _=>rfl)
  exact hK _ _ t' _ _ _ (prefix_append env _) (by rw[List.length_append];exact ht') hd' hrep (hplen _).1 (hplen _).2
 split at hs
 ·rename_i x ho
  split at hs
  ·rename_i y cf hx0 hx hhs
   cases hs
   simp only[sopT] at ht
   obtain⟨ks,hks,rfl⟩:=Option.map_eq_some_iff.1 ht
   obtain⟨d,st,kd,he,hh,hkd,hq⟩:=hden
   obtain⟨d',he',hrd⟩:=SV.toE_rd hx (hv x)
   simp only[E.eval,he',Option.bind_some,D.m4] at he
   obtain⟨h1,hob,bs,h2,h3⟩:=hsOf_eval hr hhs
   rw[h1,h2] at hh
   cases hh
   split at he
   case h_2=>cases he
   cases he
   have hrd0:=hrd
   generalize hve:a.eval x=v at hrd
   cases hrd with
   | ifc hd0=>
    refine wpIn_of_upon (K:=K) hnd ?_ fun _ _ h=>h
    have hrun:(execOp a.eval o).run P w=.halt (.panic (a.eval x)) w:=by
     unfold execOp
     simp only[ho,hve,Instr.panic,goPanic,Sem.run_bind]
     rfl
    rw[hrun]
    exact hp w a σ env ρ _ _ bs hr hrd0 h3 ⟨cf,_,hob⟩ ⟨kd,keepE_rd hr hks hkd (List.prefix_refl _),hq⟩
  ·cases hs
 ·rename_i it ho
  split at hs
  ·rename_i p cf hx0 hx hhs
   split at hs
   ·cases hs
   rename_i hro
   cases hs
   simp only[sopT] at ht
   obtain⟨t',ht',rfl⟩:=Option.map_eq_some_iff.1 ht
   obtain⟨ys,he,hall⟩:=hden
   obtain⟨dp,hdp,hrp⟩:=SV.toE_rd hx (hv it)
   obtain⟨h1,hob,bs,h2,h3⟩:=hsOf_eval hr hhs
   simp only[E.eval,h1,h2,hdp,Option.bind_some,D.m4] at he
   obtain⟨v,w',d,bs',hmem,hrun,hrv,hst',hK',hos,htp,hout,hsz,hbl⟩:=next_run (P:=P) (ty:=o.type) h3 hrp he
   have hd':=hall _ _ hmem
   have hexec:(execOp a.eval o).run P w=.ok (.value v) w':=by
    unfold execOp
    simp only[ho,Sem.run_bind,hrun,Result.andThen_ok,Sem.run_pure]
   refine wpIn_of_upon (K:=K) hnd ?_ fun _ _ h=>h
   rw[hexec]
   have hpre:=prefix_append env [.tup [d,.st bs']]
   have hix:(E.sym env.length).eval (env++[.tup [d,.st bs']])=some (.tup [d,.st bs']):=by simp[E.eval]
   have hrep:=(hr.env hpre).setStore (x':=.tget 1 (.sym env.length)) hob (by simpa using hro) (by simp only[E.eval] at hix ⊢;rw[hix];rfl) hst' hK' (Sets.le_refl _) hos htp hout (by omega) (fun b _ hb=>hbl b hb) (fun b hb=>⟨.inl hb,by rw[hsz];exact foot_lt hr hob b hb⟩) (fun b o hs=>.inl hs) (fun b o hs=>by rw[hsz];exact hr.cells b o hs)
   have hset:setH σ (.tget 1 (.sym env.length))=σ.setObj HID (some (.store cf (.tget 1 (.sym env.length)))):=by unfold setH;rw[hhs]
   refine hK _ _ t' _ _ _ hpre (by rw[List.length_append];exact ht') hd' (hset ▸ hrep.put (dst:=o.dst) (by rw[SState.tmps_setObj];exact hd) (.e (d:=d) (by simp only[E.eval] at hix ⊢;rw[hix];rfl) hrv (by simp))) ?_ ?_
   ·rw[hset];cases o.dst <;> simp[SState.put_def,SState.tmps_setObj]
   ·rw[hset];cases o.dst <;> simp[SState.put_def,SState.mlen_setObj]
  ·cases hs
 ·rename_i ty x y yt ho
  split at hs
  ·rename_i e hu
   split at hs
   ·rename_i hy
    obtain⟨x',hx,rfl⟩:=Option.map_eq_some_iff.1 hs
    exact nil ho (.inl ⟨rfl,rfl⟩) ⟨e,hu⟩ hy hx rfl
   ·cases hs
  ·cases hs
 ·rename_i ty x y yt ho
  split at hs
  ·rename_i e hu
   split at hs
   ·rename_i hy
    obtain⟨x',hx,rfl⟩:=Option.map_eq_some_iff.1 hs
    exact nil ho (.inr ⟨rfl,rfl⟩) ⟨e,hu⟩ hy hx rfl
   ·cases hs
  ·cases hs
 ·rename_i c ho
  obtain⟨callee,args,ts⟩:=c
  simp only at hs
  split at hs
  ·rename_i c
   split at hs
   ·rename_i f cf hE hfv hhs
    split at hs
    ·split at hs
     ·rename_i fn xs hfn hxs
      split at hs
      ·rename_i rs hrs
       split at hs
       ·cases hs
       ·rename_i hcl
        have hcl:callable P f=true:=by simpa using hcl
        obtain⟨h1,hob,bs,h2,h3⟩:=hsOf_eval hr hhs
        have hc:a.eval c=.func (.func f) #[] #[]:=by
         have:=hv c
         rw[hfv] at this
         obtain⟨vs,he,hl',_⟩:=this.func_inv
         rw[he]
         have:vs=#[]:=by simpa using hl'
         rw[this]
        have hrun:=callable_run (w:=w) hcl ho hc
        obtain⟨ds',hev',hdl,hrd⟩:=toEAll_rd (w:=w) (ρ:=ρ) (vs:=(args.map a.eval).toList) hxs (by simp) (fun i v s hv' hs'=>by
         simp only[Array.toList_map,List.getElem?_map,Option.map_eq_some_iff] at hv' hs'
         obtain⟨x,hx',rfl⟩:=hv'
         obtain⟨y,hy',rfl⟩:=hs'
         rw[hx'] at hy'
         cases hy'
         exact hv x)
        split at hs
        ·split at hs
         ·cases hs
         ·rename_i hro
          cases hs
          simp only[sopT] at ht
          obtain⟨ks,hks,ht⟩:=Option.bind_eq_some_iff.1 ht
          obtain⟨t',ht',rfl⟩:=Option.map_eq_some_iff.1 ht
          obtain⟨st,ds,oo,h',hse,hev,hspec,hoo⟩:=hden
          rw[h1,h2] at hse
          cases hse
          rw[hev] at hev'
          cases hev'
          refine wpIn_of_upon (K:=K) hnd ?_ fun _ _ h=>h
          rw[hrun]
          refine⟨fun e=>(by cases e),callsIn_wide.2 ?_⟩
          refine(hspec w ρ.S ρ.foot bs (args.map a.eval) rfl h3 (hr.holdOk hob) (foot_lt hr hob) hr.cells (by simpa using hdl) (fun i v x hv hx'=>hrd i v x (by simpa using hv) hx')).mono ?_
          rintro e w' ⟨v,S',foot',bs',hends,rfl,hst',hk,hS,hos,htp,hout,hsz,hbl,hf',hS2,hS3⟩
          cases oo with
          | ret d=>
           obtain⟨rfl,hrv⟩:=hends
           have hpre:=prefix_append env [.tup [d,.st bs']]
           have hix:(E.sym env.length).eval (env++[.tup [d,.st bs']])=some (.tup [d,.st bs']):=by simp[E.eval]
           have hrep:=(hr.env hpre).setStore (x':=.tget 1 (.sym env.length)) hob (by simpa using hro) (by simp only[E.eval] at hix ⊢;rw[hix];rfl) hst' hk hS hos htp hout hsz hbl hf' hS2 hS3
           have hset:setH σ (.tget 1 (.sym env.length))=σ.setObj HID (some (.store cf (.tget 1 (.sym env.length)))):=by unfold setH;rw[hhs]
           refine hK _ _ t' _ _ _ hpre (by rw[List.length_append];exact ht') hoo.2 (hset ▸ hrep.put (dst:=o.dst) (by rw[SState.tmps_setObj];exact hd) (resSV_rd (by simp only[E.eval] at hix ⊢;rw[hix];rfl) hrv hoo.1)) ?_ ?_
           ·rw[hset];cases o.dst <;> simp[SState.put_def,SState.tmps_setObj]
           ·rw[hset];cases o.dst <;> simp[SState.put_def,SState.mlen_setObj]
          | pan d=>
           obtain⟨rfl,hrv⟩:=hends
           have hrep:=(hr.env (prefix_append env [.st bs'])).setStore (x':=.sym env.length) hob (by simpa using hro) (by simp[E.eval]) hst' hk hS hos htp hout hsz hbl hf' hS2 hS3
           obtain⟨kd,hkd,hq⟩:=hoo
           have hko:keepOf (σ.setObj HID (some (.store cf (.sym env.length))))=keepOf σ:=by
            unfold keepOf
            rw[hhs]
            simp[SState.setObj_def]
           have hke:keepE (σ.setObj HID (some (.store cf (.sym env.length))))=some ks:=by
            unfold keepE at hks ⊢
            rw[hko]
            rw[←hks]
            congr 1
           exact hp w' a _ _ _ v d bs' hrep hrv hst' ⟨cf,_,by rw[SState.obj_setObj' (.inl rfl),if_pos rfl]⟩ ⟨kd,keepE_rd hrep hke hkd (prefix_append env _),by rw[hko];exact hq⟩
        ·cases hs
         simp only[sopT] at ht
         obtain⟨ks,hks,ht⟩:=Option.bind_eq_some_iff.1 ht
         obtain⟨t',ht',rfl⟩:=Option.map_eq_some_iff.1 ht
         obtain⟨st,ds,oo,hse,hev,hspec,hoo⟩:=hden
         rw[h1,h2] at hse
         cases hse
         rw[hev] at hev'
         cases hev'
         refine wpIn_of_upon (K:=K) hnd ?_ fun _ _ h=>h
         rw[hrun]
         refine⟨fun e=>(by cases e),callsIn_wide.2 ?_⟩
         refine(hspec w ρ.S ρ.foot bs (args.map a.eval) rfl h3 (hr.holdOk hob) (foot_lt hr hob) hr.cells (by simpa using hdl) (fun i v x hv hx'=>hrd i v x (by simpa using hv) hx')).mono ?_
         rintro e w' ⟨v,S',hends,hbelow,hs1,hsn,hs2,hs3⟩
         have hrep:=hr.behind hbelow hs1 hsn hs2 hs3
         cases oo with
         | ret d=>
          obtain⟨rfl,hrv⟩:=hends
          have hpre:=prefix_append env [d]
          exact hK _ _ t' _ _ _ hpre (by rw[List.length_append];exact ht') hoo.2 ((hrep.env hpre).put (dst:=o.dst) hd (resSV_rd (by simp[E.eval]) hrv hoo.1)) (hplen _).1 (hplen _).2
         | pan d=>
          obtain⟨rfl,hrv⟩:=hends
          obtain⟨bs2,h4,h5,_⟩:=hrep.objs _ _ hob
          rw[h2] at h4
          cases h4
          obtain⟨kd,hkd,hq⟩:=hoo
          exact hp w' a _ _ _ v d bs hrep hrv h5 ⟨cf,_,hob⟩ ⟨kd,keepE_rd hrep hks hkd (List.prefix_refl _),hq⟩
      ·cases hs
     ·cases hs
    ·cases hs
   ·rename_i xe sb cf hE hfv hhs
    split at hs
    ·split at hs
     ·rename_i rs xs hrs hxs
      split at hs
      ·cases hs
      ·rename_i hro
       cases hs
       obtain⟨h1,hob,bs,h2,h3⟩:=hsOf_eval hr hhs
       have hcv:=hv c
       rw[hfv] at hcv
       obtain⟨dc,hdc,hrc,_⟩:=hcv.e_inv
       obtain⟨ds',hev',hdl,hrd⟩:=toEAll_rd (w:=w) (ρ:=ρ) (vs:=(args.map a.eval).toList) hxs (by simp) (fun i v s hv' hs'=>by
        simp only[Array.toList_map,List.getElem?_map,Option.map_eq_some_iff] at hv' hs'
        obtain⟨x,hx',rfl⟩:=hv'
        obtain⟨y,hy',rfl⟩:=hs'
        rw[hx'] at hy'
        cases hy'
        exact hv x)
       simp only[sopT] at ht
       obtain⟨ks,hks,ht⟩:=Option.bind_eq_some_iff.1 ht
       obtain⟨t',ht',rfl⟩:=Option.map_eq_some_iff.1 ht
       obtain⟨f,us,cs,st,ds,oo,h',hxe,hcl,hse,hev,hspec,hoo⟩:=hden
       rw[hdc] at hxe
       cases hxe
       rw[h1,h2] at hse
       cases hse
       rw[hev] at hev'
       cases hev'
       generalize hvc:a.eval c=vc at hrc
       cases hrc with
       | @fn _ uv cv _ _ hul hcll hur hcr=>
       have hrun:(execOp a.eval o).run P w=.ok (.enter f (uv++args.map a.eval++cv)) w:=by
        unfold callable at hcl
        split at hcl
        ·rename_i fn hf
         simp only[Bool.and_eq_true,Bool.not_eq_true',Option.isSome_iff_ne_none] at hcl
         have hbn:fn.body.isNone=false:=by
          cases hb:fn.body with
          | none=>exact absurd hb hcl.2
          | some _=>rfl
         unfold execOp
         simp only[ho,resolve,hvc,Deferred.ofValue,invoke,Sem.run_bind,Sem.run_pure,Result.andThen_ok,callFunc,run_program,hf,hcl.1,hbn,Bool.false_eq_true,if_false]
        ·cases hcl
       refine wpIn_of_upon (K:=K) hnd ?_ fun _ _ h=>h
       rw[hrun]
       refine⟨fun e=>(by cases e),callsIn_wide.2 ?_⟩
       refine(hspec w ρ.S ρ.foot bs _ rfl h3 (hr.holdOk hob) (foot_lt hr hob) hr.cells (by simp at hdl;simp[hul,hcll,hdl]) (fun i v x hv hx'=>get3 (us:=uv.toList) (vs:=(args.map a.eval).toList) (ws:=cv.toList) (R:=fun v x=>RdD w ρ.S v x) (by simpa using hul) hdl (fun i u x hu hx=>hur i u x (by simpa using hu) hx) hrd (fun i u x hu hx=>hcr i u x (by simpa using hu) hx) i v x (by rw[←Array.toList_append,←Array.toList_append,Array.getElem?_toList];exact hv) hx')).mono ?_
       rintro e w' ⟨v,S',foot',bs',hends,rfl,hst',hk,hS,hos,htp,hout,hsz,hbl,hf',hS2,hS3⟩
       cases oo with
       | ret d=>
        obtain⟨rfl,hrv⟩:=hends
        have hpre:=prefix_append env [.tup [d,.st bs']]
        have hix:(E.sym env.length).eval (env++[.tup [d,.st bs']])=some (.tup [d,.st bs']):=by simp[E.eval]
        have hrep:=(hr.env hpre).setStore (x':=.tget 1 (.sym env.length)) hob (by simpa using hro) (by simp only[E.eval] at hix ⊢;rw[hix];rfl) hst' hk hS hos htp hout hsz hbl hf' hS2 hS3
        have hset:setH σ (.tget 1 (.sym env.length))=σ.setObj HID (some (.store cf (.tget 1 (.sym env.length)))):=by unfold setH;rw[hhs]
        refine hK _ _ t' _ _ _ hpre (by rw[List.length_append];exact ht') hoo.2 (hset ▸ hrep.put (dst:=o.dst) (by rw[SState.tmps_setObj];exact hd) (resSV_rd (by simp only[E.eval] at hix ⊢;rw[hix];rfl) hrv hoo.1)) ?_ ?_
        ·rw[hset];cases o.dst <;> simp[SState.put_def,SState.tmps_setObj]
        ·rw[hset];cases o.dst <;> simp[SState.put_def,SState.mlen_setObj]
       | pan d=>
        obtain⟨rfl,hrv⟩:=hends
        have hrep:=(hr.env (prefix_append env [.st bs'])).setStore (x':=.sym env.length) hob (by simpa using hro) (by simp[E.eval]) hst' hk hS hos htp hout hsz hbl hf' hS2 hS3
        obtain⟨kd,hkd,hq⟩:=hoo
        have hko:keepOf (σ.setObj HID (some (.store cf (.sym env.length))))=keepOf σ:=by
         unfold keepOf
         rw[hhs]
         simp[SState.setObj_def]
        have hke:keepE (σ.setObj HID (some (.store cf (.sym env.length))))=some ks:=by
         unfold keepE at hks ⊢
         rw[hko]
         rw[←hks]
         congr 1
        exact hp w' a _ _ _ v d bs' hrep hrv hst' ⟨cf,_,by rw[SState.obj_setObj' (.inl rfl),if_pos rfl]⟩ ⟨kd,keepE_rd hrep hke hkd (prefix_append env _),by rw[hko];exact hq⟩
     ·cases hs
    ·cases hs
   ·cases hs
  ·cases hs
 ·cases hs

theorem den_bind1 {b:Bind}{t:T}{env:List D}{Q:Sig→Prop}(h:den P (.bind b t) env Q):∃d,den P t (env++[d]) Q∧BindOk P (env++[d]) env.length (some b):=by
 obtain⟨ds,hl,h1,h2⟩:=den_binds (bs:=[b]) (t:=t) h
 match ds,hl with
 | [d],_=>exact⟨d,h1,h2 0 b rfl⟩

theorem segs_sound {rd:Option Nat} {nd:Nat} {ops:Array Oper} {Q:Sig→Prop} {Q':Exit→Act→World→Prop} {k:SKont} (hp:PanQ w0 X Q Q') {N:Nat}
  (hsz:∀(j d:Nat),(ops[j]?).bind (fun(o:Oper)=>o.dst)=some d→d<N) :
  ∀{l:List Oper} {σ:SState} {t:T} {env:List D} {a:Act} {w:World} {ρ:Rho},segs P ops l σ env.length k=some t→den P t env Q→Rep w0 X w a σ env ρ→σ.tmps.length=N→σ.mem.length=N →
   (∀(σ':SState) (env':List D) (t':T) (a':Act) (w':World) (ρ':Rho),env <+: env'→k σ' env'.length=some t'→den P t' env' Q→Rep w0 X w' a' σ' env' ρ'→σ'.tmps.length=N→σ'.mem.length=N→Q' .normal a' w')→wpListIn (FW rd) nd P ops Q' l a w
 | [],σ,t,env,a,w,ρ,hs,hd,hr,h1,h2,hQ=>hQ σ env t a w ρ (List.prefix_refl _) hs hd hr h1 h2
 | o :: r,σ,t,env,a,w,ρ,hs,hd,hr,h1,h2,hQ=>by
  simp only[segs] at hs
  have next:∀{σ':SState} {env':List D} {t':T} {a':Act} {w':World} {ρ':Rho},env <+: env'→segs P ops r σ' env'.length k=some t'→den P t' env' Q→Rep w0 X w' a' σ' env' ρ'→σ'.tmps.length=N→σ'.mem.length=N→wpListIn (FW rd) nd P ops Q' r a' w':=by
   intro σ' env' t' a' w' ρ' hpre hs' hd' hr' h1' h2'
   exact segs_sound hp hsz hs' hd' hr' h1' h2' fun σ2 env2 t2 a2 w2 ρ2 hp2=>hQ σ2 env2 t2 a2 w2 ρ2 (hpre.trans hp2)
  split at hs
  ·rename_i s hso
   split at hs
   ·rename_i hdst
    obtain⟨hw,hwp⟩:=sop_sound (ops:=ops) hso (dstOk_defer hdst) (dstOk_spec hdst) hs hd hr hp (K:=wpListIn (FW rd) nd P ops Q' r) fun σ' env' t' a' w' ρ' hpre hk hd' hr' e1 e2=>next hpre hk hd' hr' (e1.trans h1) (e2.trans h2)
    unfold wpListIn
    rw[if_pos hw]
    exact hwp
   ·cases hs
  ·have go:∀{σ':SState} {b:Option Bind} {env':List D} {t':T},rstep P ops o σ env.length=some (σ',b)→env <+: env'→BindOk P env' env.length b→segs P ops r σ' env'.length k=some t'→den P t' env' Q→wpListIn (FW rd) nd P ops Q' (o :: r) a w:=by
    intro σ' b env' t' hst hpre hb hs' hd'
    have hlen:=rstep_len hst
    unfold wpListIn
    rcases rstep_sound (hr.env hpre) (by rw[h1,h2]) (List.IsPrefix.length_le hpre) (fun j d hjd=>by rw[h1];exact hsz j d hjd) hst hb with⟨hw,hok⟩ | ⟨hw,ρ'',hrep⟩
    ·rw[if_pos hw]
     refine wpIn_of_upon (rstep_defer hst) (hok Q') ?_
     rintro a' w' ⟨ρ',hrep⟩
     exact next hpre hs' hd' hrep (hlen.1.trans h1) (hlen.2.trans h2)
    ·rw[if_neg (by rw[hw];simp)]
     refine⟨fun _ _=>trivial,?_⟩
     exact next hpre hs' hd' hrep (hlen.1.trans h1) (hlen.2.trans h2)
   split at hs
   ·rename_i σ' hst
    exact go hst (List.prefix_refl _) trivial hs hd
   ·rename_i σ' b hst
    obtain⟨t',hs',rfl⟩:=Option.map_eq_some_iff.1 hs
    obtain⟨d,hd',hb⟩:=den_bind1 hd
    exact go hst (prefix_append env [d]) hb (by rw[List.length_append];exact hs') hd'
   ·cases hs

/-! ## a region whose order is drawn,with a special operation at its end -/

theorem Oper.wpIn_monoQ {F:Fence}{n:Nat}{o:Oper}{a:Act}{w:World}{K:Act→World→Prop}{Q1 Q2:Exit→Act→World→Prop}(h1:∀c a w,Q1 (.panic c) a w→Q2 (.panic c) a w)(h2:∀a w,Q1 .outgrown a w→Q2 .outgrown a w)(h:o.wpIn F n P a w K Q1):o.wpIn F n P a w K Q2:=by
 unfold Oper.wpIn at *
 refine⟨h.1,?_⟩
 have h:=h.2
 have hl:LetsOut Q1→LetsOut Q2:=fun⟨a,w,h⟩=>⟨a,w,h2 a w h⟩
 generalize(o.semAt F.round a.eval).run P w=r at *
 cases r with
 | ok n w'=>
  cases n <;> simp only[Oper.uponIn] at h ⊢ <;>
   first
    | exact h
    | exact⟨h.1,CallsIn.mono h.2 (fun e w'' he=>by cases e <;> first | exact he | exact h1 _ _ _ he | exact hl he)⟩
    | exact⟨h.1,RowsIn.mono h.2 (fun _ _ he=>he)⟩
    | exact⟨h.1,RoundIn.mono h.2 (fun e w'' he=>by cases e <;> first | exact he | exact h1 _ _ _ he | exact hl he)⟩
 | halt x w'=>cases x <;> simp only[Oper.uponIn] at h ⊢ <;> first | exact h1 _ _ _ h | exact h

def lastOk (ops:Array Oper):Bool:=
 (List.range (ops.size-1)).all (fun j=>((masks ops.toList []).getD (ops.size-1) 0).testBit j)&&(List.range ops.size).all fun i=>match ops[i]? with
  | some o=>(i==ops.size-1||match o.guard with | some (j,_)=>decide (j<ops.size-1) | none=>true)&&o.after.all fun e=>!Region.binds .any e||decide (e.on<i)
  | none=>false

theorem yielded_pop {ops:Array Oper}{tmps:Array Value}{j:Nat}(hj:j<ops.size-1):yielded ops.pop tmps j=yielded ops tmps j:=by
 unfold yielded
 rw[Array.getElem?_pop]
 simp[hj]

theorem wpAny_last {F:Fence}{n:Nat}{ops:Array Oper}{Q:Exit→Act→World→Prop}(h0:0<ops.size)(hl:lastOk ops=true) :
  ∀(fuel:Nat) (listed:Array Bool) (a:Act) (w:World),listed.size=ops.size-1→Closed ops (doneOf listed) →
   wpAnyIn F n P .any ops.pop (fun e a w=>match e with | .normal=>wpOpIn F n P ops Q (ops.size-1) (Q .normal) a w | e=>Q e a w) fuel listed a w→wpAnyIn F n P .any ops Q (fuel+1) (listed.push false) a w:=by
 simp only[lastOk,Bool.and_eq_true,List.all_eq_true,List.mem_range] at hl
 obtain⟨hlast,hall⟩:=hl
 have hat:∀(i:Nat) (o:Oper),ops[i]? = some o→(i<ops.size-1→∀j b,o.guard=some (j,b)→j<ops.size-1)∧∀e,e∈o.after→Region.binds .any e=true→e.on<i:=by
  intro i o ho
  have:=hall i (Array.getElem?_eq_some_iff.1 ho).1
  rw[ho] at this
  simp only[Bool.and_eq_true,Bool.or_eq_true,beq_iff_eq] at this
  refine⟨fun hi j b hg=>?_,fun e he hb=>?_⟩
  ·have h1:=this.1.resolve_left (by omega)
   rw[hg] at h1
   simpa using h1
  ·have:=Array.all_eq_true'.1 this.2 e he
   simpa[hb] using this
 have hget:∀(listed:Array Bool) (j:Nat),listed.size=ops.size-1→j<ops.size-1→∀d,(listed.push false).getD j d=listed.getD j false:=by
  intro listed j hs hj d
  simp only[Array.getD_eq_getD_getElem?]
  rw[Array.getElem?_push_lt (by omega)]
  simp[show j<listed.size by omega]
 have hgetm:∀(listed:Array Bool),listed.size=ops.size-1→∀d,(listed.push false).getD (ops.size-1) d=false:=by
  intro listed hs d
  simp only[Array.getD_eq_getD_getElem?,←hs,Array.getElem?_push_size]
  rfl
 have hpop:∀i,i<ops.size-1→ops.pop[i]? = ops[i]?:=fun i hi=>by rw[Array.getElem?_pop];simp[hi]
 have step:∀(fuel:Nat) (listed:Array Bool) (a:Act) (w:World),listed.size=ops.size-1→Closed ops (doneOf listed) →
   wpAnyIn F n P .any ops.pop (fun e a w=>match e with | .normal=>wpOpIn F n P ops Q (ops.size-1) (Q .normal) a w | e=>Q e a w) fuel listed a w →
   (∀f,fuel=f+1→∀(listed:Array Bool) (a:Act) (w:World),listed.size=ops.size-1→Closed ops (doneOf listed) →
    wpAnyIn F n P .any ops.pop (fun e a w=>match e with | .normal=>wpOpIn F n P ops Q (ops.size-1) (Q .normal) a w | e=>Q e a w) f listed a w→wpAnyIn F n P .any ops Q (f+1) (listed.push false) a w) →
   wpAnyIn F n P .any ops Q (fuel+1) (listed.push false) a w:=by
  intro fuel listed a w hs hcl h ih
  have hgd:∀(j:Nat),j<ops.size-1→listed.getD j true=listed.getD j false:=fun j hj=>by
   simp only[Array.getD_eq_getD_getElem?]
   simp[show j<listed.size by omega]
  refine⟨fun hnil=>?_,fun i hi=>?_⟩
  ·exfalso
   have hdone:∀j,j<ops.size→(listed.push false).getD j false=true:=by
    intro j
    induction j using Nat.strongRecOn with
    | _ j ihj=>
     intro hj
     refine Classical.byContradiction fun hnd=>?_
     have hmem:j∈Region.ready .any ops (listed.push false):=by
      refine mem_ready.2 ⟨?_,ops[j],Array.getElem?_eq_getElem hj,fun e he hb=>?_⟩
      ·rcases Nat.lt_or_ge j (ops.size-1) with hlt | hge
       ·rw[hget listed j hs hlt] at hnd ⊢
        simpa using hnd
       ·have:j=ops.size-1:=by omega
        rw[this,hgetm listed hs]
      ·have:=(hat j ops[j] (Array.getElem?_eq_getElem hj)).2 e he hb
       exact ihj e.on this (by omega)
     rw[hnil] at hmem
     cases hmem
   have:=hdone (ops.size-1) (by omega)
   rw[hgetm listed hs] at this
   cases this
  ·obtain⟨h1,o,ho,ha⟩:=mem_ready.1 hi
   have hin:=(Array.getElem?_eq_some_iff.1 ho).1
   rcases Nat.lt_or_ge i (ops.size-1) with hlt | hge
   ·have hia:∀e,e∈o.after→Region.binds .any e=true→listed.getD e.on false=true:=fun e he hb=>by
     have h2:=ha e he hb
     have h3:=(hat i o ho).2 e he hb
     rwa [hget listed e.on hs (by omega)] at h2
    have hi':i∈Region.ready .any ops.pop listed:=by
     refine mem_ready.2 ⟨?_,o,by rw[hpop i hlt];exact ho,hia⟩
     rw[hget listed i hs hlt] at h1
     rw[hgd i hlt]
     exact h1
    cases fuel with
    | zero=>rw[h.1] at hi';cases hi'
    | succ f=>
     have h2:=h.2 i hi'
     have hset:(listed.push false).setIfInBounds i true=(listed.setIfInBounds i true).push false:=by
      apply Array.ext'
      rw[Array.toList_setIfInBounds,Array.toList_push,Array.toList_push,Array.toList_setIfInBounds,List.set_append_left _ _ (by simpa using(by omega:i<listed.size))]
     have hcl':Closed ops (doneOf (listed.setIfInBounds i true)):=by
      intro k ok hk hok e he hb
      simp only[doneOf,Array.getD_eq_getD_getElem?,Array.getElem?_setIfInBounds] at hk ⊢
      by_cases hki:i=k
      ·subst hki
       rw[ho] at hok
       cases hok
       have:=hia e he hb
       simp only[Array.getD_eq_getD_getElem?] at this
       split
       ·rename_i hh;simp[show i<listed.size by omega]
       ·exact this
      ·rw[if_neg hki] at hk
       have:=hcl k ok (by simpa[doneOf,Array.getD_eq_getD_getElem?] using hk) hok e he hb
       simp only[doneOf,Array.getD_eq_getD_getElem?] at this
       split
       ·simp[show i<listed.size by omega]
       ·exact this
     have hnext:=ih f rfl
     unfold wpOpIn at h2 ⊢
     rw[hpop i hlt,ho] at h2
     rw[ho]
     simp only at h2 ⊢
     have hwant:Region.wanted o (yielded ops.pop a.tmps)=Region.wanted o (yielded ops a.tmps):=by
      unfold Region.wanted
      cases hg:o.guard with
      | none=>rfl
      | some g=>
       obtain⟨j,b⟩:=g
       simp only
       rw[yielded_pop ((hat i o ho).1 hlt j b hg)]
     rw[hwant] at h2
     have fin:∀a' w',wpAnyIn F n P .any ops.pop (fun e a w=>match e with | .normal=>wpOpIn F n P ops Q (ops.size-1) (Q .normal) a w | e=>Q e a w) f (listed.setIfInBounds i true) a' w'→wpAnyIn F n P .any ops Q (f+1) ((listed.push false).setIfInBounds i true) a' w':=by
      intro a' w' h3
      rw[hset]
      exact hnext _ a' w' (by simp[hs]) hcl' h3
     split
     ·rename_i hw
      rw[if_pos hw] at h2
      exact Oper.wpIn_mono fin (Oper.wpIn_monoQ (fun _ _ _ h=>h) (fun _ _ h=>h) h2)
     ·rename_i hw
      rw[if_neg hw] at h2
      exact⟨h2.1,fin _ _ h2.2⟩
   ·obtain rfl:i=ops.size-1:=by omega
    have hia:∀e,e∈o.after→Region.binds .any e=true→doneOf listed e.on=true:=fun e he hb=>by
     have h2:=ha e he hb
     have h3:=(hat _ o ho).2 e he hb
     rwa [hget listed e.on hs h3] at h2
    have hdone:∀j,j<ops.size-1→doneOf listed j=true:=fun j hj=>masks_spec hcl ho hia (hlast j hj)
    have hnil:Region.ready .any ops.pop listed=[]:=by
     cases hr:Region.ready .any ops.pop listed with
     | nil=>rfl
     | cons j l=>
      have hmem:j∈Region.ready .any ops.pop listed:=by rw[hr];simp
      obtain⟨h3,o',ho',_⟩:=mem_ready.1 hmem
      have hj:j<ops.size-1:=by simpa using(Array.getElem?_eq_some_iff.1 ho').1
      rw[hgd j hj] at h3
      have:=hdone j hj
      simp only[doneOf] at this
      rw[this] at h3
      cases h3
    have hq:wpOpIn F n P ops Q (ops.size-1) (Q .normal) a w:=by
     cases fuel with
     | zero=>exact h.2
     | succ f=>exact h.1 hnil
    refine wpOpIn_mono (fun a' w' hq'=>?_) hq
    have hall':Region.ready .any ops ((listed.push false).setIfInBounds (ops.size-1) true)=[]:=by
     cases hr:Region.ready .any ops ((listed.push false).setIfInBounds (ops.size-1) true) with
     | nil=>rfl
     | cons j l=>
      have hmem:j∈Region.ready .any ops ((listed.push false).setIfInBounds (ops.size-1) true):=by rw[hr];simp
      obtain⟨h3,o',ho',_⟩:=mem_ready.1 hmem
      have hj:j<ops.size:=(Array.getElem?_eq_some_iff.1 ho').1
      simp only[Array.getD_eq_getD_getElem?,Array.getElem?_setIfInBounds] at h3
      split at h3
      ·simp[hs] at h3
      ·rename_i hne
       have hj':j<ops.size-1:=by omega
       have:=hdone j hj'
       have h4:=hget listed j hs hj' true
       simp only[Array.getD_eq_getD_getElem?] at h4
       rw[h4] at h3
       simp only[doneOf,Array.getD_eq_getD_getElem?] at this
       rw[this] at h3
       cases h3
    cases fuel with
    | zero=>exact⟨hall',hq'⟩
    | succ f=>exact⟨fun _=>hq',fun j hj=>by rw[hall'] at hj;cases hj⟩
 have hgd:∀(listed:Array Bool) (j:Nat),listed.size=ops.size-1→j<ops.size-1→listed.getD j true=listed.getD j false:=fun listed j hs hj=>by
  simp only[Array.getD_eq_getD_getElem?]
  simp[show j<listed.size by omega]
 intro fuel
 induction fuel with
 | zero=>
  intro listed a w hs hcl h
  exact step 0 listed a w hs hcl h fun f hf=>by omega
 | succ fuel ih=>
  intro listed a w hs hcl h
  exact step (fuel+1) listed a w hs hcl h fun f hf=>by
   obtain rfl:f=fuel:=by omega
   exact ih

end
end
end Go.Am

/-
 Where ways meet: one symbolic state fits a more general one,whose new names stand for data.
-/
namespace Go.Am
noncomputable section

def E.upto (n:Nat):E→Bool
 | .sym k=>decide (k<n)
 | .const _ | .nil | .tnil=>true
 | .bin _ _ a b | .idx a b | .idxN _ a b | .cons a b | .app _ _ a b | .lcons a b | .mkfn _ a b | .guard a _ b | .tcons a b | .mm _ a b | .eaddr _ a b | .ld _ _ a b | .newb _ _ a b | .newv _ _ a b | .fstsl a b | .frzv _ a b | .frzh a b=>a.upto n&&b.upto n
 | .un _ a | .conv _ a | .lenL a | .lenS a | .scal a | .cell _ a | .cells _ _ a | .aggN _ a | .one a | .tget _ a | .rep _ a _ | .deref a | .ifc _ a | .mkptr a | .padd _ a | .nn a | .fstid a=>a.upto n
 | .sub _ a b c | .ite a b c | .sto _ a b c | .apph _ _ _ a b c | .apps a b c=>a.upto n&&b.upto n&&c.upto n
 | .set a b _ c=>a.upto n&&b.upto n&&c.upto n
 | .m4 _ a b c d=>a.upto n&&b.upto n&&c.upto n&&d.upto n

theorem E.eval_upto {n : Nat} {env env' : List D} (h : ∀ k, k < n → env[k]? = env'[k]?) : ∀ {x : E}, x.upto n = true → x.eval env = x.eval env' := by
 intro x
 induction x <;> intro hb <;> simp only [E.upto, Bool.and_eq_true, decide_eq_true_eq] at hb <;> simp only [E.eval]
 case sym k => exact h k hb
 all_goals first
  | rfl
  | (rename_i ih; rw [ih hb])
  | (rename_i i1 i2; rw [i1 hb.1, i2 hb.2])
  | (rename_i i1 i2 i3; rw [i1 hb.1.1, i2 hb.1.2, i3 hb.2])
  | (rename_i i1 i2 i3 i4; rw [i1 hb.1.1.1, i2 hb.1.1.2, i3 hb.1.2, i4 hb.2])

mutual
def SV.upto (n:Nat):SV→Bool
 | .junk | .addr _ _ | .slc _=>true
 | .e x _ | .eaddr _ x _ _ | .iptr x _ | .own x _=>x.upto n
 | .agg cs | .tup cs=>SV.uptoAll n cs
 | .func _ cs=>SV.uptoAll n cs
 | .cond act sv=>act.all (fun p=>p.1.upto n)&&sv.upto n
def SV.uptoAll (n:Nat):List SV→Bool
 | []=>true
 | s :: r=>s.upto n&&SV.uptoAll n r
end

theorem SV.uptoAll_get {n:Nat}:∀{cs:List SV} {i:Nat} {c:SV},SV.uptoAll n cs=true→cs[i]? = some c→c.upto n=true
 | [],i,c,_,h=>by simp at h
 | s :: r,0,c,h,hi=>by simp[SV.uptoAll] at h hi;exact hi ▸ h.1
 | s :: r,i+1,c,h,hi=>by simp[SV.uptoAll] at h hi;exact SV.uptoAll_get h.2 hi

theorem SRd.cut {w:World}{ρ:Rho}{n:Nat}{env env':List D}{v:Value}{sv:SV}(h:SRd w ρ env v sv)(he:∀k,k<n→env[k]? = env'[k]?)(hb:sv.upto n=true):SRd w ρ env' v sv:=by
 induction h with
 | junk=>exact .junk
 | e hx h h1=>exact .e ((E.eval_upto he (by simpa[SV.upto] using hb)) ▸ hx) h h1
 | agg hl ho _ ih=>exact .agg hl ho fun i v c hv hc=>ih i v c hv hc (SV.uptoAll_get (by simpa[SV.upto] using hb) hc)
 | tup hl _ ih=>exact .tup hl fun i v c hv hc=>ih i v c hv hc (SV.uptoAll_get (by simpa[SV.upto] using hb) hc)
 | addr=>exact .addr
 | eaddr hx=>exact .eaddr ((E.eval_upto he (by simpa[SV.upto] using hb)) ▸ hx)
 | iptr hx h=>exact .iptr ((E.eval_upto he (by simpa[SV.upto] using hb)) ▸ hx) h
 | own hx h hv=>exact .own ((E.eval_upto he (by simpa[SV.upto] using hb)) ▸ hx) h hv
 | slc=>exact .slc
 | func hl _ ih=>exact .func hl fun i v c hv hc=>ih i v c hv hc (SV.uptoAll_get (by simpa[SV.upto] using hb) hc)
 | @cond v act sv hd _ hn ih=>
  simp only[SV.upto,Bool.and_eq_true,List.all_eq_true] at hb
  have hev:∀p,p∈act→p.1.eval env=p.1.eval env':=fun p hp=>E.eval_upto he (hb.1 p hp)
  have hact:actHolds env act↔actHolds env' act:=⟨fun h p hp=>(hev p hp) ▸ h p hp,fun h p hp=>(hev p hp).symm ▸ h p hp⟩
  exact .cond (fun p hp=>let ⟨d,h⟩:=hd p hp;⟨d,(hev p hp) ▸ h⟩) (fun ha=>ih (hact.2 ha) hb.2) fun ha=>hn fun h=>ha (hact.1 h)

def isPhi (base n:Nat):E→Bool
 | .sym k=>decide (k=base+n)
 | _=>false

mutual
def matchSV (base:Nat):SV→SV→List E→Option (List E)
 | .junk,_,acc=>some acc
 | .e x s,sv,acc=>
  if isPhi base acc.length x then(match s,sv with
   | true,.e y true=>some (acc++[y])
   | true,.own y _=>some (acc++[y])
   | false,sv=>sv.toE.map fun y=>acc++[y]
   | _,_=>none)
  else if(SV.e x s).same sv&&x.upto base then some acc else none
 | .own x k,sv,acc=>
  if isPhi base acc.length x then(match sv with
   | .own y k'=>if k=k' then some (acc++[y]) else none
   | _=>none)
  else if(SV.own x k).same sv&&x.upto base then some acc else none
 | .agg ts,sv,acc=>match sv with
  | .agg cs=>matchSVs base ts cs acc
  | _=>none
 | .tup ts,sv,acc=>if(SV.tup ts).same sv&&SV.uptoAll base ts then some acc else none
 | .addr o f,sv,acc=>if(SV.addr o f).same sv then some acc else none
 | .eaddr o x s f,sv,acc=>if(SV.eaddr o x s f).same sv&&x.upto base then some acc else none
 | .iptr x f,sv,acc=>if(SV.iptr x f).same sv&&x.upto base then some acc else none
 | .slc o,sv,acc=>if(SV.slc o).same sv then some acc else none
 | .func fn ts,sv,acc=>if(SV.func fn ts).same sv&&SV.uptoAll base ts then some acc else none
 | .cond _ _,_,_=>none
def matchSVs (base:Nat):List SV→List SV→List E→Option (List E)
 | [],[],acc=>some acc
 | t :: ts,s :: ss,acc=>(matchSV base t s acc).bind fun acc=>matchSVs base ts ss acc
 | _,_,_=>none
end

def matchObj (base:Nat):SObj→SObj→List E→Option (List E)
 | .box ts,.box cs,acc=>matchSVs base ts cs acc
 | .row x sz,.row y sz',acc=>if sz=sz' then(if isPhi base acc.length x then some (acc++[y]) else if x.same y&&x.upto base then some acc else none) else none
 | .tok e sz,.tok e' sz',acc=>if e=e'∧sz=sz' then some acc else none
 | .store cf x,.store cf' y,acc=>if cf=cf' then(if isPhi base acc.length x then some (acc++[y]) else if x.same y&&x.upto base then some acc else none) else none
 | _,_,_=>none

def matchMem (base:Nat):List (Option SObj)→List (Option SObj)→List E→Option (List E)
 | [],[],acc=>some acc
 | none :: ts,_ :: ss,acc=>matchMem base ts ss acc
 | some t :: ts,some s :: ss,acc=>(matchObj base t s acc).bind fun acc=>matchMem base ts ss acc
 | _,_,_=>none

def matchH (base:Nat):Option SObj→Option SObj→List E→Option (List E)
 | none,_,acc=>some acc
 | some t,some s,acc=>matchObj base t s acc
 | _,_,_=>none

def matchS (base:Nat)(tm σ:SState):Option (List E):=if HID<tm.mem.length then none else
 (matchSVs base tm.tmps σ.tmps []).bind fun acc=>(matchMem base tm.mem σ.mem acc).bind fun acc=>matchH base tm.hs σ.hs acc

section
variable {w w0:World} {X:Ent} {a:Act} {env:List D} {ρ:Rho}

theorem evalAll_append:∀{l m:List E} {ds:List D},evalAll env (l++m)=some ds→∃d1 d2,evalAll env l=some d1∧evalAll env m=some d2∧ds=d1++d2
 | [],m,ds,h=>⟨[],ds,rfl,h,rfl⟩
 | x :: r,m,ds,h=>by
  simp only[List.cons_append,evalAll,Option.bind_eq_some_iff,Option.map_eq_some_iff] at h
  obtain⟨d,h1,ds',h2,rfl⟩:=h
  obtain⟨d1,d2,h3,h4,rfl⟩:=evalAll_append h2
  exact⟨d :: d1,d2,by simp[evalAll,h1,h3],h4,rfl⟩

theorem evalAll_length:∀{l:List E} {ds:List D},evalAll env l=some ds→ds.length=l.length
 | [],ds,h=>by simp[evalAll] at h;simp[←h]
 | x :: r,ds,h=>by
  simp only[evalAll,Option.bind_eq_some_iff,Option.map_eq_some_iff] at h
  obtain⟨d,_,ds',h2,rfl⟩:=h
  simp[evalAll_length h2]

abbrev cutEnv (env:List D)(base:Nat)(ds:List D):List D:=env.take base++ds

theorem cutEnv_old {base:Nat}{ds:List D}(hb:base≤env.length):∀k,k<base→env[k]? = (cutEnv env base ds)[k]?:=by
 intro k hk
 rw[List.getElem?_append_left (by simp;omega),List.getElem?_take,if_pos hk]

theorem phi_eval {base:Nat}{acc accF:List E}{y x:E}{ds:List D}(hb:base≤env.length)(hx:isPhi base acc.length x=true)(hp:acc++[y] <+: accF)(hd:evalAll env accF=some ds):x.eval (cutEnv env base ds)=y.eval env:=by
 obtain⟨r,rfl⟩:=hp
 obtain⟨d1,d2,h1,_,rfl⟩:=evalAll_append hd
 obtain⟨d3,d4,h3,h4,rfl⟩:=evalAll_append h1
 simp only[evalAll,Option.bind_eq_some_iff,Option.map_some,Option.some.injEq] at h4
 obtain⟨d,hy,rfl⟩:=h4
 unfold isPhi at hx
 split at hx
 ·simp only[decide_eq_true_eq] at hx
  subst hx
  have hl:=evalAll_length h3
  simp only[E.eval,cutEnv,hy]
  rw[List.getElem?_append_right (by simp;omega)]
  simp only[List.length_take,Nat.min_eq_left hb,Nat.add_sub_cancel_left,List.append_assoc]
  rw[←hl]
  simp
 ·cases hx

theorem prefix_append' {α:Type}(a b:List α):a <+: a++b:=⟨b,rfl⟩

mutual
theorem matchSV_pre {base:Nat}:∀{t sv:SV} {acc acc':List E},matchSV base t sv acc=some acc'→acc <+: acc'
 | .junk,sv,acc,acc',h=>by simp[matchSV] at h;subst h;exact⟨[],by simp⟩
 | .e x s,sv,acc,acc',h=>by
  simp only[matchSV] at h
  split at h
  ·split at h
   ·cases h;exact prefix_append' _ _
   ·cases h;exact prefix_append' _ _
   ·obtain⟨y,_,rfl⟩:=Option.map_eq_some_iff.1 h;exact prefix_append' _ _
   ·cases h
  ·split at h
   ·cases h;exact⟨[],by simp⟩
   ·cases h
 | .own x k,sv,acc,acc',h=>by
  simp only[matchSV] at h
  split at h
  ·split at h
   ·split at h
    ·cases h;exact prefix_append' _ _
    ·cases h
   ·cases h
  ·split at h
   ·cases h;exact⟨[],by simp⟩
   ·cases h
 | .agg ts,sv,acc,acc',h=>by
  simp only[matchSV] at h
  split at h
  ·exact matchSVs_pre h
  ·cases h
 | .tup ts,sv,acc,acc',h | .addr _ _,sv,acc,acc',h | .eaddr _ _ _ _,sv,acc,acc',h | .iptr _ _,sv,acc,acc',h | .slc _,sv,acc,acc',h | .func _ _,sv,acc,acc',h=>by
  simp only[matchSV] at h
  split at h
  ·cases h;exact⟨[],by simp⟩
  ·cases h
 | .cond _ _,sv,acc,acc',h=>by simp[matchSV] at h
theorem matchSVs_pre {base:Nat}:∀{ts ss:List SV} {acc acc':List E},matchSVs base ts ss acc=some acc'→acc <+: acc'
 | [],[],acc,acc',h=>by simp[matchSVs] at h;subst h;exact⟨[],by simp⟩
 | t :: ts,s :: ss,acc,acc',h=>by
  simp only[matchSVs,Option.bind_eq_some_iff] at h
  obtain⟨acc1,h1,h2⟩:=h
  exact(matchSV_pre h1).trans (matchSVs_pre h2)
 | [],_ :: _,_,_,h | _ :: _,[],_,_,h=>by simp[matchSVs] at h
end


theorem SRd.same_rd {base:Nat}{ds:List D}{t sv:SV}{v:Value}(hb:base≤env.length)(h:t.same sv=true)(hu:t.upto base=true)(hr:SRd w ρ env v sv):SRd w ρ (cutEnv env base ds) v t:=by
 have e:=SV.same_eq h
 subst e
 exact hr.cut (cutEnv_old hb) hu

mutual
theorem matchSV_rd {base:Nat}{accF:List E}{ds:List D}(hb:base≤env.length)(hd:evalAll env accF=some ds):∀{t sv:SV} {acc acc':List E} {v:Value},matchSV base t sv acc=some acc'→acc' <+: accF→SRd w ρ env v sv→SRd w ρ (cutEnv env base ds) v t
 | .junk,sv,acc,acc',v,h,hp,hr=>.junk
 | .e x s,sv,acc,acc',v,h,hp,hr=>by
  simp only[matchSV] at h
  split at h
  ·rename_i hx
   split at h
   ·cases h
    obtain⟨d,hd',hrd,h1⟩:=hr.e_inv
    exact .e ((phi_eval hb hx hp hd).trans hd') hrd h1
   ·cases h
    obtain⟨es,hd',hrd,_⟩:=hr.own_inv
    exact .e ((phi_eval hb hx hp hd).trans hd') hrd fun _=>rfl
   ·obtain⟨y,hy,rfl⟩:=Option.map_eq_some_iff.1 h
    obtain⟨d,hd',hrd⟩:=SV.toE_rd hy hr
    exact .e ((phi_eval hb hx hp hd).trans hd') hrd (by simp)
   ·cases h
  ·split at h
   ·rename_i hc
    simp only[Bool.and_eq_true] at hc
    exact hr.same_rd hb hc.1 (by simpa[SV.upto] using hc.2)
   ·cases h
 | .own x k,sv,acc,acc',v,h,hp,hr=>by
  simp only[matchSV] at h
  split at h
  ·rename_i hx
   split at h
   ·split at h
    ·rename_i hk
     cases h
     subst hk
     obtain⟨es,hd',hrd,h1⟩:=hr.own_inv
     exact .own ((phi_eval hb hx hp hd).trans hd') hrd h1
    ·cases h
   ·cases h
  ·split at h
   ·rename_i hc
    simp only[Bool.and_eq_true] at hc
    exact hr.same_rd hb hc.1 (by simpa[SV.upto] using hc.2)
   ·cases h
 | .agg ts,sv,acc,acc',v,h,hp,hr=>by
  simp only[matchSV] at h
  split at h
  ·obtain⟨vs,rfl,hl,ho,hh⟩:=hr.agg_inv
   obtain⟨hlen,hall⟩:=matchSVs_rd (vs:=vs.toList) hb hd h hp (by simpa using hl) (fun i v c hv hc=>hh i v c (by simpa using hv) hc)
   exact .agg (by rw[hl,hlen]) ho fun i v c hv hc=>hall i v c (by simpa using hv) hc
  ·cases h
 | .tup ts,sv,acc,acc',v,h,hp,hr=>by
  simp only[matchSV] at h
  split at h
  ·rename_i hc
   simp only[Bool.and_eq_true] at hc
   exact hr.same_rd hb hc.1 (by simpa[SV.upto] using hc.2)
  ·cases h
 | .addr o f,sv,acc,acc',v,h,hp,hr=>by
  simp only[matchSV] at h
  split at h
  ·rename_i hc
   exact hr.same_rd hb hc (by simp[SV.upto])
  ·cases h
 | .eaddr o x s f,sv,acc,acc',v,h,hp,hr=>by
  simp only[matchSV] at h
  split at h
  ·rename_i hc
   simp only[Bool.and_eq_true] at hc
   exact hr.same_rd hb hc.1 (by simpa[SV.upto] using hc.2)
  ·cases h
 | .iptr x f,sv,acc,acc',v,h,hp,hr=>by
  simp only[matchSV] at h
  split at h
  ·rename_i hc
   simp only[Bool.and_eq_true] at hc
   exact hr.same_rd hb hc.1 (by simpa[SV.upto] using hc.2)
  ·cases h
 | .slc o,sv,acc,acc',v,h,hp,hr=>by
  simp only[matchSV] at h
  split at h
  ·rename_i hc
   exact hr.same_rd hb hc (by simp[SV.upto])
  ·cases h
 | .func fn ts,sv,acc,acc',v,h,hp,hr=>by
  simp only[matchSV] at h
  split at h
  ·rename_i hc
   simp only[Bool.and_eq_true] at hc
   exact hr.same_rd hb hc.1 (by simpa[SV.upto] using hc.2)
  ·cases h
 | .cond _ _,sv,acc,acc',v,h,hp,hr=>by simp[matchSV] at h
theorem matchSVs_rd {base:Nat}{accF:List E}{ds:List D}(hb:base≤env.length)(hd:evalAll env accF=some ds):∀{ts ss:List SV} {acc acc':List E} {vs:List Value},matchSVs base ts ss acc=some acc'→acc' <+: accF→vs.length=ss.length →
  (∀(i:Nat) (v:Value) (c:SV),vs[i]? = some v→ss[i]? = some c→SRd w ρ env v c)→ss.length=ts.length∧∀(i:Nat) (v:Value) (c:SV),vs[i]? = some v→ts[i]? = some c→SRd w ρ (cutEnv env base ds) v c
 | [],[],acc,acc',vs,h,hp,hl,hh=>⟨rfl,by simp⟩
 | t :: ts,s :: ss,acc,acc',vs,h,hp,hl,hh=>by
  match vs,hl with
  | v :: vs,hl=>
   simp only[matchSVs,Option.bind_eq_some_iff] at h
   obtain⟨acc1,h1,h2⟩:=h
   have hr:=matchSV_rd hb hd h1 ((matchSVs_pre h2).trans hp) (hh 0 v s rfl rfl)
   obtain⟨hlen,hall⟩:=matchSVs_rd (vs:=vs) hb hd h2 hp (by simpa using hl) (fun i v c hv hc=>hh (i+1) v c (by simpa using hv) (by simpa using hc))
   refine⟨by simp[hlen],fun i v' c hv hc=>?_⟩
   cases i with
   | zero=>simp at hv hc;subst hv hc;exact hr
   | succ i=>exact hall i v' c (by simpa using hv) (by simpa using hc)
 | [],_ :: _,_,_,_,h,_,_,_ | _ :: _,[],_,_,_,h,_,_,_=>by simp[matchSVs] at h
end

theorem matchObj_pre {base:Nat}{t s:SObj}{acc acc1:List E}(h1:matchObj base t s acc=some acc1):acc <+: acc1:=by
 unfold matchObj at h1
 split at h1
 ·exact matchSVs_pre h1
 ·split at h1
  ·split at h1
   ·cases h1;exact prefix_append' _ _
   ·split at h1
    ·cases h1;exact⟨[],by simp⟩
    ·cases h1
  ·cases h1
 ·split at h1
  ·cases h1;exact⟨[],by simp⟩
  ·cases h1
 ·split at h1
  ·split at h1
   ·cases h1;exact prefix_append' _ _
   ·split at h1
    ·cases h1;exact⟨[],by simp⟩
    ·cases h1
  ·cases h1
 ·cases h1

theorem matchH_pre {base:Nat}{t s:Option SObj}{acc acc1:List E}(h1:matchH base t s acc=some acc1):acc <+: acc1:=by
 unfold matchH at h1
 split at h1
 ·cases h1;exact⟨[],by simp⟩
 ·exact matchObj_pre h1
 ·cases h1

theorem matchMem_pre {base:Nat}:∀{ts ss:List (Option SObj)} {acc acc':List E},matchMem base ts ss acc=some acc'→acc <+: acc'
 | [],[],acc,acc',h=>by simp[matchMem] at h;subst h;exact⟨[],by simp⟩
 | none :: ts,_ :: ss,acc,acc',h=>by simp only[matchMem] at h;exact matchMem_pre h
 | some t :: ts,some s :: ss,acc,acc',h=>by
  simp only[matchMem,Option.bind_eq_some_iff] at h
  obtain⟨acc1,h1,h2⟩:=h
  exact List.IsPrefix.trans (matchObj_pre h1) (matchMem_pre h2)
 | some _ :: _,none :: _,_,_,h | [],_ :: _,_,_,h | some _ :: _,[],_,_,h | none :: _,[],_,_,h=>by simp[matchMem] at h

theorem matchObj_ok {base o:Nat}{accF:List E}{ds:List D}(hb:base≤env.length)(hd:evalAll env accF=some ds){t s:SObj}{acc acc':List E}(h:matchObj base t s acc=some acc')(hp:acc' <+: accF)(hok:ObjOk w ρ env o s) :
  ObjOk w ρ (cutEnv env base ds) o t∧objBlk ρ o t=objBlk ρ o s∧t.ro=s.ro:=by
 unfold matchObj at h
 split at h
 ·obtain⟨vs,ty,h1,h2,h3,h4,h5⟩:=hok
  obtain⟨hlen,hall⟩:=matchSVs_rd (w:=w) (ρ:=ρ) (vs:=vs.toList) hb hd h hp (by simpa using h2) (fun i v c hv hc=>h4 i v c (by simpa using hv) hc)
  exact⟨⟨vs,ty,h1,by omega,h3,fun i v c hv hc=>hall i v c (by simpa using hv) hc,h5⟩,rfl,rfl⟩
 ·obtain⟨vs,ty,es,h1,h2,h3⟩:=hok
  split at h
  ·rename_i hsz
   subst hsz
   split at h
   ·rename_i hx
    cases h
    exact⟨⟨vs,ty,es,h1,(phi_eval hb hx hp hd).trans h2,h3⟩,rfl,rfl⟩
   ·split at h
    ·rename_i hc
     simp only[Bool.and_eq_true] at hc
     cases h
     have e:=E.same_eq hc.1
     subst e
     exact⟨⟨vs,ty,es,h1,(E.eval_upto (cutEnv_old hb) hc.2) ▸ h2,h3⟩,rfl,rfl⟩
    ·cases h
  ·cases h
 ·split at h
  ·rename_i hc
   obtain⟨rfl,rfl⟩:=hc
   exact⟨hok,rfl,rfl⟩
  ·cases h
 ·obtain⟨bs,h2,h3⟩:=hok
  split at h
  ·rename_i hsz
   subst hsz
   split at h
   ·rename_i hx
    cases h
    exact⟨⟨bs,(phi_eval hb hx hp hd).trans h2,h3⟩,rfl,rfl⟩
   ·split at h
    ·rename_i hc
     simp only[Bool.and_eq_true] at hc
     cases h
     have e:=E.same_eq hc.1
     subst e
     exact⟨⟨bs,(E.eval_upto (cutEnv_old hb) hc.2) ▸ h2,h3⟩,rfl,rfl⟩
    ·cases h
  ·cases h
 ·cases h

theorem matchMem_rd {base:Nat}{accF:List E}{ds:List D}(hb:base≤env.length)(hd:evalAll env accF=some ds):∀{ts ss:List (Option SObj)} {acc acc':List E} {k:Nat},matchMem base ts ss acc=some acc'→acc' <+: accF →
  (∀i s,ss[i]? = some (some s)→ObjOk w ρ env (k+i) s)→ss.length=ts.length∧∀i t,ts[i]? = some (some t)→∃s,ss[i]? = some (some s)∧ObjOk w ρ (cutEnv env base ds) (k+i) t∧objBlk ρ (k+i) t=objBlk ρ (k+i) s∧t.ro=s.ro
 | [],[],acc,acc',k,h,hp,hok=>⟨rfl,by simp⟩
 | none :: ts,s :: ss,acc,acc',k,h,hp,hok=>by
  simp only[matchMem] at h
  obtain⟨hl,hall⟩:=matchMem_rd (k:=k+1) hb hd h hp fun i s' hs=>by
   have:=hok (i+1) s' (by simpa using hs)
   rwa [show k+(i+1)=k+1+i from by omega] at this
  refine⟨by simp[hl],fun i t ht=>?_⟩
  cases i with
  | zero=>simp at ht
  | succ i=>
   obtain⟨s',h1,h2⟩:=hall i t (by simpa using ht)
   rw[show k+(i+1)=k+1+i from by omega]
   exact⟨s',by simpa using h1,h2⟩
 | some t :: ts,some s :: ss,acc,acc',k,h,hp,hok=>by
  simp only[matchMem,Option.bind_eq_some_iff] at h
  obtain⟨acc1,h1,h2⟩:=h
  have h0:=matchObj_ok (w:=w) (ρ:=ρ) (o:=k) hb hd h1 ((matchMem_pre h2).trans hp) (by simpa using hok 0 s rfl)
  obtain⟨hl,hall⟩:=matchMem_rd (k:=k+1) hb hd h2 hp fun i s' hs=>by
   have:=hok (i+1) s' (by simpa using hs)
   rwa [show k+(i+1)=k+1+i from by omega] at this
  refine⟨by simp[hl],fun i t' ht=>?_⟩
  cases i with
  | zero=>simp at ht;subst ht;exact⟨s,rfl,h0⟩
  | succ i=>
   obtain⟨s',h3,h4⟩:=hall i t' (by simpa using ht)
   rw[show k+(i+1)=k+1+i from by omega]
   exact⟨s',by simpa using h3,h4⟩
 | some _ :: _,none :: _,_,_,_,h,_,_ | [],_ :: _,_,_,_,h,_,_ | some _ :: _,[],_,_,_,h,_,_ | none :: _,[],_,_,_,h,_,_=>by simp[matchMem] at h

theorem matchS_rep {base:Nat}{tm σ:SState}{args:List E}{ds:List D}(h:Rep w0 X w a σ env ρ)(hb:base≤env.length)(hm:matchS base tm σ=some args)(hd:evalAll env args=some ds):Rep w0 X w a tm (cutEnv env base ds) ρ∧σ.tmps.length=tm.tmps.length∧σ.mem.length=tm.mem.length:=by
 unfold matchS at hm
 split at hm
 ·cases hm
 rename_i hlen
 simp only[Option.bind_eq_some_iff] at hm
 obtain⟨acc,h1,acc2,h2,h2'⟩:=hm
 have hsz:=h.size
 obtain⟨hl1,hall1⟩:=matchSVs_rd (w:=w) (ρ:=ρ) (vs:=a.tmps.toList) hb hd h1 ((matchMem_pre h2).trans (matchH_pre h2')) (by simpa using hsz) (fun i v c hv hc=>by
  have:=h.tmps i
  rw[show σ.tmp i=c by simp[SState.tmp_def,hc]] at this
  rwa [show a.tmps.getD i undef=v by simpa using congrArg (·.getD undef) hv] at this)
 have hmlen:σ.mem.length=tm.mem.length:=by
  have go:∀{ts ss:List (Option SObj)} {acc acc':List E},matchMem base ts ss acc=some acc'→ss.length=ts.length:=by
   intro ts
   induction ts with
   | nil=>intro ss acc acc' h;cases ss with | nil=>rfl | cons _ _=>simp[matchMem] at h
   | cons t ts ih=>
    intro ss acc acc' h
    cases ss with
    | nil=>cases t <;> simp[matchMem] at h
    | cons s ss=>
     cases t with
     | none=>simp only[matchMem] at h;simp[ih h]
     | some t=>
      cases s with
      | none=>simp[matchMem] at h
      | some s=>
       simp only[matchMem,Option.bind_eq_some_iff] at h
       obtain⟨_,_,h⟩:=h
       simp[ih h]
  exact go h2
 obtain⟨hl2,hall2⟩:=matchMem_rd (w:=w) (ρ:=ρ) (k:=0) hb hd h2 (matchH_pre h2') (fun i s hs=>by
  rw[Nat.zero_add]
  have hi:=(List.getElem?_eq_some_iff.1 hs).1
  refine h.objs i s ?_
  simp only[SState.obj_def]
  rw[if_neg (by omega)]
  simp[hs])
 have hobj:∀o x,tm.obj o=some x→∃s,σ.obj o=some s∧ObjOk w ρ (cutEnv env base ds) o x∧objBlk ρ o x=objBlk ρ o s∧x.ro=s.ro:=by
  intro o x hx
  simp only[SState.obj_def] at hx
  split at hx
  ·rename_i ho
   subst ho
   rw[hx] at h2'
   unfold matchH at h2'
   split at h2'
   ·rename_i e;cases e
   ·rename_i t s e hs
    cases e
    have hso:σ.obj HID=some s:=by rw[SState.obj_def,if_pos rfl];exact hs
    exact⟨s,hso,matchObj_ok hb hd h2' ⟨[],by simp⟩ (h.objs HID s hso)⟩
   ·cases h2'
  ·rename_i ho
   have hx':tm.mem[o]? = some (some x):=by
    simp only[List.getD_eq_getElem?_getD] at hx
    cases hto:tm.mem[o]? with
    | none=>rw[hto] at hx;cases hx
    | some y=>rw[hto] at hx;simp at hx;rw[hx]
   obtain⟨s,h3,h4,h5⟩:=hall2 o x hx'
   rw[Nat.zero_add] at h4 h5
   refine⟨s,?_,h4,h5⟩
   simp only[SState.obj_def]
   rw[if_neg ho]
   simp[h3]
 refine⟨⟨by omega,fun t=>?_,fun o x hx=>(hobj o x hx).choose_spec.2.1,?_,?_,h.cells,h.os,h.tape,h.output,h.grown,h.old,h.sub,h.new,h.nod,h.hold⟩,hl1,hl2⟩
 ·simp only[SState.tmp_def]
  rw[List.getD_eq_getElem?_getD]
  cases ht:tm.tmps[t]? with
  | none=>exact .junk
  | some c=>
   have htl:t<a.tmps.size:=by have:=(List.getElem?_eq_some_iff.1 ht).1;omega
   refine hall1 t _ c ?_ ht
   simp only[Array.getElem?_toList]
   exact getD_of_lt htl
 ·intro o o' x x' b h3 h4 h5 h6
  obtain⟨s,hs,_,e,_⟩:=hobj o x h3
  obtain⟨s',hs',_,e',_⟩:=hobj o' x' h4
  exact h.inj o o' s s' b hs hs' (e ▸ h5) (e' ▸ h6)
 ·intro o x b h3 h4
  obtain⟨s,hs,_,e,er⟩:=hobj o x h3
  rw[er]
  exact h.own o s b hs (e ▸ h4)

end
end
end Go.Am

/-
 The right to append gets another name: the one that the pattern of a meeting place has.
-/
namespace Go.Am
noncomputable section

mutual
def SV.ren (k' k:Nat):SV→SV
 | .own x o=>if o=k' then .own x k else .own x o
 | .agg cs=>.agg (SV.rens k' k cs)
 | .tup cs=>.tup (SV.rens k' k cs)
 | .func fn cs=>.func fn (SV.rens k' k cs)
 | .cond act sv=>.cond act (sv.ren k' k)
 | .junk=>.junk
 | .e x s=>.e x s
 | .iptr x f=>.iptr x f
 | .addr o f=>.addr o f
 | .eaddr o x s f=>.eaddr o x s f
 | .slc o=>.slc o
def SV.rens (k' k:Nat):List SV→List SV
 | []=>[]
 | s :: r=>s.ren k' k :: SV.rens k' k r
end

theorem SV.rens_get {k' k:Nat}:∀{cs:List SV} {i:Nat} {c:SV},(SV.rens k' k cs)[i]? = some c→∃c',cs[i]? = some c'∧c=c'.ren k' k
 | [],i,c,h=>by simp[SV.rens] at h
 | s :: r,0,c,h=>by simp[SV.rens] at h;exact⟨s,rfl,h.symm⟩
 | s :: r,i+1,c,h=>by
  simp[SV.rens] at h
  obtain⟨c',h1,h2⟩:=SV.rens_get h
  exact⟨c',by simpa using h1,h2⟩

theorem SV.rens_length {k' k:Nat}:∀(cs:List SV),(SV.rens k' k cs).length=cs.length
 | []=>rfl
 | _ :: r=>by simp[SV.rens,SV.rens_length r]

def Rho.retok (ρ:Rho)(k' k:Nat):Rho:={ ρ with val:=fun x=>if x=k then ρ.val k' else ρ.val x }

theorem SRd.ren {w:World}{ρ:Rho}{env:List D}{v:Value}{sv:SV}{k' k:Nat}(h:SRd w ρ env v sv)(ha:sv.avoids k=true):SRd w (ρ.retok k' k) env v (sv.ren k' k):=by
 induction h with
 | junk=>exact .junk
 | e hx h h1=>exact .e hx h h1
 | agg hl ho _ ih=>exact .agg (by rw[SV.rens_length];exact hl) ho fun i v c hv hc=>by obtain⟨c',h1,rfl⟩:=SV.rens_get hc;exact ih i v c' hv h1 (SV.avoidsAll_get (by simpa[SV.avoids] using ha) h1)
 | tup hl _ ih=>exact .tup (by rw[SV.rens_length];exact hl) fun i v c hv hc=>by obtain⟨c',h1,rfl⟩:=SV.rens_get hc;exact ih i v c' hv h1 (SV.avoidsAll_get (by simpa[SV.avoids] using ha) h1)
 | @addr o off=>
  have:(.pointer (some ⟨ρ.blk o,off,none⟩):Value)=.pointer (some ⟨(ρ.retok k' k).blk o,off,none⟩):=rfl
  rw[this];exact .addr
 | @eaddr o size off n x kd hx=>
  have:(.pointer (some ⟨ρ.blk o,n*size+off,none⟩):Value)=.pointer (some ⟨(ρ.retok k' k).blk o,n*size+off,none⟩):=rfl
  rw[this];exact .eaddr hx
 | iptr hx h=>exact .iptr hx h
 | @own v x o es hx h hv=>
  have hne:o≠k:=by simpa[SV.avoids] using ha
  simp only[SV.ren]
  split
  ·rename_i e;subst e
   exact .own hx h (by simp[Rho.retok,hv])
  ·exact .own hx h (by simp[Rho.retok,hne,hv])
 | @slc o=>
  have hne:o≠k:=by simpa[SV.avoids] using ha
  have:ρ.val o=(ρ.retok k' k).val o:=by simp[Rho.retok,hne]
  rw[this];exact .slc
 | func hl _ ih=>exact .func (by rw[SV.rens_length];exact hl) fun i v c hv hc=>by obtain⟨c',h1,rfl⟩:=SV.rens_get hc;exact ih i v c' hv h1 (SV.avoidsAll_get (by simpa[SV.avoids] using ha) h1)
 | cond hd _ hn ih=>exact .cond hd (fun hh=>ih hh (by simpa[SV.avoids] using ha)) hn

def SObj.ren (k' k:Nat):SObj→SObj
 | .box cs=>.box (SV.rens k' k cs)
 | x=>x

def SState.ren (k' k:Nat)(σ:SState)(x:SObj):SState:={ tmps:=SV.rens k' k σ.tmps,mem:=((σ.mem.map fun x=>x.map (SObj.ren k' k)).set k' none).set k (some x),hs:=σ.hs.map (SObj.ren k' k) }

def SState.retok (σ:SState)(k' k:Nat):SState:=
 if k'=k∨¬k<σ.mem.length∨k=HID∨k'=HID then σ else match(σ.down k).obj k' with
  | some (.tok e s)=>(σ.down k).ren k' k (.tok e s)
  | _=>σ

section
variable {w w0:World} {X:Ent} {a:Act} {σ:SState} {env:List D} {ρ:Rho}

theorem SState.ren_obj {k' k o:Nat}{x y:SObj}(hk:k<σ.mem.length)(hkH:k≠HID)(hkH':k'≠HID)(h:(σ.ren k' k x).obj o=some y):(o=k∧y=x)∨(o≠k∧o≠k'∧∃z,σ.obj o=some z∧y=z.ren k' k):=by
 simp only[SState.obj_def,SState.ren] at h ⊢
 by_cases hH:o=HID
 ·subst hH
  simp only[if_true] at h
  obtain⟨z,hz,rfl⟩:=Option.map_eq_some_iff.1 h
  exact .inr ⟨Ne.symm hkH,Ne.symm hkH',z,by simpa using hz,rfl⟩
 rw[if_neg hH] at h
 rw[if_neg hH]
 simp only[List.getD_eq_getElem?_getD,List.getElem?_set,List.length_set,List.getElem?_map,List.length_map] at h ⊢
 by_cases h1:k=o
 ·subst h1
  simp[hk] at h
  exact .inl ⟨rfl,h.symm⟩
 ·rw[if_neg h1] at h
  by_cases h2:k'=o
  ·rw[if_pos h2] at h
   split at h <;> simp at h
  ·rw[if_neg h2] at h
   refine .inr ⟨fun e=>h1 e.symm,fun e=>h2 e.symm,?_⟩
   cases ho:σ.mem[o]? with
   | none=>rw[ho] at h;simp at h
   | some z=>
    rw[ho] at h
    cases z with
    | none=>simp at h
    | some z=>simp at h;exact⟨z,rfl,h.symm⟩

theorem SState.ren_tmp {k' k:Nat}{x:SObj}(t:Nat):(σ.ren k' k x).tmp t=(σ.tmp t).ren k' k:=by
 have go:∀(l:List SV) (t:Nat),(SV.rens k' k l).getD t .junk=(l.getD t .junk).ren k' k:=by
  intro l
  induction l with
  | nil=>intro t;simp[SV.rens,SV.ren]
  | cons s r ih=>
   intro t
   cases t with
   | zero=>simp[SV.rens]
   | succ t=>simpa[SV.rens] using ih t
 rw[SState.tmp_def,SState.tmp_def];exact go σ.tmps t

theorem Rep.ren (h:Rep w0 X w a σ env ρ){k' k:Nat}{e:TypeId}{s:Nat}(hne:k'≠k)(hk:k<σ.mem.length)(hkH:k≠HID)(hkH':k'≠HID)(hav:σ.avoids k)(ho:σ.obj k'=some (.tok e s)):Rep w0 X w a (σ.ren k' k (.tok e s)) env (ρ.retok k' k):=by
 have hblk:∀(o:Nat) (z:SObj),o≠k→objBlk (ρ.retok k' k) o (z.ren k' k)=objBlk ρ o z:=by
  intro o z hok
  funext b
  cases z <;> simp[objBlk,Rho.retok,SObj.ren,hok]
 have hblkk:objBlk (ρ.retok k' k) k (.tok e s)=objBlk ρ k' (.tok e s):=by funext b;simp[objBlk,Rho.retok]
 refine⟨by simpa[SState.ren,SV.rens_length] using h.size,fun t=>by rw[SState.ren_tmp];exact(h.tmps t).ren (hav.1 t),?_,?_,?_,h.cells,h.os,h.tape,h.output,h.grown,h.old,h.sub,h.new,h.nod,h.hold⟩
 ·intro o y hy
  rcases SState.ren_obj hk hkH hkH' hy with⟨rfl,rfl⟩ | ⟨h1,h2,z,hz,rfl⟩
  ·obtain⟨n,xs,h3,h4⟩:=h.objs k' _ ho
   exact⟨n,xs,by simpa[Rho.retok] using h3,by simpa[Rho.retok] using h4⟩
  ·have hok:=h.objs o z hz
   cases z with
   | box cs=>
    obtain⟨vs,ty,h3,h4,h5,h6,h7⟩:=hok
    exact⟨vs,ty,h3,by rw[SV.rens_length];exact h4,h5,fun i v c hv hc=>by obtain⟨c',h8,rfl⟩:=SV.rens_get hc;exact(h6 i v c' hv h8).ren (SV.avoidsAll_get (by simpa[SObj.avoids] using hav.2 o _ hz) h8),h7⟩
   | row y sz=>
    obtain⟨vs,ty,es,h3,h4,h5,h6,h7,h8,h9⟩:=hok
    exact⟨vs,ty,es,h3,h4,h5,h6,h7,by simpa[Rho.retok,h1] using h8,h9⟩
   | tok e' sz=>
    obtain⟨n,xs,h3,h4⟩:=hok
    exact⟨n,xs,by simpa[Rho.retok,h1] using h3,by simpa[Rho.retok,h1] using h4⟩
   | store cf x=>exact hok
 ·intro o o' y y' b h1 h2 h3 h4
  rcases SState.ren_obj hk hkH hkH' h1 with⟨rfl,rfl⟩ | ⟨e1,e2,z,hz,rfl⟩ <;> rcases SState.ren_obj hk hkH hkH' h2 with⟨rfl,rfl⟩ | ⟨e3,e4,z',hz',rfl⟩
  ·rfl
  ·rw[hblkk] at h3
   rw[hblk o' z' e3] at h4
   exact absurd (h.inj k' o' _ z' b ho hz' h3 h4).symm e4
  ·rw[hblkk] at h4
   rw[hblk o z e1] at h3
   exact absurd (h.inj o k' z _ b hz ho h3 h4) e2
  ·rw[hblk o z e1] at h3
   rw[hblk o' z' e3] at h4
   exact h.inj o o' z z' b hz hz' h3 h4
 ·intro o y b h1 h2
  rcases SState.ren_obj hk hkH hkH' h1 with⟨rfl,rfl⟩ | ⟨e1,e2,z,hz,rfl⟩
  ·rw[hblkk] at h2
   exact h.own k' _ b ho h2
  ·rw[hblk o z e1] at h2
   (have:=h.own o z b hz h2;cases z <;> simpa[SObj.ren,SObj.ro] using this)

theorem Rep.retok (h:Rep w0 X w a σ env ρ)(k' k:Nat):∃ρ',Rep w0 X w a (σ.retok k' k) env ρ':=by
 unfold SState.retok
 split
 ·exact⟨ρ,h⟩
 ·rename_i hc
  simp only[not_or,Decidable.not_not] at hc
  split
  ·rename_i e s ho
   exact⟨_,(h.down k).ren hc.1 (by rw[(σ.down_len k).2];exact hc.2.1) hc.2.2.1 hc.2.2.2 (σ.down_avoids k) ho⟩
  ·exact⟨ρ,h⟩

theorem SState.retok_len (σ:SState)(k' k:Nat):(σ.retok k' k).tmps.length=σ.tmps.length∧(σ.retok k' k).mem.length=σ.mem.length:=by
 unfold SState.retok
 split
 ·exact⟨rfl,rfl⟩
 ·split
  ·simp[SState.ren,SV.rens_length,(σ.down_len k).1,(σ.down_len k).2]
  ·exact⟨rfl,rfl⟩

end
end
end Go.Am

/-
 From the model's code to the small language.
-/
namespace Go.Am
noncomputable section

/-! ## forgetting an object -/

def SV.purge (d:Nat)(sv:SV):SV:=
 match sv with
 | .junk=>.junk
 | .e x s=>.e x s
 | sv=>if sv.avoids d then sv else .junk

theorem SV.purge_def (d:Nat)(sv:SV):sv.purge d=if sv.avoids d then sv else .junk:=by
 cases sv <;> first | rfl | simp[SV.purge,SV.avoids]

def SObj.purge (d:Nat):SObj→SObj
 | .box cs=>.box (cs.map (SV.purge d))
 | x=>x

def SState.purge (d:Nat)(σ:SState):SState:=if d=HID then σ else { tmps:=rmap (SV.purge d) σ.tmps,mem:=rset none (rmap (fun x=>x.map (SObj.purge d)) σ.mem) d,hs:=σ.hs.map (SObj.purge d) }

theorem SState.purge_def (d:Nat)(σ:SState):σ.purge d=if d=HID then σ else { tmps:=σ.tmps.map (SV.purge d),mem:=(σ.mem.map fun x=>x.map (SObj.purge d)).set d none,hs:=σ.hs.map (SObj.purge d) }:=by
 unfold SState.purge
 rw[rmap_eq,rset_eq,rmap_eq]

def sites (ops:Array Oper):List Nat:=ops.toList.filterMap fun o=>if isNew o then o.dst else none

def purgeAll (ds:List Nat)(σ:SState):SState:=ds.foldl (fun σ d=>σ.purge d) σ

def opsOk (σ:SState)(ops:Array Oper):Bool:=ops.all fun o=>match o.dst with | some d=>decide (d<σ.tmps.length) | none=>true

def dregion (P:Program)(ops:Array Oper)(σ:SState)(u:Nat):Option (SState×List Bind):=
 match drun P ops ops.toList σ u with
 | some x=>if P.follows .mixedOrders=true then(if orderOk ops x.2.2 σ=true then extras P ops x.2.2 σ else extras2 P ops x.2.2 σ (u+x.2.1.length)).map fun xs=>(x.1,x.2.1++xs.map .ev) else none
 | none=>none

def panLast (P:Program)(ops:Array Oper)(σ:SState)(u:Nat):Bool:=
 match ops[ops.size-1]?,σ.hs with
 | some o,some (.store cf _)=>(match o.guard,o.op with
  | none,.call c=>(match c.callee with
   | .value f=>(match σ.opd f with
    | .func (.func f) []=>cf.pan.contains f&&lastOk ops&&(dregion P ops.pop σ u).isSome
    | _=>false)
   | _=>false)
  | _,_=>false)
 | _,_=>false

def dregionN (P:Program)(ops:Array Oper)(σ:SState)(u:Nat):Option (SState×List Bind):=if panLast P ops σ u=true then none else dregion P ops σ u

theorem dregionN_some {P:Program}{ops:Array Oper}{σ:SState}{u:Nat}{x:SState×List Bind}(h:dregionN P ops σ u=some x):dregion P ops σ u=some x:=by
 unfold dregionN at h
 split at h
 ·cases h
 ·exact h

def regionT (P:Program)(ops:Array Oper)(draw:Bool)(σ:SState)(u:Nat)(k:SKont):Option T:=
 let σ1:=purgeAll (sites ops) σ
 if !opsOk σ1 ops then none else
 if draw then
  match dregionN P ops σ1 u with
  | some x=>(k x.1 (u+x.2.length)).map (wrapBinds x.2)
  | none=>if 0<ops.size∧lastOk ops=true then match ops[ops.size-1]?,dregion P ops.pop σ1 u with
    | some o,some x=>(match sopOf P o x.1 with
     | some s=>if dstOk x.1 o then(sopT s o x.1 (u+x.2.length) k).map (wrapBinds x.2) else none
     | none=>none)
    | _,_=>none
   else none
 else segs P ops ops.toList σ1 u k

def panLastC (P:Program)(ops:Array Oper)(σ:SState):Bool:=
 match ops[ops.size-1]?,σ.hs with
 | some o,some (.store cf _)=>(match o.guard,o.op with
  | none,.call c=>(match c.callee with
   | .value f=>(match σ.opd f with
    | .func (.func f) []=>cf.pan.contains f
    | _=>false)
   | _=>false)
  | _,_=>false)
 | _,_=>false

def regionC (P:Program)(ops:Array Oper)(draw:Bool)(σ:SState)(u:Nat):Option (Option (Nat×SState)):=
 let σ1:=purgeAll (sites ops) σ
 if draw then
  match(if panLastC P ops σ1 then none else drun P ops ops.toList σ1 u) with
  | some x=>some (some (u+x.2.1.length,x.1))
  | none=>match ops[ops.size-1]?,drun P ops.pop ops.pop.toList σ1 u with
   | some o,some x=>segsC P ops [o] x.1 (u+x.2.1.length)
   | _,_=>none
 else segsC P ops ops.toList σ1 u

/-! ## tokens get the pattern's names -/

def tokPairs (ts:List SV):List SV→List (Nat×Nat):=
 List.rec (motive:=fun _=>List SV→List (Nat×Nat)) (fun _=>[]) (fun t _ ih ss=>match ss with
  | []=>[]
  | x :: ss=>match t with
   | .own _ k=>(match x with
    | .own _ k'=>(k',k) :: ih ss
    | _=>ih ss)
   | _=>ih ss) ts

def retoks (ps:List (Nat×Nat))(σ:SState):SState:=ps.foldl (fun σ p=>σ.retok p.1 p.2) σ

def undead (σ:SState):SV→SV
 | .own x k=>match σ.obj k with | some (.tok _ _)=>.own x k | _=>.e x true
 | sv=>sv

def SState.undead (σ:SState):SState:={ σ with tmps:=rmap (Go.Am.undead σ) σ.tmps }

theorem SState.undead_def (σ:SState):σ.undead={ σ with tmps:=σ.tmps.map (Go.Am.undead σ) }:=by
 unfold SState.undead
 rw[rmap_eq]

def matchR (base:Nat)(tm σ:SState):Option (List E):=matchS base tm (retoks (tokPairs tm.tmps σ.undead.tmps) σ.undead)

/-! ## patterns for the places where ways meet (nothing hangs on how they are found: 'matchS' looks) -/

def isScal:SV→Bool
 | .e _ true=>true
 | .own _ _=>true
 | _=>false

def ownOf:SV→Option Nat
 | .own _ k=>some k
 | _=>none

def isJunk:SV→Bool
 | .junk=>true
 | _=>false

def headsL (l:List (List SV)):List SV:=List.rec (motive:=fun _=>List SV) [] (fun x _ ih=>match x with
 | []=>ih
 | y :: _=>y :: ih) l

def tailL (l:List SV):List SV:=
 match l with
 | []=>[]
 | _ :: r=>r

def anyJunk (l:List SV):Bool:=List.rec (motive:=fun _=>Bool) false (fun x _ ih=>match x with
 | .junk=>true
 | _=>ih) l

def mergeSV (base n:Nat)(svs:List SV):SV×Nat:=
 match svs with
 | []=>(.junk,n)
 | .cond _ _ :: _=>(.junk,n)
 | s :: r=>
  if isJunk s||anyJunk r then(.junk,n)
  else if r.all (s.same ·)&&s.upto base then(s,n)
  else match ownOf s with
   | some k=>if r.all (fun x=>(ownOf x).isSome) then(.own (.sym (base+n)) k,n+1) else if r.all (fun x=>x.toE.isSome) then(.e (.sym (base+n)) (r.all isScal),n+1) else(.junk,n)
   | none=>if(s :: r).all (fun x=>x.toE.isSome) then(.e (.sym (base+n)) ((s :: r).all isScal),n+1) else(.junk,n)

def mergeSVs (base:Nat)(l:List SV):List (List SV)→Nat→List SV×Nat:=
 List.rec (motive:=fun _=>List (List SV)→Nat→List SV×Nat) (fun _ n=>([],n)) (fun s _ ih others n=>
  match mergeSV base n (s :: headsL others) with
 |(m,n1)=>match ih (rmap tailL others) n1 with
  |(ms,n2)=>(m :: ms,n2)) l

def boxesOf:List (Option SObj)→Option (List (List SV))
 | []=>some []
 | some (.box cs) :: r=>(boxesOf r).map (cs :: ·)
 | _=>none

def rowsOf (sz:Nat):List (Option SObj)→Option (List E)
 | []=>some []
 | some (.row x sz') :: r=>if sz=sz' then(rowsOf sz r).map (x :: ·) else none
 | _=>none

def toksOf (e sz:Nat):List (Option SObj)→Bool
 | []=>true
 | some (.tok e' sz') :: r=>decide (e=e')&&decide (sz=sz')&&toksOf e sz r
 | _=>false

def mergeMem (base:Nat):List (Option SObj)→List (List (Option SObj))→Nat→List (Option SObj)×Nat
 | [],_,n=>([],n)
 | x :: r,others,n=>
  let hs:=others.filterMap List.head?
  let (m,n1):Option SObj×Nat:=match x with
   | some (.box cs)=>(match boxesOf hs with
    | some css=>let (ms,n1):=mergeSVs base cs css n;(some (.box ms),n1)
    | none=>(none,n))
   | some (.row y sz)=>(match rowsOf sz hs with
    | some ys=>if ys.all (y.same ·)&&y.upto base then(some (.row y sz),n) else(some (.row (.sym (base+n)) sz),n+1)
    | none=>(none,n))
   | some (.tok e sz)=>if toksOf e sz hs then(some (.tok e sz),n) else(none,n)
   | _=>(none,n)
  let (ms,n2):=mergeMem base r (others.map List.tail) n1
  (m :: ms,n2)

def storesOf (cf:StCfg):List (Option SObj)→Option (List E)
 | []=>some []
 | some (.store cf' x) :: r=>if cf=cf' then(storesOf cf r).map (x :: ·) else none
 | _=>none

def mergeH (base:Nat)(x:Option SObj)(others:List (Option SObj))(n:Nat):Option SObj×Nat:=
 match x with
 | some (.store cf y)=>(match storesOf cf others with
  | some ys=>if ys.all (y.same ·)&&y.upto base then(some (.store cf y),n) else(some (.store cf (.sym (base+n))),n+1)
  | none=>(none,n))
 | _=>(none,n)

def alignTo (σ0 σ:SState):SState:=retoks (tokPairs σ0.tmps σ.undead.tmps) σ.undead

def mergeS (base:Nat)(σs:List SState):SState×Nat:=
 match(match σs with | []=>[] | σ :: r=>σ.undead :: r.map (alignTo σ.undead)) with
 | []=>({ tmps:=[],mem:=[],hs:=none },0)
 | σ :: r=>
  let (ts,n):=mergeSVs base σ.tmps (r.map (·.tmps)) 0
  let (ms,n):=mergeMem base σ.mem (r.map (·.mem)) n
  let (hs,n):=mergeH base σ.hs (r.map (·.hs)) n
  ({ tmps:=ts,mem:=ms,hs:=hs },n)

def completes:Code→Bool
 | .exit _ | .ret | .goto _ | .refuse _ | .loop _=>false
 | .seq a b=>completes a&&completes b
 | .cond _ a b=>completes a||completes b
 | _=>true

/-! ## all is evaluated ahead of use (so the kernel sees the same question twice) -/

def deepN {β:Type}(n:Nat)(K:Nat→β):β:=
 match n with
 | 0=>K 0
 | n+1=>K (Nat.succ n)

theorem deepN_eq {β:Type}(n:Nat)(K:Nat→β):deepN n K=K n:=by cases n <;> rfl

def deepB {β:Type}(b:Bool)(K:Bool→β):β:=
 match b with
 | true=>K true
 | false=>K false

theorem deepB_eq {β:Type}(b:Bool)(K:Bool→β):deepB b K=K b:=by cases b <;> rfl

def deepE {β:Type}(x:E):(E→β)→β:=
 E.rec (motive:=fun _=>(E→β)→β)
  (fun k K=>deepN k fun k=>K (.sym k))
  (fun d K=>K (.const d))
  (fun op kd a b iha ihb K=>iha fun a=>ihb fun b=>K (.bin op kd a b))
  (fun op a iha K=>iha fun a=>K (.un op a))
  (fun k a iha K=>iha fun a=>K (.conv k a))
  (fun a iha K=>iha fun a=>K (.lenL a))
  (fun a iha K=>iha fun a=>K (.lenS a))
  (fun a iha K=>iha fun a=>K (.scal a))
  (fun i a iha K=>deepN i fun i=>iha fun a=>K (.cell i a))
  (fun i n a iha K=>deepN i fun i=>deepN n fun n=>iha fun a=>K (.cells i n a))
  (fun n a iha K=>deepN n fun n=>iha fun a=>K (.aggN n a))
  (fun a i iha ihi K=>iha fun a=>ihi fun i=>K (.idx a i))
  (fun n a i iha ihi K=>deepN n fun n=>iha fun a=>ihi fun i=>K (.idxN n a i))
  (fun K=>K .nil)
  (fun a b iha ihb K=>iha fun a=>ihb fun b=>K (.cons a b))
  (fun a iha K=>iha fun a=>K (.one a))
  (fun size bytes a b iha ihb K=>deepN size fun size=>deepN bytes fun bytes=>iha fun a=>ihb fun b=>K (.app size bytes a b))
  (fun a b iha ihb K=>iha fun a=>ihb fun b=>K (.lcons a b))
  (fun a iha K=>iha fun a=>K (.mkptr a))
  (fun f a b iha ihb K=>iha fun a=>ihb fun b=>K (.mkfn f a b))
  (fun size a lo hi iha ihlo ihhi K=>deepN size fun size=>iha fun a=>ihlo fun lo=>ihhi fun hi=>K (.sub size a lo hi))
  (fun a i off x iha ihi ihx K=>iha fun a=>ihi fun i=>deepN off fun off=>ihx fun x=>K (.set a i off x))
  (fun c a b ihc iha ihb K=>ihc fun c=>iha fun a=>ihb fun b=>K (.ite c a b))
  (fun c want a ihc iha K=>ihc fun c=>deepB want fun want=>iha fun a=>K (.guard c want a))
  (fun K=>K .tnil)
  (fun a b iha ihb K=>iha fun a=>ihb fun b=>K (.tcons a b))
  (fun i a iha K=>deepN i fun i=>iha fun a=>K (.tget i a))
  (fun bytes n d ihn K=>deepN bytes fun bytes=>ihn fun n=>K (.rep bytes n d))
  (fun a iha K=>iha fun a=>K (.deref a))
  (fun t a iha K=>iha fun a=>K (.ifc t a))
  (fun max a b iha ihb K=>deepB max fun max=>iha fun a=>ihb fun b=>K (.mm max a b))
  (fun off a iha K=>deepN off fun off=>iha fun a=>K (.padd off a))
  (fun a iha K=>iha fun a=>K (.nn a))
  (fun size a i iha ihi K=>deepN size fun size=>iha fun a=>ihi fun i=>K (.eaddr size a i))
  (fun agg n h p ihh ihp K=>deepB agg fun agg=>deepN n fun n=>ihh fun h=>ihp fun p=>K (.ld agg n h p))
  (fun n h p y ihh ihp ihy K=>deepN n fun n=>ihh fun h=>ihp fun p=>ihy fun y=>K (.sto n h p y))
  (fun e sz h y ihh ihy K=>deepN sz fun sz=>ihh fun h=>ihy fun y=>K (.newb e sz h y))
  (fun h ihh K=>ihh fun h=>K (.fstid h))
  (fun e sz h l ihh ihl K=>deepN sz fun sz=>ihh fun h=>ihl fun l=>K (.newv e sz h l))
  (fun h l ihh ihl K=>ihh fun h=>ihl fun l=>K (.fstsl h l))
  (fun e sz bytes h x y ihh ihx ihy K=>deepN sz fun sz=>deepN bytes fun bytes=>ihh fun h=>ihx fun x=>ihy fun y=>K (.apph e sz bytes h x y))
  (fun h x y ihh ihx ihy K=>ihh fun h=>ihx fun x=>ihy fun y=>K (.apps h x y))
  (fun agg h x ihh ihx K=>deepB agg fun agg=>ihh fun h=>ihx fun x=>K (.frzv agg h x))
  (fun h x ihh ihx K=>ihh fun h=>ihx fun x=>K (.frzh h x))
  (fun op a b c d iha ihb ihc ihd K=>iha fun a=>ihb fun b=>ihc fun c=>ihd fun d=>K (.m4 op a b c d)) x

theorem deepE_sym {β:Type}(k:Nat)(K:E→β):deepE (.sym k) K=deepN k fun k=>K (.sym k):=rfl
theorem deepE_const {β:Type}(d:D)(K:E→β):deepE (.const d) K=K (.const d):=rfl
theorem deepE_bin {β:Type}(op:BinOp)(kd:Kd)(a:E)(b:E)(K:E→β):deepE (.bin op kd a b) K=deepE a fun a=>deepE b fun b=>K (.bin op kd a b):=rfl
theorem deepE_un {β:Type}(op:UnOp)(a:E)(K:E→β):deepE (.un op a) K=deepE a fun a=>K (.un op a):=rfl
theorem deepE_conv {β:Type}(k:IntKind)(a:E)(K:E→β):deepE (.conv k a) K=deepE a fun a=>K (.conv k a):=rfl
theorem deepE_lenL {β:Type}(a:E)(K:E→β):deepE (.lenL a) K=deepE a fun a=>K (.lenL a):=rfl
theorem deepE_lenS {β:Type}(a:E)(K:E→β):deepE (.lenS a) K=deepE a fun a=>K (.lenS a):=rfl
theorem deepE_scal {β:Type}(a:E)(K:E→β):deepE (.scal a) K=deepE a fun a=>K (.scal a):=rfl
theorem deepE_cell {β:Type}(i:Nat)(a:E)(K:E→β):deepE (.cell i a) K=deepN i fun i=>deepE a fun a=>K (.cell i a):=rfl
theorem deepE_cells {β:Type}(i:Nat)(n:Nat)(a:E)(K:E→β):deepE (.cells i n a) K=deepN i fun i=>deepN n fun n=>deepE a fun a=>K (.cells i n a):=rfl
theorem deepE_aggN {β:Type}(n:Nat)(a:E)(K:E→β):deepE (.aggN n a) K=deepN n fun n=>deepE a fun a=>K (.aggN n a):=rfl
theorem deepE_idx {β:Type}(a:E)(i:E)(K:E→β):deepE (.idx a i) K=deepE a fun a=>deepE i fun i=>K (.idx a i):=rfl
theorem deepE_idxN {β:Type}(n:Nat)(a:E)(i:E)(K:E→β):deepE (.idxN n a i) K=deepN n fun n=>deepE a fun a=>deepE i fun i=>K (.idxN n a i):=rfl
theorem deepE_nil {β:Type}(K:E→β):deepE .nil K=K .nil:=rfl
theorem deepE_cons {β:Type}(a:E)(b:E)(K:E→β):deepE (.cons a b) K=deepE a fun a=>deepE b fun b=>K (.cons a b):=rfl
theorem deepE_one {β:Type}(a:E)(K:E→β):deepE (.one a) K=deepE a fun a=>K (.one a):=rfl
theorem deepE_app {β:Type}(size:Nat)(bytes:Nat)(a:E)(b:E)(K:E→β):deepE (.app size bytes a b) K=deepN size fun size=>deepN bytes fun bytes=>deepE a fun a=>deepE b fun b=>K (.app size bytes a b):=rfl
theorem deepE_lcons {β:Type}(a:E)(b:E)(K:E→β):deepE (.lcons a b) K=deepE a fun a=>deepE b fun b=>K (.lcons a b):=rfl
theorem deepE_mkptr {β:Type}(a:E)(K:E→β):deepE (.mkptr a) K=deepE a fun a=>K (.mkptr a):=rfl
theorem deepE_mkfn {β:Type}(f:FuncId)(a:E)(b:E)(K:E→β):deepE (.mkfn f a b) K=deepE a fun a=>deepE b fun b=>K (.mkfn f a b):=rfl
theorem deepE_sub {β:Type}(size:Nat)(a:E)(lo:E)(hi:E)(K:E→β):deepE (.sub size a lo hi) K=deepN size fun size=>deepE a fun a=>deepE lo fun lo=>deepE hi fun hi=>K (.sub size a lo hi):=rfl
theorem deepE_set {β:Type}(a:E)(i:E)(off:Nat)(x:E)(K:E→β):deepE (.set a i off x) K=deepE a fun a=>deepE i fun i=>deepN off fun off=>deepE x fun x=>K (.set a i off x):=rfl
theorem deepE_ite {β:Type}(c:E)(a:E)(b:E)(K:E→β):deepE (.ite c a b) K=deepE c fun c=>deepE a fun a=>deepE b fun b=>K (.ite c a b):=rfl
theorem deepE_guard {β:Type}(c:E)(want:Bool)(a:E)(K:E→β):deepE (.guard c want a) K=deepE c fun c=>deepB want fun want=>deepE a fun a=>K (.guard c want a):=rfl
theorem deepE_tnil {β:Type}(K:E→β):deepE .tnil K=K .tnil:=rfl
theorem deepE_tcons {β:Type}(a:E)(b:E)(K:E→β):deepE (.tcons a b) K=deepE a fun a=>deepE b fun b=>K (.tcons a b):=rfl
theorem deepE_tget {β:Type}(i:Nat)(a:E)(K:E→β):deepE (.tget i a) K=deepN i fun i=>deepE a fun a=>K (.tget i a):=rfl
theorem deepE_rep {β:Type}(bytes:Nat)(n:E)(d:D)(K:E→β):deepE (.rep bytes n d) K=deepN bytes fun bytes=>deepE n fun n=>K (.rep bytes n d):=rfl
theorem deepE_deref {β:Type}(a:E)(K:E→β):deepE (.deref a) K=deepE a fun a=>K (.deref a):=rfl
theorem deepE_ifc {β:Type}(t:TypeId)(a:E)(K:E→β):deepE (.ifc t a) K=deepE a fun a=>K (.ifc t a):=rfl
theorem deepE_mm {β:Type}(max:Bool)(a:E)(b:E)(K:E→β):deepE (.mm max a b) K=deepB max fun max=>deepE a fun a=>deepE b fun b=>K (.mm max a b):=rfl
theorem deepE_padd {β:Type}(off:Nat)(a:E)(K:E→β):deepE (.padd off a) K=deepN off fun off=>deepE a fun a=>K (.padd off a):=rfl
theorem deepE_nn {β:Type}(a:E)(K:E→β):deepE (.nn a) K=deepE a fun a=>K (.nn a):=rfl
theorem deepE_eaddr {β:Type}(size:Nat)(a:E)(i:E)(K:E→β):deepE (.eaddr size a i) K=deepN size fun size=>deepE a fun a=>deepE i fun i=>K (.eaddr size a i):=rfl
theorem deepE_ld {β:Type}(agg:Bool)(n:Nat)(h:E)(p:E)(K:E→β):deepE (.ld agg n h p) K=deepB agg fun agg=>deepN n fun n=>deepE h fun h=>deepE p fun p=>K (.ld agg n h p):=rfl
theorem deepE_sto {β:Type}(n:Nat)(h:E)(p:E)(y:E)(K:E→β):deepE (.sto n h p y) K=deepN n fun n=>deepE h fun h=>deepE p fun p=>deepE y fun y=>K (.sto n h p y):=rfl
theorem deepE_newb {β:Type}(e:TypeId)(sz:Nat)(h:E)(y:E)(K:E→β):deepE (.newb e sz h y) K=deepN sz fun sz=>deepE h fun h=>deepE y fun y=>K (.newb e sz h y):=rfl
theorem deepE_fstid {β:Type}(h:E)(K:E→β):deepE (.fstid h) K=deepE h fun h=>K (.fstid h):=rfl
theorem deepE_newv {β:Type}(e:TypeId)(sz:Nat)(h:E)(l:E)(K:E→β):deepE (.newv e sz h l) K=deepN sz fun sz=>deepE h fun h=>deepE l fun l=>K (.newv e sz h l):=rfl
theorem deepE_fstsl {β:Type}(h:E)(l:E)(K:E→β):deepE (.fstsl h l) K=deepE h fun h=>deepE l fun l=>K (.fstsl h l):=rfl
theorem deepE_apph {β:Type}(e:TypeId)(sz:Nat)(bytes:Nat)(h:E)(x:E)(y:E)(K:E→β):deepE (.apph e sz bytes h x y) K=deepN sz fun sz=>deepN bytes fun bytes=>deepE h fun h=>deepE x fun x=>deepE y fun y=>K (.apph e sz bytes h x y):=rfl
theorem deepE_apps {β:Type}(h:E)(x:E)(y:E)(K:E→β):deepE (.apps h x y) K=deepE h fun h=>deepE x fun x=>deepE y fun y=>K (.apps h x y):=rfl
theorem deepE_frzv {β:Type}(agg:Bool)(h:E)(x:E)(K:E→β):deepE (.frzv agg h x) K=deepB agg fun agg=>deepE h fun h=>deepE x fun x=>K (.frzv agg h x):=rfl
theorem deepE_frzh {β:Type}(h:E)(x:E)(K:E→β):deepE (.frzh h x) K=deepE h fun h=>deepE x fun x=>K (.frzh h x):=rfl
theorem deepE_m4 {β:Type}(op:MOp)(a:E)(b:E)(c:E)(d:E)(K:E→β):deepE (.m4 op a b c d) K=deepE a fun a=>deepE b fun b=>deepE c fun c=>deepE d fun d=>K (.m4 op a b c d):=rfl

theorem deepE_eq {β : Type} (x : E) : ∀ K : E → β, deepE x K = K x := by
  induction x <;> intro K <;> simp only [deepN_eq, deepB_eq, deepE_sym, deepE_const, deepE_bin, deepE_un, deepE_conv, deepE_lenL, deepE_lenS, deepE_scal, deepE_cell, deepE_cells, deepE_aggN, deepE_idx, deepE_idxN, deepE_nil, deepE_cons, deepE_one, deepE_app, deepE_lcons, deepE_mkptr, deepE_mkfn, deepE_sub, deepE_set, deepE_ite, deepE_guard, deepE_tnil, deepE_tcons, deepE_tget, deepE_rep, deepE_deref, deepE_ifc, deepE_mm, deepE_padd, deepE_nn, deepE_eaddr, deepE_ld, deepE_sto, deepE_newb, deepE_fstid, deepE_newv, deepE_fstsl, deepE_apph, deepE_apps, deepE_frzv, deepE_frzh, deepE_m4, *]

def deepAct {β : Type} : List (E × Bool) → (List (E × Bool) → β) → β
  | [], K => K []
  | (x, b) :: r, K => deepE x fun x => deepB b fun b => deepAct r fun r => K ((x, b) :: r)

theorem deepAct_eq {β : Type} : ∀ (l : List (E × Bool)) (K : List (E × Bool) → β), deepAct l K = K l
  | [], _ => rfl
  | (x, b) :: r, K => by simp only [deepAct, deepE_eq, deepB_eq, deepAct_eq r]

mutual
def deepSV {β:Type}:SV→(SV→β)→β
 | .junk,K=>K .junk
 | .e x s,K=>deepE x fun x=>deepB s fun s=>K (.e x s)
 | .agg cs,K=>deepSVs cs fun cs=>K (.agg cs)
 | .tup vs,K=>deepSVs vs fun vs=>K (.tup vs)
 | .addr o off,K=>deepN o fun o=>deepN off fun off=>K (.addr o off)
 | .eaddr o i s off,K=>deepN o fun o=>deepE i fun i=>deepN s fun s=>deepN off fun off=>K (.eaddr o i s off)
 | .iptr x off,K=>deepE x fun x=>deepN off fun off=>K (.iptr x off)
 | .own x n,K=>deepE x fun x=>deepN n fun n=>K (.own x n)
 | .slc o,K=>deepN o fun o=>K (.slc o)
 | .func fn cap,K=>deepSVs cap fun cap=>K (.func fn cap)
 | .cond act sv,K=>deepAct act fun act=>deepSV sv fun sv=>K (.cond act sv)
def deepSVs {β:Type}:List SV→(List SV→β)→β
 | [],K=>K []
 | x :: r,K=>deepSV x fun x=>deepSVs r fun r=>K (x :: r)
end

mutual
theorem deepSV_eq {β:Type}:∀(x:SV) (K:SV→β),deepSV x K=K x
 | .junk,K=>by simp only[deepSV]
 | .e x s,K=>by simp only[deepSV,deepE_eq,deepB_eq]
 | .agg cs,K=>by simp only[deepSV,deepSVs_eq cs]
 | .tup vs,K=>by simp only[deepSV,deepSVs_eq vs]
 | .addr o off,K=>by simp only[deepSV,deepN_eq]
 | .eaddr o i s off,K=>by simp only[deepSV,deepN_eq,deepE_eq]
 | .iptr x off,K=>by simp only[deepSV,deepN_eq,deepE_eq]
 | .own x n,K=>by simp only[deepSV,deepN_eq,deepE_eq]
 | .slc o,K=>by simp only[deepSV,deepN_eq]
 | .func fn cap,K=>by simp only[deepSV,deepSVs_eq cap]
 | .cond act sv,K=>by simp only[deepSV,deepAct_eq,deepSV_eq sv]
theorem deepSVs_eq {β:Type}:∀(l:List SV) (K:List SV→β),deepSVs l K=K l
 | [],K=>by simp only[deepSVs]
 | x :: r,K=>by simp only[deepSVs,deepSV_eq x,deepSVs_eq r]
end

def deepV {β:Type}(x:SV)(K:SV→β):β:=
 match x with
 | .junk=>K .junk
 | .e x s=>deepE x fun x=>deepB s fun s=>K (.e x s)
 | x=>deepSV x K

theorem deepV_eq {β:Type}(x:SV)(K:SV→β):deepV x K=K x:=by
 cases x <;> first | rfl | simp only[deepV,deepE_eq,deepB_eq,deepSV_eq]

def deepL {α β:Type}(f:α→(α→β)→β)(l:List α):(List α→β)→β:=List.rec (motive:=fun _=>(List α→β)→β) (fun K=>K []) (fun x _ ih K=>f x fun x=>ih fun r=>K (x :: r)) l

theorem deepL_eq {α β:Type}{f:α→(α→β)→β}(hf:∀x k,f x k=k x):∀(l:List α) (K:List α→β),deepL f l K=K l
 | [],_=>rfl
 | x :: r,K=>by
  show(f x fun x=>deepL f r fun r=>K (x :: r))=_
  rw[hf,deepL_eq hf r]

def deepObj {β:Type}(x:Option SObj)(K:Option SObj→β):β:=
 match x with
 | none=>K none
 | some (.box cs)=>deepSVs cs fun cs=>K (some (.box cs))
 | some (.row x n)=>deepE x fun x=>deepN n fun n=>K (some (.row x n))
 | some (.tok e n)=>deepN e fun e=>deepN n fun n=>K (some (.tok e n))
 | some (.store cf h)=>deepE h fun h=>K (some (.store cf h))

theorem deepObj_eq {β:Type}(x:Option SObj)(K:Option SObj→β):deepObj x K=K x:=by
 cases x with
 | none=>rfl
 | some y=>cases y <;> simp only[deepObj,deepSVs_eq,deepE_eq,deepN_eq]

def deepS {β:Type}(u:Nat)(σ:SState)(K:Nat→SState→β):β:=
 deepN u fun u=>deepL deepV σ.tmps fun ts=>deepL deepObj σ.mem fun ms=>deepObj σ.hs fun hs=>K u { tmps:=ts,mem:=ms,hs:=hs }

theorem deepS_eq {β:Type}(u:Nat)(σ:SState)(K:Nat→SState→β):deepS u σ K=K u σ:=by
 unfold deepS
 rw[deepN_eq,deepL_eq deepV_eq,deepL_eq deepObj_eq,deepObj_eq]

structure Outs where
 normal:Option (Nat×SState)
 exits:List (Nat×SState)

def quitOf:Code→List (Option Nat)
 | .seq a b | .cond _ a b=>quitOf a++(quitOf b).filter fun q=>!(quitOf a).contains q
 | .block id b=>(quitOf b).filter (·!= some id)
 | .loop b | .rangeFunc _ _ _ b=>quitOf b
 | .exit id=>[some id]
 | .ret=>[none]
 | _=>[]

def qCode:Option Nat→Code
 | none=>.ret
 | some id=>.exit id

def fixTm (body:Nat→SState→Option Outs)(u:Nat)(σ0:SState):Nat→SState×Nat→Option (SState×Nat)
 | 0,tm=>some tm
 | k+1,tm=>deepS (u+tm.2) tm.1 fun u1 σ1=>match body u1 σ1 with
  | none=>none
  | some o=>
   let tm':=mergeS u (σ0 :: (match o.normal with | some x=>[x.2] | none=>[]))
   if tm'.2=tm.2 then some tm' else fixTm body u σ0 k tm'

def collect (P:Program):Code→Nat→SState→Option Outs
 | .skip,u,σ | .label _,u,σ=>some ⟨some (u,σ),[]⟩
 | .region id ops draw,u,σ=>(regionC P ops draw (frzAt id σ) u).bind fun x=>match x with
  | none=>some ⟨none,[]⟩
  | some (u,σ)=>deepS u σ fun u σ=>some ⟨some (u,σ),[]⟩
 | .seq a b,u,σ=>(collect P a u σ).bind fun r1=>match r1.normal with
  | none=>some r1
  | some (u1,σ1)=>(collect P b u1 σ1).map fun r2=>⟨r2.normal,r1.exits++r2.exits⟩
 | .cond _ a b,u,σ=>deepS u σ fun u σ=>(collect P a u σ).bind fun ra=>(collect P b u σ).map fun rb=>match ra.normal,rb.normal with
  | some x,some y=>let (tm,n):=mergeS u [x.2,y.2];⟨some (u+n,tm),ra.exits++rb.exits⟩
  | some x,none=>⟨some x,ra.exits++rb.exits⟩
  | none,y=>⟨y,ra.exits++rb.exits⟩
 | .block id body,u,σ=>deepS u σ fun u σ=>(collect P body u σ).map fun r=>
  let outs:=(match r.normal with | some x=>[x.2] | none=>[])++(r.exits.filter (·.1==id)).map (·.2)
  let rest:=r.exits.filter (·.1 != id)
  match outs with
  | []=>⟨none,rest⟩
  | outs=>let (tm,n):=mergeS u outs;⟨some (u+n,tm),rest⟩
 | .loop body,u,σ=>deepS u σ fun u σ=>(fixTm (fun u σ=>collect P body u σ) u σ 8 (σ,0)).bind fun(tm,n)=>deepS (u+n) tm fun u1 tm=>(collect P body u1 tm).map fun r=>⟨none,r.exits⟩
 | .exit id,_,σ=>some ⟨none,[(id,σ)]⟩
 | .ret,_,_=>some ⟨none,[]⟩
 | .rangeFunc _ _ _ body,u,σ=>some ⟨some (u+1,setH σ (.sym u)),match quitOf body with | [some id]=>[(id,setH σ (.sym u))] | _=>[]⟩
 | _,_,_=>none

structure Ex where
 lab:Nat
 tm:SState
 base:Nat

abbrev Kont:=Nat→Nat→SState→Option T

def exOf : List (Nat × Ex) → Nat → Option Ex
  | [], _ => none
  | (i, e) :: r, id => if i = id then some e else exOf r id

def Outs.normals (r:Outs):List SState:=match r.normal with | some x=>[x.2] | none=>[]
def Outs.at (r:Outs)(id:Nat):List SState:=r.normals++(r.exits.filter (·.1==id)).map (·.2)

def jumpTo (dp u:Nat)(tm:SState):Kont:=fun _ _ σ'=>(matchR u tm σ').map (T.jump dp)

def joinAt (dp u:Nat)(m:SState×Nat)(body:Option T)(k:Kont):Option T:=
 match body,k dp (u+m.2) m.1 with
 | some tb,some tr=>some (.join dp m.2 tb tr)
 | _,_=>none

def iteOf (x:E)(a b:Option T):Option T:=
 match a,b with
 | some ta,some tb=>some (.ite x ta tb)
 | _,_=>none

def loopAt (dp u:Nat)(m:SState×Nat)(σ:SState)(body:Option T):Option T:=
 match matchR u m.1 σ,body with
 | some inits,some tb=>if inits.length=m.2 then some (.loop dp inits tb) else none
 | _,_=>none

def dataSlots:Nat→List SV→List (Nat×E)
 | _,[]=>[]
 | i,.e x _ :: r=>(i,x) :: dataSlots (i+1) r
 | i,_ :: r=>dataSlots (i+1) r

def SV.data:SV→SV
 | .e x s=>.e x s
 | _=>.junk

def putArgs:Nat→List Tmp→List SV→List SV
 | _,[],σs=>σs
 | u,p :: ps,σs=>putArgs (u+1) ps (σs.set p (.e (.sym u) false))

def roundState (σ:SState)(cf:StCfg)(u:Nat)(ps:List Tmp):SState:=
 { tmps:=putArgs (u+1) ps (σ.tmps.map SV.data),mem:=List.replicate σ.mem.length none,hs:=some (.store cf (.sym u)) }

def roundEnd (dp:Nat):Kont:=fun _ _ σ=>match σ.hs with | some (.store _ h)=>some (.jump dp [h]) | _=>none

def roundRet (q:Option Nat)(σ:SState):Option E:=match q,σ.hs with | none,some (.store _ h)=>some h | _,_=>none

def roundEx (dp base:Nat)(σ:SState)(cf:StCfg)(q:Option Nat):List (Nat×Ex):=match q with
 | none=>[]
 | some id=>[(id,⟨dp+1,{ tmps:=List.replicate σ.tmps.length .junk,mem:=List.replicate σ.mem.length none,hs:=some (.store cf (.sym base)) },base⟩)]

def noRange:Code→Bool
 | .seq a b | .cond _ a b=>noRange a&&noRange b
 | .block _ b | .loop b=>noRange b
 | .rangeFunc _ _ _ _=>false
 | _=>true

def compile (P:Program)(rv:SState→Option E):Code→Nat→Nat→SState→List (Nat×Ex)→Kont→Option T
 | .skip,dp,u,σ,_,k | .label _,dp,u,σ,_,k=>k dp u σ
 | .region id ops draw,dp,u,σ,_,k=>regionT P ops draw (frzAt id σ) u fun σ u=>deepS u σ fun u σ=>k dp u σ
 | .seq a b,dp,u,σ,ex,k=>compile P rv a dp u σ ex fun dp u σ=>compile P rv b dp u σ ex k
 | .cond c a b,dp,u,σ,ex,k=>deepS u σ fun u σ=>(σ.opd c).toE.bind fun x=>
   if completes a&&completes b then
    (collect P a u σ).bind fun ra=>(collect P b u σ).bind fun rb=>
     joinAt dp u (mergeS u (ra.normals++rb.normals))
      (iteOf x (compile P rv a (dp+1) u σ ex (jumpTo dp u (mergeS u (ra.normals++rb.normals)).1)) (compile P rv b (dp+1) u σ ex (jumpTo dp u (mergeS u (ra.normals++rb.normals)).1))) k
   else iteOf x (compile P rv a dp u σ ex k) (compile P rv b dp u σ ex k)
 | .block id body,dp,u,σ,ex,k=>deepS u σ fun u σ=>(collect P body u σ).bind fun r=>
   if(r.at id).isEmpty then compile P rv body dp u σ (ex.filter (·.1 != id)) (fun _ _ _=>none)
   else joinAt dp u (mergeS u (r.at id)) (compile P rv body (dp+1) u σ ((id,⟨dp,(mergeS u (r.at id)).1,u⟩) :: ex) (jumpTo dp u (mergeS u (r.at id)).1)) k
 | .loop body,dp,u,σ,ex,_=>deepS u σ fun u σ=>(fixTm (fun u σ=>collect P body u σ) u σ 8 (σ,0)).bind fun m=>
   loopAt dp u m σ (deepS (u+m.2) m.1 fun u1 tm=>compile P rv body (dp+1) u1 tm ex (jumpTo dp u m.1))
 | .exit id,_,_,σ,ex,_=>(exOf ex id).bind fun e=>(matchR e.base e.tm σ).map (T.jump e.lab)
 | .ret,_,_,σ,_,_=>(rv σ).map T.ret
 | .rangeFunc g ps asg body,dp,u,σ,ex,k=>match(σ.opd g).toE,σ.hs with
  | some x,some (.store cf h)=>if cf.ro=true then none else match quitOf body with
   | [q]=>match compile P (fun _=>none) asg (dp+2) (u+1+ps.size) (roundState σ cf u ps.toList) [] (fun dp' u' σ'=>compile P (roundRet q) body dp' u' σ' (roundEx dp (u+1+ps.size) σ cf q) (roundEnd dp)),k dp (u+1) (setH σ (.sym u)),
     (match q with | none=>(rv (setH σ (.sym u))).map T.ret | some id=>(exOf ex id).bind fun e=>(matchR e.base e.tm (setH σ (.sym u))).map (T.jump e.lab)) with
    | some tb,some tr,some tq=>some (.rforx x h ((dataSlots 0 σ.tmps).map (·.1)) ((dataSlots 0 σ.tmps).map (·.2)) ps.size dp q tb tr tq)
    | _,_,_=>none
   | _=>match compile P (fun _=>none) asg (dp+1) (u+1+ps.size) (roundState σ cf u ps.toList) [] (fun dp' u' σ'=>compile P (fun _=>none) body dp' u' σ' [] (roundEnd dp)),k dp (u+1) (setH σ (.sym u)) with
   | some tb,some tr=>some (.rfor x h ((dataSlots 0 σ.tmps).map (·.1)) ((dataSlots 0 σ.tmps).map (·.2)) ps.size dp tb tr)
   | _,_=>none
  | _,_=>none
 | _,_,_,_,_,_=>none

end
end Go.Am

/-
 A loop over a function: what a round does,and where a run goes on from.
-/
namespace Go.Am
noncomputable section

section
variable {P:Program}

theorem cell_putObj {w:World}{l:Nat}{r:Loop}(h:w.heap[l]? = some (.loop r))(r':Loop)(b o:Nat):(w.putObj l (.loop r')).cell? ⟨b,o,none⟩=w.cell? ⟨b,o,none⟩:=by
 by_cases e:b=l
 ·subst e
  have h1:w.cell? ⟨b,o,none⟩=none:=by simp[World.cell?,h]
  have h2:=World.putObj_heap_same (o:=.loop r') (Array.getElem?_eq_some_iff.1 h).1
  rw[h1]
  simp[World.cell?,h2]
 ·exact World.cell?_of_block (a:=⟨b,o,none⟩) (World.putObj_heap_other e)

theorem Keeps.putObj {w:World}{S:Sets}{l:Nat}{r:Loop}(h:w.heap[l]? = some (.loop r))(r':Loop):Keeps S w (w.putObj l (.loop r')):=fun b o _=>cell_putObj h r' b o

def PartOf (d x:D):Prop:=(∃(e:TypeId) (sz:Nat) (cs:List D) (j:Nat),x=.blk e sz cs∧cs[j]? = some d)∨(∃(kvs:List D) (j:Nat) (d1 d2:D),x=.mblk kvs∧kvs[j]? = some (D.tup [d1,d2])∧(d=d1∨d=d2))

theorem StOk.to {w w':World} {S S':Sets} {foot:Nat→Prop} {bs:List D} (h:StOk w S foot bs) (hS:S.Like S') (hm:∀b o,S' b o→S b o) (hb:∀b,foot b→w'.heap[b]? = w.heap[b]?)
  (hr:∀(v:Value) (d:D) (i:Nat) (x:D),bs[i]? = some x→PartOf d x→RdD w S v d→RdD w' S' v d):StOk w' S' foot bs:=by
 refine⟨hS.n.symm.trans h.n,fun i e sz cs hi=>?_,fun b off hf hs=>h.nos b off hf (hm _ _ hs),fun i kvs hi=>?_,fun i j x y hi hj hx hy e=>h.inj i j x y hi hj hx hy (by rw[←hS.loc,←hS.loc];exact e),fun i z hi hz=>?_⟩
 ·obtain⟨hf,vs,g1,g2,g3,g4,g5,g6⟩:=h.cells i e sz cs hi
  rw[hS.loc,hS.cap]
  exact⟨hf,vs,g1.to (hb _ hf),g2,g3,g4,fun j v d hv hd=>hr v d i _ hi (.inl ⟨e,sz,cs,j,rfl,hd⟩) (g5 j v d hv hd),fun off hs=>g6 off (hm _ _ hs)⟩
 ·obtain⟨hf,es,clock,g1,g2,g3,g4⟩:=h.maps i kvs hi
  rw[hS.loc]
  refine⟨hf,es,clock,(hb _ hf).trans g1,g2,fun off hs=>g3 off (hm _ _ hs),fun j e kv he hkv=>?_⟩
  obtain⟨dk,dv,rfl,g6,g7⟩:=g4 j e kv he hkv
  exact⟨dk,dv,rfl,hr _ _ i _ hi (.inr ⟨kvs,j,dk,dv,rfl,hkv,.inl rfl⟩) g6,hr _ _ i _ hi (.inr ⟨kvs,j,dk,dv,rfl,hkv,.inr rfl⟩) g7⟩
 ·obtain⟨hf,g1,g3⟩:=h.its i z hi hz
  rw[hS.loc,hb _ hf]
  exact⟨hf,g1.to (by rw[hS.n];exact Nat.le_refl _) (fun i _=>hS.loc i) (hS.lrec i),fun off hs=>g3 off (hm _ _ hs)⟩

theorem StOk.drop {w:World}{S:Sets}{foot:Nat→Prop}{bs:List D}{i:Nat}{z:D}(h:StOk w S foot bs)(hz:bs[i]? = some z)(hl:z.live=true):StOk w S (fun b=>foot b∧b≠S.loc i) (bs.set i (.tup [])):=by
 have hc:∀{j:Nat} {x:D},(bs.set i (.tup []))[j]? = some x→x.live=true→bs[j]? = some x∧S.loc j≠S.loc i:=by
  intro j x hj hx
  rw[List.getElem?_set] at hj
  split at hj
  ·split at hj
   ·cases hj;cases hx
   ·cases hj
  ·rename_i hij
   exact⟨hj,fun e=>hij (h.inj j i _ _ hj hz hx hl e).symm⟩
 refine⟨by rw[h.n];simp,fun j e sz cs hj=>?_,fun b off hf=>h.nos b off hf.1,fun j kvs hj=>?_,fun j k x y hj hk hx hy e=>h.inj j k x y (hc hj hx).1 (hc hk hy).1 hx hy e,fun j x hj hx=>?_⟩
 ·obtain⟨g,hne⟩:=hc hj rfl
  obtain⟨g1,g2⟩:=h.cells j e sz cs g
  exact⟨⟨g1,hne⟩,g2⟩
 ·obtain⟨g,hne⟩:=hc hj rfl
  obtain⟨g1,g2⟩:=h.maps j kvs g
  exact⟨⟨g1,hne⟩,g2⟩
 ·obtain⟨g,hne⟩:=hc hj (D.isIt_live hx)
  obtain⟨g1,g2⟩:=h.its j x g hx
  exact⟨⟨g1,hne⟩,g2⟩

theorem StOk.revive {w w':World}{S:Sets}{foot:Nat→Prop}{bs:List D}{i:Nat}{z:D}(h:StOk w S foot bs)(hz:bs[i]? = some (.tup []))(hi:z.isIt=true)(hob:ItOk S i w'.heap[S.loc i]? z)(hf:¬foot (S.loc i))(hn:∀off,¬S (S.loc i) off)(hk:Keeps S w w')(hb:∀b,foot b→w'.heap[b]? = w.heap[b]?) :
  StOk w' S (fun b=>foot b∨b=S.loc i) (bs.set i z):=by
 have hc:∀{j:Nat} {x:D},(bs.set i z)[j]? = some x→x.live=true→(j=i∧x=z)∨(bs[j]? = some x∧foot (S.loc j)∧w'.heap[S.loc j]? = w.heap[S.loc j]?):=by
  intro j x hj hx
  rw[List.getElem?_set] at hj
  split at hj
  ·rename_i hij
   subst hij
   rw[if_pos (List.getElem?_eq_some_iff.1 hz).1] at hj
   cases hj
   exact .inl ⟨rfl,rfl⟩
  ·have:=h.live_foot hj hx
   exact .inr ⟨hj,this,hb _ this⟩
 refine⟨by rw[h.n];simp,fun j e sz cs hj=>?_,fun b off hfb=>hfb.elim (h.nos b off) fun e=>e ▸ hn off,fun j kvs hj=>?_,fun j k x y hj hk' hx hy e=>?_,fun j x hj hx=>?_⟩
 ·rcases hc hj rfl with⟨rfl,e1⟩ | ⟨g,g0,gh⟩
  ·subst e1;cases hi
  ·obtain⟨_,vs,g1,g2,g3,g4,g5,g6⟩:=h.cells j e sz cs g
   exact⟨.inl g0,vs,g1.to gh,g2,g3,g4,fun k v d hv hd=>(g5 k v d hv hd).keep hk (Sets.le_refl _),g6⟩
 ·rcases hc hj rfl with⟨rfl,e1⟩ | ⟨g,g0,gh⟩
  ·subst e1;cases hi
  ·obtain⟨_,es,clock,g1,g2,g3,g4⟩:=h.maps j kvs g
   refine⟨.inl g0,es,clock,gh.trans g1,g2,g3,fun k e kv he hkv=>?_⟩
   obtain⟨dk,dv,k1,k2,k3⟩:=g4 k e kv he hkv
   exact⟨dk,dv,k1,k2.keep hk (Sets.le_refl _),k3.keep hk (Sets.le_refl _)⟩
 ·rcases hc hj hx with⟨rfl,_⟩ | ⟨g,g0,_⟩ <;> rcases hc hk' hy with⟨rfl,_⟩ | ⟨g',g0',_⟩
  ·rfl
  ·exact absurd (e ▸ g0') hf
  ·exact absurd (e ▸ g0) hf
  ·exact h.inj j k x y g g' hx hy e
 ·rcases hc hj (D.isIt_live hx) with⟨rfl,e1⟩ | ⟨g,g0,gh⟩
  ·subst e1;exact⟨.inr rfl,hob,hn⟩
  ·obtain⟨_,g1,g2⟩:=h.its j x g hx
   rw[gh]
   exact⟨.inl g0,g1,g2⟩

theorem noyl_part {bs:List D}(h:noyls bs=true){d:D}{i:Nat}{x:D}(hi:bs[i]? = some x)(hp:PartOf d x):d.noyl=true:=by
 have hx:=noyls_get h hi
 rcases hp with⟨e,sz,cs,j,rfl,hj⟩ | ⟨kvs,j,d1,d2,rfl,hj,hd⟩
 ·exact noyls_get (by simpa[D.noyl] using hx) hj
 ·have:=noyls_get (by simpa[D.noyl] using hx) hj
  simp[D.noyl,noyls] at this
  rcases hd with rfl | rfl
  ·exact this.1
  ·exact this.2

def Sets.under (S:Sets)(h:Nat→Option Loop):Sets:={ S with hold:=h }

theorem Sets.like_under (S:Sets)(h:Nat→Option Loop):S.Like (S.under h):=⟨fun _ _ h=>h,rfl,fun _=>rfl,fun _=>rfl,fun _=>rfl⟩

theorem dataSlots_get:∀{l:List SV} {k i s:Nat} {x:E},(dataSlots k l)[i]? = some (s,x)→k≤s∧∃b,l[s-k]? = some (.e x b)
 | [],_,_,_,_,h=>by simp[dataSlots] at h
 | sv :: r,k,i,s,x,h=>by
  have rest:∀{i:Nat},(dataSlots (k+1) r)[i]? = some (s,x)→k≤s∧∃b,(sv :: r)[s-k]? = some (.e x b):=by
   intro i h
   obtain⟨h1,b,h2⟩:=dataSlots_get h
   refine⟨by omega,b,?_⟩
   rw[show s-k=(s-(k+1))+1 from by omega]
   simpa using h2
  cases sv with
  | e y b=>
   simp only[dataSlots] at h
   cases i with
   | zero=>simp at h;obtain⟨rfl,rfl⟩:=h;exact⟨Nat.le_refl _,b,by simp⟩
   | succ i=>exact rest (by simpa using h)
  | _=>
   simp only[dataSlots] at h
   exact rest h

theorem dataSlots_mem:∀{l:List SV} {k s:Nat} {x:E} {b:Bool},l[s]? = some (.e x b)→∃i:Nat,(dataSlots k l)[i]? = some (k+s,x)
 | [],_,_,_,_,h=>by simp at h
 | sv :: r,k,0,x,b,h=>by
  simp at h
  subst h
  exact⟨0,by simp[dataSlots]⟩
 | sv :: r,k,s+1,x,b,h=>by
  obtain⟨i,hi⟩:=dataSlots_mem (k:=k+1) (l:=r) (s:=s) (by simpa using h)
  rw[show k+1+s=k+(s+1) from by omega] at hi
  cases sv with
  | e y c=>exact⟨i+1,by simpa[dataSlots] using hi⟩
  | _=>exact⟨i,by simpa[dataSlots] using hi⟩

structure Ext (w0:World)(X:Ent)(w1:World)(X1:Ent):Prop where
 sub:X.S≤X1.S
 os:w1.os=w0.os
 tape:TL w1 w0
 output:w1.output=w0.output
 size:w0.heap.size≤w1.heap.size
 old:∀b,b<w0.heap.size→¬X.may b→w1.heap[b]? = w0.heap[b]?
 may:∀b,X1.may b→X.may b∨w0.heap.size≤b
 foot:∀b,X1.foot b→X.foot b∨X.may b∨w0.heap.size≤b
 new:∀b o,X1.S b o→X.S b o∨w0.heap.size≤b∨X.may b
 dfs:∃cs:List Nat,X1.dfs=(cs.map fun D=>({ target:=.collected D,args:=#[] }:Deferred))++X.dfs∧cs.Nodup∧∀D,D∈cs→w1.heap[D]? = some (.deferred (some []))∧¬X1.may D∧¬X1.foot D∧w0.heap.size≤D

theorem Ext.refl (w0:World)(X:Ent):Ext w0 X w0 X:=⟨Sets.le_refl _,rfl,.refl _,rfl,Nat.le_refl _,fun _ _ _=>rfl,fun _ h=>.inl h,fun _ h=>.inl h,fun _ _ h=>.inl h,[],rfl,List.nodup_nil,by simp⟩

theorem Ext.trans {w0 w1 w2:World}{X X1 X2:Ent}(h:Ext w0 X w1 X1)(k:Ext w1 X1 w2 X2):Ext w0 X w2 X2:=by
 have hm:∀b,b<w0.heap.size→¬X.may b→¬X1.may b:=fun b hb hn hx=>(h.may b hx).elim hn fun g=>by omega
 refine⟨Sets.le_trans h.sub k.sub,k.os.trans h.os,k.tape.trans h.tape,k.output.trans h.output,Nat.le_trans h.size k.size,fun b hb hn=>(k.old b (Nat.lt_of_lt_of_le hb h.size) (hm b hb hn)).trans (h.old b hb hn),
  fun b hb=>(k.may b hb).elim (h.may b) fun g=>.inr (Nat.le_trans h.size g),fun b hb=>?_,fun b o hs=>?_,?_⟩
 ·rcases k.foot b hb with g | g | g
  ·exact h.foot b g
  ·exact .inr (h.may b g)
  ·exact .inr (.inr (Nat.le_trans h.size g))
 ·rcases k.new b o hs with g | g | g
  ·exact h.new b o g
  ·exact .inr (.inl (Nat.le_trans h.size g))
  ·exact .inr ((h.may b g).elim .inr .inl)
 ·obtain⟨cs,h1,h2,h3⟩:=h.dfs
  obtain⟨ds,k1,k2,k3⟩:=k.dfs
  refine⟨ds++cs,by rw[k1,h1];simp,?_,fun D hD=>?_⟩
  ·rw[List.nodup_append]
   refine⟨k2,h2,fun a ha b hb e=>?_⟩
   subst e
   have g1:=(k3 a ha).2.2.2
   have g2:=(Array.getElem?_eq_some_iff.1 (h3 a hb).1).1
   omega
  ·rcases List.mem_append.1 hD with hD | hD
   ·obtain⟨g1,g2,g3,g4⟩:=k3 D hD
    exact⟨g1,g2,g3,Nat.le_trans h.size g4⟩
   ·obtain⟨g1,g2,g3,g4⟩:=h3 D hD
    have hlt:=(Array.getElem?_eq_some_iff.1 g1).1
    exact⟨(k.old D hlt g2).trans g1,fun hx=>(k.may D hx).elim g2 fun g=>by omega,fun hx=>(k.foot D hx).elim g3 fun g=>g.elim g2 fun g=>by omega,g4⟩

theorem Ext.rep {w0 w1 w:World}{X X1:Ent}{a:Act}{σ:SState}{env:List D}{ρ:Rho}(h:Ext w0 X w1 X1)(hr:Rep w1 X1 w a σ env ρ)(hh:∀l rec,X.S.hold l=some rec→w0.heap[l]? = some (.loop rec)∧¬X.may l∧¬X.foot l):Rep w0 { X with dfs:=X1.dfs } w a σ env ρ:=by
 have hm:∀b,b<w0.heap.size→¬X.may b→¬X1.may b:=fun b hb hn hx=>(h.may b hx).elim hn fun g=>by omega
 refine⟨hr.size,hr.tmps,hr.objs,hr.inj,fun o x b hx hb=>?_,hr.cells,hr.os.trans h.os,hr.tape.trans h.tape,hr.output.trans h.output,Nat.le_trans h.size hr.grown,fun b hb hn=>(hr.old b (Nat.lt_of_lt_of_le hb h.size) (hm b hb hn)).trans (h.old b hb hn),Sets.le_trans h.sub hr.sub,fun b o hs=>?_,hr.nod,hh⟩
 ·obtain⟨g,hlt⟩:=hr.own o x b hx hb
  refine⟨?_,hlt⟩
  rcases g with g | g | g
  ·rcases h.foot b g.2 with k | k | k
   ·exact .inl ⟨g.1,k⟩
   ·exact .inr (.inr k)
   ·exact .inr (.inl k)
  ·exact .inr (.inl (Nat.le_trans h.size g))
  ·rcases h.may b g with k | k
   ·exact .inr (.inr k)
   ·exact .inr (.inl k)
 ·rcases hr.new b o hs with g | g | g
  ·exact h.new b o g
  ·exact .inr (.inl (Nat.le_trans h.size g))
  ·exact .inr ((h.may b g).elim .inr .inl)

theorem left_of_rep {w w':World}{a:Act}{σ:SState}{env:List D}{ρ:Rho}{S:Sets}{foot may:Nat→Prop}{dfs:List Deferred}{bs:List D}(h:Rep w ⟨may,S,foot,dfs⟩ w' a σ env ρ)(hst:StOk w' ρ.S ρ.foot bs)(hob:∃cf x,σ.obj HID=some (.store cf x))(hmay2:∀b,may b→foot b):Left w S foot may w' ρ.S ρ.foot bs:=by
 obtain⟨cf,x,hob⟩:=hob
 refine⟨hst,h.sub,h.os,h.tape,h.output,h.grown,h.old,fun b hb=>?_,fun b o hs=>?_,h.cells⟩
 ·obtain⟨g1,g2⟩:=h.own HID _ b hob hb
  refine⟨?_,g2⟩
  rcases g1 with g1 | g1 | g1
  ·exact .inl g1.2
  ·exact .inr g1
  ·exact .inl (hmay2 b g1)
 ·rcases h.new b o hs with g | g | g
  ·exact .inl g
  ·exact .inr (.inr g)
  ·exact .inr (.inl g)

theorem evalAll_get {env:List D}:∀{l:List E} {ds:List D} {i:Nat} {x:E},evalAll env l=some ds→l[i]? = some x→∃d,ds[i]? = some d∧x.eval env=some d
 | [],_,_,_,_,h=>by simp at h
 | y :: r,ds,i,x,h,hi=>by
  simp only[evalAll,Option.bind_eq_some_iff,Option.map_eq_some_iff] at h
  obtain⟨d,h1,ds',h2,rfl⟩:=h
  cases i with
  | zero=>simp at hi;subst hi;exact⟨d,rfl,h1⟩
  | succ i=>
   obtain⟨d',g1,g2⟩:=evalAll_get (i:=i) h2 (by simpa using hi)
   exact⟨d',by simpa using g1,g2⟩

theorem putArgs_rd {w:World}{ρ:Rho}{env:List D}:∀{ps:List Tmp} {vs:List Value} {u:Nat} {tm:Array Value} {svs:List SV},tm.size=svs.length→ps.length=vs.length→(∀t,SRd w ρ env (tm.getD t undef) (svs.getD t .junk))→(∀(i:Nat) (v:Value),vs[i]? = some v→∃d,env[u+i]? = some d∧RdD w ρ.S v d) →
  ((ps.zip vs).foldl (fun tmps (x:Tmp×Value)=>tmps.setIfInBounds x.1 x.2) tm).size=(putArgs u ps svs).length∧∀t,SRd w ρ env (((ps.zip vs).foldl (fun tmps (x:Tmp×Value)=>tmps.setIfInBounds x.1 x.2) tm).getD t undef) ((putArgs u ps svs).getD t .junk)
 | [],[],u,tm,svs,hs,_,h,_=>⟨hs,h⟩
 | [],_ :: _,_,_,_,_,hl,_,_=>by simp at hl
 | _ :: _,[],_,_,_,_,hl,_,_=>by simp at hl
 | p :: ps,v :: vs,u,tm,svs,hs,hl,h,hv=>by
  simp only[List.zip_cons_cons,List.foldl_cons,putArgs]
  refine putArgs_rd (by simp[hs]) (by simpa using hl) (fun t=>?_) fun i v' hi=>?_
  ·by_cases hp:p<svs.length
   ·simp only[Array.getD_eq_getD_getElem?,Array.getElem?_setIfInBounds,List.getD_eq_getElem?_getD,List.getElem?_set]
    by_cases e:p=t
    ·subst e
     obtain⟨d,hd,hr⟩:=hv 0 v rfl
     simp only[if_true,hs,hp]
     exact .e (by simpa[E.eval] using hd) hr (fun hh=>by cases hh)
    ·simp only[e,if_false]
     have:=h t
     simpa only[Array.getD_eq_getD_getElem?,List.getD_eq_getElem?_getD] using this
   ·have hge:svs.length≤p:=Nat.le_of_not_lt hp
    rw[Array.setIfInBounds_eq_of_size_le (by rw[hs];exact hge),List.set_eq_of_length_le hge]
    exact h t
  ·obtain⟨d,h1,h2⟩:=hv (i+1) v' (by simpa using hi)
   exact⟨d,by rw[show u+1+i=u+(i+1) from by omega];exact h1,h2⟩

theorem putArgs_length:∀(ps:List Tmp) (u:Nat) (svs:List SV),(putArgs u ps svs).length=svs.length
 | [],_,_=>rfl
 | p :: ps,u,svs=>by simp[putArgs,putArgs_length ps]

/-! ## a function leaves that has had loops over functions -/

structure Marked (w w':World)(cs:List Nat):Prop where
 other:∀b,b∉cs→w'.heap[b]? = w.heap[b]?
 size:w'.heap.size=w.heap.size
 os:w'.os=w.os
 tape:TL w' w
 output:w'.output=w.output
 cell:∀b o,w'.cell? ⟨b,o,none⟩=w.cell? ⟨b,o,none⟩

theorem cell_unmark {w:World}{l:Nat}{x:Option (List Deferred)}(h:w.heap[l]? = some (.deferred x))(y:Option (List Deferred))(b o:Nat):(w.putObj l (.deferred y)).cell? ⟨b,o,none⟩=w.cell? ⟨b,o,none⟩:=by
 by_cases e:b=l
 ·subst e
  have h1:w.cell? ⟨b,o,none⟩=none:=by simp[World.cell?,h]
  have h2:=World.putObj_heap_same (o:=.deferred y) (Array.getElem?_eq_some_iff.1 h).1
  rw[h1]
  simp[World.cell?,h2]
 ·exact World.cell?_of_block (a:=⟨b,o,none⟩) (World.putObj_heap_other e)

theorem leaves_marks {F:Fence}{n:Nat}{fn:Func}{tmps:Array Value}{R:Ending→World→Prop}{u:FrameMode}(hu:u≠.run):∀(cs:List Nat) (w:World),cs.Nodup→(∀D,D∈cs→w.heap[D]? = some (.deferred (some []))) →
  (∀w',Marked w w' cs→LeavesIn F n P fn tmps R [] u w')→LeavesInM F n P fn tmps R (cs.map fun D=>({ target:=.collected D,args:=#[] }:Deferred)) u w
 | [],w,_,_,h=>h w ⟨fun _ _=>rfl,rfl,rfl,.refl _,rfl,fun _ _=>rfl⟩
 | D :: cs,w,hn,hD,h=>by
  rw[List.nodup_cons] at hn
  have hd:=hD D (by simp)
  refine⟨hu,.inl ⟨D,_,rfl,run_takeDeferred hd,leaves_marks hu cs _ hn.2 (fun D' hD'=>?_) fun w' hm=>h w' ?_⟩⟩
  ·rw[World.putObj_heap_other (fun e=>by subst e;exact hn.1 hD')]
   exact hD D' (by simp[hD'])
  ·refine⟨fun b hb=>?_,hm.size.trans (by simp),hm.os,⟨hm.tape.tape,hm.tape.dr⟩,hm.output,fun b o=>(hm.cell b o).trans (cell_unmark hd _ b o)⟩
   simp only[List.mem_cons,not_or] at hb
   rw[hm.other b hb.2,World.putObj_heap_other hb.1]

theorem Rep.marked {w0 w1 w w':World}{X0 X1:Ent}{a:Act}{σ:SState}{env:List D}{ρ:Rho}{cs:List Nat}(h:Rep w1 X1 w a σ env ρ)(h0:Rep w0 X0 w a σ env ρ)(hc:∀D,D∈cs→D<w1.heap.size∧¬X1.may D∧¬X1.foot D∧w0.heap.size≤D)(hm:Marked w w' cs):Rep w0 X0 w' a σ env ρ:=
 h0.move (fun b o _=>hm.cell b o) (Rho.More.refl ρ _) (fun o x b hx hb=>hm.other b fun hD=>by
  obtain⟨h1,h2,h3,_⟩:=hc b hD
  rcases(h.own o x b hx hb).1 with g | g | g
  ·exact h3 g.2
  ·omega
  ·exact h2 g) (fun _ _ _ _ _ _ hs=>hs) (fun b o hs=>by rw[hm.size];exact h0.cells b o hs) hm.os hm.tape hm.output (by rw[hm.size];exact Nat.le_refl _) (fun b hb _=>hm.other b fun hD=>by have:=(hc b hD).2.2.2;omega) fun b o hs=>.inl hs

theorem Rep.putBoth {w0 w:World}{X:Ent}{a:Act}{σ:SState}{env:List D}{ρ:Rho}(h:Rep w0 X w a σ env ρ){m:Nat}{r r':Loop}(hm:w0.heap[m]? = some (.loop r))(hn1:¬X.may m)(hn2:¬X.foot m)(hh:X.S.hold m=none) :
  w.heap[m]? = some (.loop r)∧Rep (w0.putObj m (.loop r')) X (w.putObj m (.loop r')) a σ env ρ:=by
 have hlt:m<w0.heap.size:=(Array.getElem?_eq_some_iff.1 hm).1
 have hw:w.heap[m]? = some (.loop r):=(h.old m hlt hn1).trans hm
 have hlt':m<w.heap.size:=(Array.getElem?_eq_some_iff.1 hw).1
 have hb:∀o x b,σ.obj o=some x→objBlk ρ o x b→b≠m:=fun o x b hx hb e=>by
  subst e
  rcases(h.own o x b hx hb).1 with g | g | g
  ·exact hn2 g.2
  ·omega
  ·exact hn1 g
 have h1:Rep w0 X w a σ env ρ:=h
 refine⟨hw,h.size,fun t=>(h.tmps t).keep (Keeps.putObj hw r') (Rho.More.refl ρ (fun _=>False)) fun _ hf=>hf.elim,fun o x hx=>(h.objs o x hx).keep (Keeps.putObj hw r') (Rho.More.refl ρ (fun _=>False)) id (fun _ hf=>hf.elim) (fun b hb'=>World.putObj_heap_other (hb o x b hx hb')) (fun _ _ _ hs=>hs),h.inj,fun o x b hx hb'=>?_,fun b o hs=>?_,h.os,⟨h.tape.tape,h.tape.dr⟩,h.output,?_,fun b hb1 hb2=>?_,h.sub,fun b o hs=>?_,h.nod,fun l rec hl=>?_⟩
 ·simp only[World.putObj_size]
  exact h.own o x b hx hb'
 ·simp only[World.putObj_size]
  exact h.cells b o hs
 ·simp only[World.putObj_size]
  exact h.grown
 ·simp only[World.putObj_size] at hb1
  by_cases e:b=m
  ·subst e
   rw[World.putObj_heap_same hlt,World.putObj_heap_same hlt']
  ·rw[World.putObj_heap_other e,World.putObj_heap_other e]
   exact h.old b hb1 hb2
 ·simp only[World.putObj_size]
  exact h.new b o hs
 ·obtain⟨g1,g2,g3⟩:=h.hold l rec hl
  have e:l≠m:=fun e=>by
   subst e
   rw[hh] at hl
   cases hl
  exact⟨by rw[World.putObj_heap_other e];exact g1,g2,g3⟩

end
end
end Go.Am
