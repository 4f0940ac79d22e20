/-
  Several texts, one behind the other.
-/
import Derived.Test.YtgebemgmpfpjbaaWrC5toWrC7
import Derived.Test.YtgebemgmpfpjbaaAmWk
import Derived.Shelf.SlSortCmp.NoneTotal
set_option linter.unusedSimpArgs false
set_option linter.unusedVariables false
/-
 A loop over the map of reports.
-/
namespace Go.Am.Wr
set_option maxRecDepth 100000

theorem rng_kv {bs:List D}{m:Nat}{kv:List (Rep×Int)}(hm:bs[m]? = some (.mblk (kv.map kvD)))(c d:D):D.m4 .rng (.st bs) (.mp m) c d=some (.st (bs++[.itb m kv.length []])):=by
 simp[D.m4,D.mrng,hm]

theorem place_kv {st:List D}{m p:Nat}{sn:List Nat}{kv:List (Rep×Int)}(hm:st[m]? = some (.mblk (kv.map kvD)))(hp:st[p]? = some (.itb m kv.length sn)):D.place (.st st) (.loc p 0)=some (st,p,m,kv.length,sn,kv.map kvD):=by
 simp[D.place,hm,hp]

theorem pair_kv {kv:List (Rep×Int)}(j:Nat):pairAt (kv.map kvD) j=(kv[j]?).map fun e=>(e.1.d,I e.2):=by
 simp only[pairAt,List.getElem?_map]
 cases kv[j]? <;> rfl

theorem next_kv {st:List D}{m p:Nat}{sn:List Nat}{kv:List (Rep×Int)}(hm:st[m]? = some (.mblk (kv.map kvD)))(hp:st[p]? = some (.itb m kv.length sn))(c d:D) :
  ∃ys,D.m4 .next (.st st) (.loc p 0) c d=some (.lst ys)∧∀x h,.tup [x,h]∈ys →
   (leftN kv.length sn=[]∧x=.tup [B false]∧h=.st st)∨∃j e,j∈leftN kv.length sn∧kv[j]? = some e∧x=.tup [B true,e.1.d,I e.2]∧h=.st (st.set p (.itb m kv.length (sn++[j]))):=by
 refine⟨_,by simp only[D.m4,D.mnext,place_kv hm hp,Option.map_some];rfl,fun x h hx=>?_⟩
 split at hx
 ·rename_i h1
  left
  simp only[List.mem_singleton,D.tup.injEq,List.cons.injEq,and_true] at hx
  exact⟨List.isEmpty_iff.1 h1,hx.1,hx.2⟩
 ·right
  obtain⟨j,hj,hx⟩:=List.mem_filterMap.1 hx
  rw[pair_kv] at hx
  cases he:kv[j]? with
  | none=>rw[he] at hx;cases hx
  | some e=>
   rw[he] at hx
   simp only[Option.map_some,Option.some.injEq,D.tup.injEq,List.cons.injEq,and_true] at hx
   exact⟨j,e,hj,he,hx.1.symm,hx.2.symm⟩

theorem entry_kv {st:List D}{m p j:Nat}{sn:List Nat}{kv:List (Rep×Int)}{e:Rep×Int}(hm:st[m]? = some (.mblk (kv.map kvD)))(hp:st[p]? = some (.itb m kv.length (sn++[j])))(he:kv[j]? = some e)(c d:D):D.m4 .entry (.st st) (.loc p 0) c d=some (.tup [e.1.d,I e.2]):=by
 simp[D.m4,D.mentry,place_kv hm hp,pair_kv,he]

end Go.Am.Wr

/-
 What the loop over the map of reports keeps.
-/
namespace Go.Am.Wr
set_option maxRecDepth 100000

def metR (kv:List (Rep×Int))(sn:List Nat):List Rep:=sn.map fun j=>repOf (kv.getD j (⟨0,0,0,0,0,0,0⟩,0))

structure LI (bs:List D)(m:Nat)(kv:List (Rep×Int))(out:D)(st:List D)(sn:List Nat):Prop where
 sl:SlOf st 45 7 Rep.cs out (metR kv sn)
 pl:st[bs.length]? = some (.itb m kv.length sn)
 old:∀i,i<bs.length→st[i]? = bs[i]?
 len:st.length=bs.length+1+sn.length
 nd:sn.Nodup
 lt:∀j,j∈sn→j<kv.length
 sid:∀b,out.sid=some b→bs.length<b
 out:out=if sn=[] then .snil else .sl (bs.length+sn.length) 0 sn.length

theorem LI.start (bs:List D)(m:Nat)(kv:List (Rep×Int)):LI bs m kv .snil (bs++[.itb m kv.length []]) [] where
 sl:=SlOf.nil
 pl:=by simp
 old i hi:=List.getElem?_append_left hi
 len:=by simp
 nd:=List.nodup_nil
 lt:=by simp
 sid b hb:=by cases hb
 out:=rfl

theorem mem_left {n j:Nat}{sn:List Nat}(h:j∈leftN n sn):j<n∧j∉sn:=by
 simp only[leftN,List.mem_filter,List.mem_range,Bool.not_eq_true',List.contains_eq_mem,decide_eq_false_iff_not] at h
 exact h

theorem LI.step {bs:List D}{m:Nat}{kv:List (Rep×Int)}{out:D}{st:List D}{sn:List Nat}(h:LI bs m kv out st sn)(hn:kv.length≤1000000){j:Nat}{e:Rep×Int}(hj:j∈leftN kv.length sn)(he:kv[j]? = some e) :
  ∃st2,D.apph 45 7 56 (.st (st.set bs.length (.itb m kv.length (sn++[j])))) out (.lst [(repOf e).d])=some (.st st2) ∧
   D.apps (.st (st.set bs.length (.itb m kv.length (sn++[j])))) out (.lst [(repOf e).d])=some (.sl st.length 0 (sn.length+1))∧LI bs m kv (.sl st.length 0 (sn.length+1)) st2 (sn++[j]):=by
 obtain⟨hjl,hjn⟩:=mem_left hj
 have hpl:bs.length<st.length:=by have:=h.len;omega
 have hsnl:sn.length≤kv.length:=by
  have hs:sn ⊆ List.range kv.length:=fun x hx=>List.mem_range.2 (h.lt x hx)
  have:=h.nd.length_le_of_subset hs
  simpa using this
 have hsl:SlOf (st.set bs.length (.itb m kv.length (sn++[j]))) 45 7 Rep.cs out (metR kv sn):=h.sl.keep fun i hi=>by
  rw[List.getElem?_set_ne]
  have:=h.sid i hi
  omega
 have hml:(metR kv sn).length=sn.length:=by simp[metR]
 obtain⟨st2,a1,a2,a3,a4,a5⟩:=hsl.append (bytes:=56) (x:=repOf e) (y:=(repOf e).d) (fun _=>rfl) rfl rfl (by rw[hml];omega) (by rw[hml];simp[maxLen];omega)
 rw[List.length_set] at a2 a3 a4 a5
 rw[hml] at a2
 have hmet:metR kv sn++[repOf e]=metR kv (sn++[j]):=by simp[metR,List.getD_eq_getElem?_getD,he]
 refine⟨st2,a1,a2,.inr ⟨st.length,?_,?_⟩,?_,fun i hi=>?_,?_,?_,?_,?_,?_⟩
 ·rw[←hmet];simp[hml]
 ·rw[←hmet];exact a3
 ·rw[a5 _ hpl (fun hs=>by have:=h.sid _ hs;omega)]
  simp[hpl]
 ·rw[a5 i (by omega) (fun hs=>by have:=h.sid _ hs;omega),List.getElem?_set_ne (by omega)]
  exact h.old i hi
 ·rw[a4,h.len];simp;omega
 ·rw[List.nodup_append]
  refine⟨h.nd,by simp,fun a ha b hb=>?_⟩
  simp at hb
  subst hb
  exact fun e=>hjn (e ▸ ha)
 ·intro x hx
  rcases List.mem_append.1 hx with hx | hx
  ·exact h.lt x hx
  ·simp at hx;omega
 ·intro b hb
  cases hb
  omega
 ·rw[if_neg (by simp)]
  rw[h.len]
  simp
  omega

theorem LI.done {bs:List D}{m:Nat}{kv:List (Rep×Int)}{out:D}{st:List D}{sn:List Nat}(h:LI bs m kv out st sn)(hl:leftN kv.length sn=[]):(metR kv sn).Perm (kv.map repOf)∧sn.length=kv.length:=by
 have hall:∀j,j<kv.length→j∈sn:=by
  intro j hj
  apply Decidable.byContradiction
  intro hn
  have:j∈leftN kv.length sn:=by
   simp only[leftN,List.mem_filter,List.mem_range,Bool.not_eq_true',List.contains_eq_mem,decide_eq_false_iff_not]
   exact⟨hj,hn⟩
  rw[hl] at this
  cases this
 have hp:sn.Perm (List.range kv.length):=(List.perm_ext_iff_of_nodup h.nd List.nodup_range).2 fun j=>by
  rw[List.mem_range]
  exact⟨h.lt j,hall j⟩
 refine⟨?_,by simpa using hp.length_eq⟩
 have e:(List.range kv.length).map (fun j=>repOf (kv.getD j (⟨0,0,0,0,0,0,0⟩,0)))=kv.map repOf:=by
  apply List.ext_getElem
  ·simp
  ·intro i h1 h2
   simp at h1
   simp[h1]
 rw[←e]
 exact hp.map _

end Go.Am.Wr

/-
 Reports.
-/
namespace Go.Am.Wr
open Go.Proofs
set_option maxRecDepth 100000
set_option maxHeartbeats 4000000

variable {bs:List D} {j m:Nat} {f:Fld} {ss:List Src} {kv:List (Rep×Int)}

attribute [local irreducible] inR

theorem ev_apps {env:List D}{x y z:E}{dx dy dz d:D}(hx:x.eval env=some dx)(hy:y.eval env=some dy)(hz:z.eval env=some dz)(h:D.apps dx dy dz=some d):(E.apps x y z).eval env=some d:=by simp[E.eval,hx,hy,hz,h]

theorem evC {env:List D}{x:E}{r:List E}{d:D}{ds:List D}(hx:x.eval env=some d)(hr:evalAll env r=some ds):evalAll env (x :: r)=some (d :: ds):=by simp[evalAll,hx,hr]

def repSt (bs:List D)(n:Nat)(l:List Rep):List D:=bs++List.replicate n (.tup [])++[.blk 45 7 (l.flatMap Rep.cs)]

theorem c24raw (h:LogAt bs j m f ss kv)(hn:kv.length≤1000000)(hne:kv≠[]){rs:List Rep}(hkv:kv=rs.foldl put []) :
  FSpecW Try.prog 24 (.st bs) [.loc j 0] (.sl (bs.length+kv.length) 0 kv.length) (.st (repSt bs kv.length (logR rs))):=by
 refine ku24.Wk rfl ?_
 unfold u24
 simp only[ups_cons,ups_nil,List.cons_append,List.nil_append]
 repeat' (first|(apply u_iteF;rfl;exact rfl)|(apply u_chk;rfl)|(apply u_ld;rfl;rfl;exact ld_blk h.blk rfl;simp only[sbe];rfl)|(apply u_m4;rfl;rfl;rfl;rfl;exact rng_kv h.map _ _;simp only[sbe];rfl)|(apply u_ev;rfl;simp only[sbe];rfl)|(apply u_call;rfl;rfl;exact c55 h;rfl;simp only[sbe];rfl)|refine u_join ?_)
 refine u_loop (fun k ds=>∃out st sn,ds=[out,.st st]∧k=kv.length-sn.length∧LI bs m kv out st sn) rfl kv.length ⟨_,_,[],rfl,by simp,LI.start bs m kv⟩ ?_
 rintro k ds ⟨out,st,sn,rfl,rfl,hI⟩
 refine⟨rfl,fun R hR=>?_⟩
 have hmm:st[m]? = some (.mblk (kv.map kvD)):=by
  rw[hI.old m (List.getElem?_eq_some_iff.1 h.map).1]
  exact h.map
 obtain⟨ys,hy,hys⟩:=next_kv hmm hI.pl (.agg []) (.agg [])
 refine nrm (by simp only[sbe];rfl) ?_
 refine u_pick (ys:=ys) (by simp[E.eval,D.fstid,hy]) fun d st1 hd=>?_
 rcases hys d st1 hd with⟨hl,rfl,rfl⟩ | ⟨i,e,hi,he,rfl,rfl⟩
 ·obtain⟨hperm,hlen⟩:=hI.done hl
  repeat' (first|(apply nrm;simp only[sbe];rfl)|(apply u_iteF;rfl;exact rfl)|(apply u_chk;rfl)|(apply u_jump;rfl;rfl)|refine at_jump ?_|(refine over_jump (by decide) ?_)|refine kj rfl ?_)
  have hsn:sn≠[]:=by
   rintro rfl
   simp at hlen
   exact hne (List.eq_nil_of_length_eq_zero hlen.symm)
  have ho:=hI.out
  rw[if_neg hsn] at ho
  subst ho
  have hml:(metR kv sn).length=sn.length:=by simp[metR]
  have hblk:st[bs.length+sn.length]? = some (.blk 45 7 ((metR kv sn).flatMap Rep.cs)):=hI.sl.blk rfl
  have hsort:=c63 hblk (by rw[hml];omega)
  rw[hml] at hsort
  have hlog:(srtR (metR kv sn).toArray).toList=logR rs:=srt_log (by rw[←hkv];exact hperm)
  rw[hlog] at hsort
  refine u_wcall rfl rfl hsort rfl (by simp only[sbe];rfl) ?_
  refine u_ret rfl ⟨_,by rw[hlen],?_,fun i x hx hxl=>?_⟩
  ·simp[repSt,hI.len,hlen];omega
  ·have hstl:=hI.len
   by_cases h1:i<bs.length
   ·rw[List.getElem?_set_ne (by omega),hI.old i h1]
    simp only[repSt] at hx
    rw[List.append_assoc,List.getElem?_append_left h1] at hx
    exact hx
   ·by_cases h2:i<bs.length+kv.length
    ·simp only[repSt] at hx
     rw[List.getElem?_append_left (by simp;omega),List.getElem?_append_right (by omega),List.getElem?_replicate,if_pos (by omega)] at hx
     cases hx
     cases hxl
    ·simp only[repSt] at hx
     rw[List.getElem?_append_right (by simp;omega)] at hx
     have h3:i=bs.length+kv.length:=by
      obtain⟨h4,_⟩:=List.getElem?_eq_some_iff.1 hx
      simp at h4
      omega
     subst h3
     simp at hx
     rw[←hx,List.getElem?_set_self (by omega)]
 ·obtain⟨st2,a1,a2,hI2⟩:=hI.step hn hi he
  have hml2:=mem_left hi
  have hpl2:(st.set bs.length (.itb m kv.length (sn++[i])))[bs.length]? = some (.itb m kv.length (sn++[i])):=by
   have:=hI.len
   rw[List.getElem?_set_self (by omega)]
  have hmm2:(st.set bs.length (.itb m kv.length (sn++[i])))[m]? = some (.mblk (kv.map kvD)):=by
   have:=(List.getElem?_eq_some_iff.1 h.map).1
   rw[List.getElem?_set_ne (by omega)]
   exact hmm
  have hent:=entry_kv hmm2 hpl2 he (.agg []) (.agg [])
  repeat' (first|(apply nrm;simp only[sbe];rfl)|(apply u_iteT;rfl;exact rfl)|(apply u_chk;rfl)|(apply u_apph;rfl;rfl;rfl;exact a1;simp only[sbe];rfl)|(apply u_m4;rfl;rfl;rfl;rfl;exact hent;simp only[sbe];rfl)|(apply u_ev;rfl;simp only[sbe];rfl)|refine u_join ?_)
  (with_reducible apply u_jump)
  ·exact evC rfl (evC rfl (evC rfl (evC rfl (evC rfl (evC rfl (evC (ev_apps rfl rfl rfl a2) rfl))))))
  ·exact evA2 (ev_apps rfl rfl rfl a2) rfl
  repeat' (first|(apply nrm;simp only[sbe];rfl)|(apply u_jump;rfl;rfl)|refine at_jump ?_|refine kj rfl ?_)
  refine hR _ _ ?_ ⟨_,_,sn++[i],rfl,rfl,hI2⟩
  have:sn.length<kv.length:=by
   have hnd:=hI2.nd.length_le_of_subset (l₂:=List.range kv.length) fun x hx=>List.mem_range.2 (hI2.lt x hx)
   simp at hnd
   omega
  simp
  omega

theorem log_len {rs:List Rep}{kv:List (Rep×Int)}(hkv:kv=rs.foldl put []):(logR rs).length=kv.length:=by
 have h:=srt_log (rs:=rs) (xs:=(rs.foldl put []).map repOf) (List.Perm.refl _)
 rw[←h,(srtR_perm _).length_eq,List.length_map,hkv]

theorem c24 (h:LogAt bs j m f ss kv)(hn:kv.length≤1000000)(hne:kv≠[]){rs:List Rep}(hkv:kv=rs.foldl put []) :
  FSpecW Try.prog 24 (.st bs) [.loc j 0] (.lst ((logR rs).map Rep.d)) (.st ((repSt bs kv.length (logR rs)).set (bs.length+kv.length) (.tup []))):=by
 have hl:=log_len hkv
 refine FSpecW.frz (sz:=7) (c24raw h hn hne hkv) (e:=45) (cs:=(logR rs).flatMap Rep.cs) ?_ ?_ (by simp[hl]) fun i x hx=>?_
 ·simp[repSt]
 ·rw[flat_length (enc:=Rep.cs) (sz:=7) (fun _=>rfl),hl]
 ·rw[List.getElem?_map] at hx
  obtain⟨r,hr,rfl⟩:=Option.map_eq_some_iff.1 hx
  refine⟨rfl,fun k d hd=>?_⟩
  obtain⟨t,ht⟩:=flat_drop (enc:=Rep.cs) (sz:=7) (fun _=>rfl) hr
  have hk:k<r.cs.length:=(List.getElem?_eq_some_iff.1 hd).1
  have h1:((logR rs).flatMap Rep.cs)[i*7+k]? = (r.cs++t)[k]?:=by rw[←ht,List.getElem?_drop]
  rw[h1,List.getElem?_append_left hk]
  exact hd

end Go.Am.Wr

/-
 Reports,whatever the map;nil and zero logs.
-/
namespace Go.Am.Wr
open Go.Proofs
set_option maxRecDepth 100000
set_option maxHeartbeats 4000000

variable {bs:List D} {j m:Nat} {f:Fld} {ss:List Src} {kv:List (Rep×Int)}

attribute [local irreducible] inR

theorem c63nil:FSpecW Try.prog 63 (.st bs) [.snil,.fn 64 [] []] (.tup []) (.st bs):=by
 intro w S foot bs0 vs heq hst hhold hfl hS hvl hrd
 cases heq
 obtain⟨v,u,rfl⟩:∃v u,vs=#[v,u]:=by
  match vs,hvl with
  | ⟨[v,u]⟩,_=>exact⟨v,u,rfl⟩
 have hv:=hrd 0 v .snil rfl rfl
 cases hv with
 | snil=>
 refine(AnyF.slices_SortFunc_none Try.laysSF none 0 u w).mono ?_
 rintro _ w' ⟨rfl,rfl⟩
 exact⟨.tuple #[],S,foot,_,⟨rfl,.tup rfl fun i v d hv=>by simp at hv⟩,rfl,hst,fun _ _ _=>rfl,Sets.le_refl _,rfl,.refl _,rfl,Nat.le_refl _,fun _ _ _=>rfl,fun k' hk=>⟨.inl hk,hfl k' hk⟩,fun k' o hk=>.inl hk,fun k' o hk=>hS k' o hk⟩

theorem c24e (h:LogAt bs j m f ss []):FSpecW Try.prog 24 (.st bs) [.loc j 0] (.lst []) (.st (bs++[.tup []])):=by
 refine FSpecW.frzNil (ku24.Wk rfl ?_)
 unfold u24
 simp only[ups_cons,ups_nil,List.cons_append,List.nil_append]
 repeat' (first|(apply u_iteF;rfl;exact rfl)|(apply u_chk;rfl)|(apply u_ld;rfl;rfl;exact ld_blk h.blk rfl;simp only[sbe];rfl)|(apply u_m4;rfl;rfl;rfl;rfl;exact rng_kv h.map _ _;simp only[sbe];rfl)|(apply u_ev;rfl;simp only[sbe];rfl)|(apply u_call;rfl;rfl;exact c55 h;rfl;simp only[sbe];rfl)|refine u_join ?_)
 refine u_loop (fun k ds=>ds=[.snil,.st (bs++[.itb m 0 []])]) rfl 0 rfl ?_
 rintro k ds rfl
 refine⟨rfl,fun R hR=>?_⟩
 have hmm:(bs++[D.itb m 0 []])[m]? = some (.mblk (([]:List (Rep×Int)).map kvD)):=by
  rw[List.getElem?_append_left (List.getElem?_eq_some_iff.1 h.map).1]
  exact h.map
 obtain⟨ys,hy,hys⟩:=next_kv (p:=bs.length) (sn:=[]) hmm (by simp) (.agg []) (.agg [])
 refine nrm (by simp only[sbe];rfl) ?_
 refine u_pick (ys:=ys) (by simp[E.eval,D.fstid,hy]) fun d st1 hd=>?_
 rcases hys d st1 hd with⟨_,rfl,rfl⟩ | ⟨i,e,hi,_,_,_⟩
 ·repeat' (first|(apply nrm;simp only[sbe];rfl)|(apply u_iteF;rfl;exact rfl)|(apply u_chk;rfl)|(apply u_wcall;rfl;rfl;exact c63nil;rfl;simp only[sbe];rfl)|(apply u_jump;rfl;rfl)|refine at_jump ?_|(refine over_jump (by decide) ?_)|refine kj rfl ?_)
  refine u_ret rfl ⟨_,rfl,?_,fun i x hx hxl=>?_⟩
  ·simp
  ·rw[List.getElem?_append] at hx ⊢
   split at hx
   ·rename_i hi
    rw[if_pos hi]
    exact hx
   ·cases hi:i-bs.length with
    | zero=>rw[hi] at hx;simp at hx;subst hx;cases hxl
    | succ n=>rw[hi] at hx;simp at hx
 ·simp[leftN] at hi

theorem reports (h:LogAt bs j m f ss kv)(hn:kv.length≤1000000){rs:List Rep}(hkv:kv=rs.foldl put []) :
  FSpecW Try.prog 24 (.st bs) [.loc j 0] (.lst ((logR rs).map Rep.d)) (.st (bs++List.replicate (kv.length+1) (.tup []))):=by
 by_cases hne:kv=[]
 ·subst hne
  have hl:=log_len hkv
  have e:logR rs=[]:=List.eq_nil_of_length_eq_zero hl
  rw[e]
  exact c24e h
 ·have h24:=c24 h hn hne hkv
  have e:(repSt bs kv.length (logR rs)).set (bs.length+kv.length) (.tup [])=bs++List.replicate (kv.length+1) (.tup []):=by
   unfold repSt
   rw[List.append_assoc,List.set_append_right _ _ (by omega),List.set_append_right _ _ (by simp)]
   simp[List.replicate_succ']
  rw[e] at h24
  exact h24

end Go.Am.Wr
