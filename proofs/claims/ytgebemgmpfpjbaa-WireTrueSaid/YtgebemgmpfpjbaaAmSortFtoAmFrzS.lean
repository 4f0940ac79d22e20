/-
  Several texts, one behind the other.
-/
import Derived.Test.YtgebemgmpfpjbaaAmSortUtoAmClone
import Derived.Shelf.SlSortCmp.WholeK
import Derived.Test.YtgebemgmpfpjbaaAmOpentoAmSt2
set_option linter.unusedSimpArgs false
set_option linter.unusedVariables false
/-
 slices.SortFunc at a row of the store,by a comparison that only reads it: from the kit's contract to one's own.
-/
namespace Go.Am.Srt
open Go.Shelf Go.RowKit Go.Lib Go.Sort Go.Proofs

variable {P:Program} {α:Type} [Inhabited α]

theorem grown_of_blw {w w':World}(h:Blw w.heap.size w w'):∃q os',w'=grow (w.drewN q) os':=by
 refine⟨w'.drawn-w.drawn,w'.heap.extract w.heap.size w'.heap.size,?_⟩
 have hd:=h.dr
 have hheap:w'.heap=w.heap++w'.heap.extract w.heap.size w'.heap.size:=by
  refine Array.ext_getElem? fun k=>?_
  rw[Array.getElem?_append]
  split
  ·rename_i hk
   exact h.block k hk
  ·rename_i hk
   rw[Array.getElem?_extract]
   have hs:=h.size
   by_cases hk2:k<w'.heap.size
   ·rw[if_pos (by omega)]
    congr 1
    omega
   ·rw[if_neg (by omega)]
    exact Array.getElem?_eq_none (by omega)
 obtain⟨h1,h2,h3,h4,h5⟩:=w'
 have e1:=h.os
 have e2:=h.tape
 have e3:=h.output
 simp only at e1 e2 e3 hheap hd
 subst e1 e2 e3
 unfold grow World.drewN
 simp only[World.mk.injEq,and_true,true_and]
 exact⟨hheap,by omega⟩

structure EncOk (enc:α→List Value)(k:Nat):Prop where
 len:∀x,(enc x).length=k
 pl:∀x v,v∈enc x→plain v=true

def dnOf (enc:α→List Value)(x:α):List D:=(enc x).map .v

variable {enc:α→List Value} {k:Nat}

omit [Inhabited α] in
theorem flat_len (h:EncOk enc k):∀l:List α,(l.flatMap enc).length=l.length*k
 | []=>by simp
 | x :: r=>by rw[List.flatMap_cons,List.length_append,flat_len h r,h.len,List.length_cons,Nat.add_mul,Nat.one_mul,Nat.add_comm]

omit [Inhabited α] in
theorem flat_dn (l:List α):l.flatMap (dnOf enc)=(l.flatMap enc).map .v:=by
 induction l with
 | nil=>rfl
 | cons x r ih=>rw[List.flatMap_cons,List.flatMap_cons,List.map_append,ih];rfl

theorem flat_get (h:EncOk enc k):∀(l:List α) (t:Nat),t<l.length*k→(l.flatMap enc)[t]? = (enc l[t / k]!)[t % k]?
 | [],t,ht=>by simp at ht
 | x :: r,t,ht=>by
  have hk:0<k:=by
   rcases Nat.eq_zero_or_pos k with e | e
   ·subst e;simp at ht
   ·exact e
  rw[List.flatMap_cons,List.getElem?_append,h.len]
  split
  ·rename_i hlt
   rw[Nat.div_eq_of_lt hlt,Nat.mod_eq_of_lt hlt]
   rfl
  ·rename_i hge
   have hge:k≤t:=by omega
   rw[flat_get h r (t-k) (by rw[List.length_cons,Nat.add_mul,Nat.one_mul] at ht;omega),Nat.div_eq_sub_div hk hge,Nat.mod_eq_sub_mod hge]
   rfl

theorem flatK_eq (h:EncOk enc k)(d:Array α):flatK enc k d=(d.toList.flatMap enc).toArray:=by
 refine ext_get! (by simp[flat_len h]) fun t ht=>?_
 have ht':t<d.size*k:=by simpa using ht
 rw[get_flatK _ _ _ _ ht']
 have hg:=flat_get h d.toList t (by simpa using ht')
 have hl:t<(d.toList.flatMap enc).length:=by rw[flat_len h];simpa using ht'
 rw[List.getElem?_eq_getElem hl] at hg
 have e1:(d.toList)[t / k]! = d[t / k]!:=by cases d;exact List.getElem!_toArray.symm
 rw[e1] at hg
 obtain⟨hm,hv⟩:=List.getElem?_eq_some_iff.1 hg.symm
 rw[getElem!_pos (enc d[t / k]!) _ hm,hv,List.getElem!_toArray,getElem!_pos (d.toList.flatMap enc) t hl]

omit [Inhabited α] in
theorem flat_one (h:EncOk enc k)(l:List α)(j:Nat)(d:D)(hd:(l.flatMap (dnOf enc))[j]? = some d):d.one=true:=by
 rw[flat_dn,List.getElem?_map] at hd
 obtain⟨v,_,rfl⟩:=Option.map_eq_some_iff.1 hd
 rfl

omit [Inhabited α] in
theorem flat_rd (h:EncOk enc k){w:World}{S:Sets}(l:List α)(j:Nat)(v:Value)(d:D)(hv:(l.flatMap enc)[j]? = some v)(hd:(l.flatMap (dnOf enc))[j]? = some d):RdD w S v d:=by
 rw[flat_dn,List.getElem?_map,hv] at hd
 cases hd
 obtain⟨x,_,hx⟩:=List.mem_flatMap.1 (List.mem_of_getElem? hv)
 exact .v (h.pl x v hx)

theorem sortWorld_st (h:EncOk enc k){w:World}{S:Sets}{foot:Nat→Prop}{bs:List D}{b:Nat}{e:TypeId}{xs:List α}(hst:StOk w S foot bs)(hS:∀b o,S b o→b<w.heap.size)(hfl:∀b,foot b→b<w.heap.size)(hb:bs[b]? = some (.blk e k (xs.flatMap (dnOf enc))))(m:Nat)(os:Array Obj)(d:Array α)(hd:d.size=xs.length) :
  StOk (sortWorldK enc k w (S.loc b) 0 m d os) S foot (bs.set b (.blk e k (d.toList.flatMap (dnOf enc))))∧Keeps S w (sortWorldK enc k w (S.loc b) 0 m d os)∧(sortWorldK enc k w (S.loc b) 0 m d os).os=w.os∧TL (sortWorldK enc k w (S.loc b) 0 m d os) w∧(sortWorldK enc k w (S.loc b) 0 m d os).output=w.output∧w.heap.size≤(sortWorldK enc k w (S.loc b) 0 m d os).heap.size∧(∀k',k'<w.heap.size→¬foot k'→(sortWorldK enc k w (S.loc b) 0 m d os).heap[k']? = w.heap[k']?):=
 row_worldV (zs:=d.toList.flatMap enc) hst hS hfl hb (by rw[flat_dn];simp) (by rw[flat_len h,flat_dn,List.length_map,flat_len h];simp[hd]) (flat_one h _) (flat_rd h _) (by unfold sortWorldK putRowK;rw[flatK_eq h])

theorem args2_rd {w:World}{S:Sets}{u v:Value}{du dv:D}{cb:Array Value}{caps:List D}(hu:RdD w S u du)(hv:RdD w S v dv)(hc:∀(i:Nat) (v:Value) (d:D),cb[i]? = some v→caps[i]? = some d→RdD w S v d) :
  ∀(i:Nat) (x:Value) (d:D),(#[u,v]++cb)[i]? = some x→([du,dv]++caps)[i]? = some d→RdD w S x d:=by
 intro i x d hx hd
 rw[Array.getElem?_append] at hx
 match i with
 | 0=>simp at hx hd;subst hx hd;exact hu
 | 1=>simp at hx hd;subst hx hd;exact hv
 | i+2=>
  simp at hx hd
  exact hc i x d hx hd

theorem cmp_lays {g:FuncId} {cf:α→α→Int} {caps:List D} {cb:Array Value} (he:EncOk enc k) (hcmp:∀(st:List D) (x y:α),FSpecR P g (.st st) ([.agg (dnOf enc x),.agg (dnOf enc y)]++caps) (.v (.int .i64 (cf x y))))
  {w:World} {S:Sets} {foot:Nat→Prop} {bs:List D} {b:Nat} {e:TypeId} {xs:List α} (hst:StOk w S foot bs) (hhold:HoldOk w S foot) (hS:∀b o,S b o→b<w.heap.size) (hfl:∀b,foot b→b<w.heap.size) (hb:bs[b]? = some (.blk e k (xs.flatMap (dnOf enc))))
  (hcl:cb.size=caps.length) (hcr:∀(i:Nat) (v:Value) (d:D),cb[i]? = some v→caps[i]? = some d→RdD w S v d):CmpLays P g cb enc k cf (S.loc b) 0 xs.toArray.size w:=by
 intro m os dk hdk x y
 obtain⟨k1,k2,k3,k4,k5,k6,k7⟩:=sortWorld_st he hst hS hfl hb m os dk (by simpa using hdk)
 generalize sortWorldK enc k w (S.loc b) 0 m dk os=W at k1 k2 k3 k4 k5 k6 k7
 have hagg:∀x:α,RdD W S (.agg (enc x).toArray) (.agg (dnOf enc x)):=fun x=>
  .agg (by simp[dnOf]) (fun i d hd=>by
   simp only[dnOf,List.getElem?_map,Option.map_eq_some_iff] at hd
   obtain⟨_,_,rfl⟩:=hd
   rfl) fun i v d hv hd=>by
   simp only[dnOf,List.getElem?_map,Option.map_eq_some_iff] at hd
   obtain⟨v',hv',rfl⟩:=hd
   rw[List.getElem?_toArray,hv'] at hv
   cases hv
   exact .v (he.pl x _ (List.mem_of_getElem? hv'))
 have h1:HoldOk W S foot:=fun l rec hl'=>by
  obtain⟨a1,a2⟩:=hhold l rec hl'
  exact⟨(k7 l (Array.getElem?_eq_some_iff.1 a1).1 a2).trans a1,a2⟩
 have h2:(#[Value.agg (enc x).toArray,.agg (enc y).toArray]++cb).size=([D.agg (dnOf enc x),.agg (dnOf enc y)]++caps).length:=by
  simp only[Array.size_append,List.size_toArray,List.length_append,List.length_cons,List.length_nil,hcl]
 have h3:=args2_rd (hagg x) (hagg y) (fun i v d h1 h2=>(hcr i v d h1 h2).keep k2 (Sets.le_refl _))
 have hspec:=hcmp (bs.set b (.blk e k (dk.toList.flatMap (dnOf enc)))) x y W S foot (bs.set b (.blk e k (dk.toList.flatMap (dnOf enc)))) (#[.agg (enc x).toArray,.agg (enc y).toArray]++cb) rfl k1 h1 (fun b' hb'=>Nat.lt_of_lt_of_le (hfl b' hb') k6) (fun b' o ho=>Nat.lt_of_lt_of_le (hS b' o ho) k6) h2 h3
 clear k1 h1 h2 h3 hcmp
 refine Calls.mono hspec ?_
 rintro e' w'' ⟨v,S',⟨rfl,hrv⟩,hblw,_⟩
 obtain⟨rfl,_⟩:=hrv.v_inv
 exact⟨rfl,grown_of_blw hblw⟩

theorem sortFuncK {f g:FuncId} {cf:α→α→Int} {caps:List D} {srt:Array α→Array α} (he:EncOk enc k)
  (h:∀(cb:Array Value) (blk off cap:Nat) (d:Array α) (w:World),CmpLays P g cb enc k cf blk off d.size w→HoldsK enc k w blk off d→blk<w.heap.size→d.size<4611686018427387904→Calls P f #[.slice (some ⟨blk,off,none⟩) d.size cap,.func (.func g) #[] cb] w fun e w'=>e=.returned (.tuple #[])∧∃n os,w'=sortWorldK enc k w blk off n (srt d) os)
  (hsrt:∀d,(srt d).size=d.size) (hcmp:∀(st:List D) (x y:α),FSpecR P g (.st st) ([.agg (dnOf enc x),.agg (dnOf enc y)]++caps) (.v (.int .i64 (cf x y))))
  {bs:List D} {b:Nat} {e:TypeId} {xs:List α} (hb:bs[b]? = some (.blk e k (xs.flatMap (dnOf enc)))) (hL:xs.length<4611686018427387904) :
  FSpecW P f (.st bs) [.sl b 0 xs.length,.fn g [] caps] (.tup []) (.st (bs.set b (.blk e k ((srt xs.toArray).toList.flatMap (dnOf enc))))):=by
 intro w S foot bs0 vs heq hst hhold hfl hS hvl hrd
 cases heq
 obtain⟨v,u,rfl⟩:∃v u,vs=#[v,u]:=by
  match vs,hvl with
  | ⟨[v,u]⟩,_=>exact⟨v,u,rfl⟩
 have hv:=hrd 0 v (.sl b 0 xs.length) rfl rfl
 have hu:=hrd 1 u (.fn g [] caps) rfl rfl
 cases hv with
 | sl hn hl hc h0=>
 rename_i c
 cases hu with
 | @fn _ us cb _ _ hul hcl hur hcr=>
 have hus:us=#[]:=by simpa using hul
 subst hus
 obtain⟨hf,us,⟨e0,hh,_⟩,hsz,hlen,hone,hr,hns⟩:=hst.cells b _ _ _ hb
 have hfl2:(xs.flatMap (dnOf enc)).length=xs.length*k:=by rw[flat_dn,List.length_map,flat_len he]
 have hholds:HoldsK enc k w (S.loc b) 0 xs.toArray:=by
  intro j hj
  rw[flatK_eq he] at hj ⊢
  have hj':j<(xs.flatMap enc).length:=by simpa using hj
  have hjv:j<us.size:=by rw[hfl2] at hlen;rw[flat_len he] at hj';omega
  have hd:(xs.flatMap (dnOf enc))[j]? = some (.v (xs.flatMap enc)[j]):=by rw[flat_dn];simp[hj']
  have:=hr j us[j] _ (Array.getElem?_eq_getElem hjv) hd
  obtain⟨e1,_⟩:=this.v_inv
  refine⟨?_,by simp[World.frozen?,hh]⟩
  rw[Nat.zero_add,cell_heap hh,Array.getElem?_eq_getElem hjv,e1,List.getElem!_toArray,getElem!_pos (xs.flatMap enc) j hj']
  rfl
 have hlays:=cmp_lays (cb:=cb) he hcmp hst hhold hS hfl hb hcl hcr
 refine(h cb (S.loc b) 0 c xs.toArray w hlays hholds (hfl _ hf) (by simpa using hL)).mono ?_
 rintro _ w' ⟨rfl,n,os,rfl⟩
 obtain⟨k1,k2,k3,k4,k5,k6,k7⟩:=sortWorld_st he hst hS hfl hb n os (srt xs.toArray) (by rw[hsrt];simp)
 exact⟨.tuple #[],S,foot,_,⟨rfl,.tup rfl fun i v d hv=>by simp at hv⟩,rfl,k1,k2,Sets.le_refl _,k3,k4,k5,k6,k7,fun k' hk=>⟨.inl hk,Nat.lt_of_lt_of_le (hfl k' hk) k6⟩,fun k' o hk=>.inl hk,fun k' o hk=>Nat.lt_of_lt_of_le (hS k' o hk) k6⟩

end Go.Am.Srt

/-
 A slice of the store that a function hands back becomes data.
-/
namespace Go.Am
variable {P:Program} {f:FuncId} {h:D} {ds:List D} {bs:List D} {b n sz:Nat} {e:TypeId} {cs es:List D}

theorem FSpecW.frz (hs:FSpecW P f h ds (.sl b 0 n) (.st bs)) (hb:bs[b]? = some (.blk e sz cs)) (hcs:cs.length=n*sz) (hes:es.length=n)
  (he:∀(i:Nat) (x:D),es[i]? = some x→x.cells.length=sz∧∀(j:Nat) (d:D),x.cells[j]? = some d→cs[i*sz+j]? = some d):FSpecW P f h ds (.lst es) (.st (bs.set b (.tup []))):=by
 intro w S foot bs0 vs heq hst hhold hfl hS hvl hrd
 refine(hs w S foot bs0 vs heq hst hhold hfl hS hvl hrd).mono ?_
 rintro e' w' ⟨v,S',foot',bs',hends,heq',hst',hk,hle,hos,htl,hout,hsz,hold,hfoot,hmem,hlt⟩
 cases heq'
 obtain⟨rfl,hv⟩:=hends
 obtain⟨hfb,vals,hca,hvs,hcl,hone,hrdc,hns⟩:=hst'.cells b e sz cs hb
 obtain⟨e2,hheap,_⟩:=id hca
 have hlive:∀{i:Nat} {x:D},bs[i]? = some x→x.live=true→i≠b→S'.loc i≠S'.loc b:=fun hi hx hib hl=>hib (hst'.inj _ _ _ _ hi hb hx rfl hl)
 let S2:Sets:={ S' with mem:=fun x o=>S' x o∨(x=S'.loc b∧o<cs.length) }
 have hle2:S'≤S2:=⟨fun _ _ h=>.inl h,Nat.le_refl _,fun _ _=>rfl,fun _ _=>rfl,rfl⟩
 have hk0:Keeps S' w' w':=fun _ _ _=>rfl
 have hget:∀{i:Nat} {x:D},(bs.set b (.tup []))[i]? = some x→x.live=true→i≠b∧bs[i]? = some x:=by
  intro i x hi hx
  rw[List.getElem?_set] at hi
  split at hi
  ·split at hi
   ·cases hi;cases hx
   ·cases hi
  ·rename_i hne
   exact⟨fun e=>hne e.symm,hi⟩
 refine⟨v,S2,fun x=>foot' x∧x≠S'.loc b,bs.set b (.tup []),⟨rfl,?_⟩,rfl,?_,hk,Sets.le_trans hle hle2,hos,htl,hout,hsz,hold,fun x hx=>hfoot x hx.1,fun x o hx=>?_,fun x o hx=>?_⟩
 ·cases hv with
  | sl hn hl hc h0=>
  refine .lst (size:=sz) (val:=fun i j=>vals.getD (i*sz+j) .nilFunc) hes.symm hl hc (fun i x hx=>(he i x hx).1) (fun i x j d hx hd=>hone _ _ ((he i x hx).2 j d hd)) (fun i x j d hx hd=>.inr ⟨rfl,?_⟩) (fun i x j d hx hd=>?_) fun i x j d hx hd=>?_
  ·rw[Nat.zero_add]
   exact(List.getElem?_eq_some_iff.1 ((he i x hx).2 j d hd)).1
  ·have h1:=(List.getElem?_eq_some_iff.1 ((he i x hx).2 j d hd)).1
   have h2:i*sz+j<vals.size:=Nat.lt_of_lt_of_le h1 hcl
   rw[cell_heap hheap,Nat.zero_add,Array.getElem?_eq_getElem h2,Array.getD_eq_getD_getElem?,Array.getElem?_eq_getElem h2]
   rfl
  ·have h1:=(List.getElem?_eq_some_iff.1 ((he i x hx).2 j d hd)).1
   have h2:i*sz+j<vals.size:=Nat.lt_of_lt_of_le h1 hcl
   exact(hrdc (i*sz+j) _ d (by rw[Array.getD_eq_getD_getElem?,Array.getElem?_eq_getElem h2];rfl) ((he i x hx).2 j d hd)).keep hk0 hle2
 ·refine⟨by simpa using hst'.n,fun i e1 sz1 cs1 hi=>?_,fun x off hx=>?_,fun i kvs hi=>?_,fun i j x y hi hj hx hy hl=>?_,fun i m n1 seen hi=>?_⟩
  ·obtain⟨hib,hi⟩:=hget hi rfl
   obtain⟨a1,v1,a2,a3,a4,a5,a6,a7⟩:=hst'.cells i e1 sz1 cs1 hi
   have hne:=hlive hi rfl hib
   exact⟨⟨a1,hne⟩,v1,a2,a3,a4,a5,fun j v d hv hd=>(a6 j v d hv hd).keep hk0 hle2,fun off ho=>ho.elim (a7 off) fun g=>hne g.1⟩
  ·exact fun ho=>ho.elim (hst'.nos x off hx.1) fun g=>hx.2 g.1
  ·obtain⟨hib,hi⟩:=hget hi rfl
   obtain⟨a1,es1,clock,a2,a3,a4,a5⟩:=hst'.maps i kvs hi
   have hne:=hlive hi rfl hib
   exact⟨⟨a1,hne⟩,es1,clock,a2,a3,fun off ho=>ho.elim (a4 off) fun g=>hne g.1,fun j e1 kv h1 h2=>by
    obtain⟨dk,dv,q1,q2,q3⟩:=a5 j e1 kv h1 h2
    exact⟨dk,dv,q1,q2.keep hk0 hle2,q3.keep hk0 hle2⟩⟩
  ·exact hst'.inj i j x y (hget hi hx).2 (hget hj hy).2 hx hy hl
  ·obtain⟨hib,hi⟩:=hget hi rfl
   obtain⟨a1,a2,a3,a4⟩:=hst'.its i m n1 seen hi
   have hne:=hlive hi rfl hib
   exact⟨⟨a1,hne⟩,a2,a3,fun off ho=>ho.elim (a4 off) fun g=>hne g.1⟩
 ·rcases hx with hx | ⟨rfl,_⟩
  ·exact hmem x o hx
  ·rcases(hfoot _ hfb).1 with g | g
   ·exact .inr (.inl g)
   ·exact .inr (.inr g)
 ·rcases hx with hx | ⟨rfl,_⟩
  ·exact hlt x o hx
  ·exact(hfoot _ hfb).2

theorem FSpecW.frzNil (hs:FSpecW P f h ds .snil (.st bs)):FSpecW P f h ds (.lst []) (.st bs):=by
 intro w S foot bs0 vs heq hst hhold hfl hS hvl hrd
 refine(hs w S foot bs0 vs heq hst hhold hfl hS hvl hrd).mono ?_
 rintro e' w' ⟨v,S',foot',bs',⟨rfl,hv⟩,hr⟩
 cases hv with
 | snil=>exact⟨_,S',foot',bs',⟨rfl,.nil⟩,hr⟩

end Go.Am
