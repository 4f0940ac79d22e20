/-
 A slice of the store that a function hands back beside a value becomes data.
-/
import Derived.Test.YtgebemgmpfpjbaaAmSortFtoAmFrzS
set_option linter.unusedSimpArgs false
set_option linter.unusedVariables false
namespace Go.Am
variable {P:Program} {f:FuncId} {h:D} {ds:List D} {bs:List D} {b n sz:Nat} {e:TypeId} {cs es:List D} {x2:Value}

theorem FSpecW.frzT (hs:FSpecW P f h ds (.tup [.sl b 0 n,.v x2]) (.st bs)) (hb:bs[b]? = some (.blk e sz cs)) (hcs:cs.length=n*sz) (hes:es.length=n)
  (he:∀(i:Nat) (x:D),es[i]? = some x→x.cells.length=sz∧∀(j:Nat) (d:D),x.cells[j]? = some d→cs[i*sz+j]? = some d):FSpecW P f h ds (.tup [.lst es,.v x2]) (.st (bs.set b (.tup []))):=by
 intro w S foot bs0 vs heq hst hhold hfl hS hvl hrd
 refine(hs w S foot bs0 vs heq hst hhold hfl hS hvl hrd).mono ?_
 rintro e' w' ⟨v,S',foot',bs',hends,heq',hst',hk,hle,hos,htl,hout,hsz,hold,hfoot,hmem,hlt⟩
 cases heq'
 obtain⟨rfl,hv⟩:=hends
 obtain⟨hfb,vals,hca,hvs,hcl,hone,hrdc,hns⟩:=hst'.cells b e sz cs hb
 obtain⟨e2,hheap,_⟩:=id hca
 have hlive:∀{i:Nat} {x:D},bs[i]? = some x→x.live=true→i≠b→S'.loc i≠S'.loc b:=fun hi hx hib hl=>hib (hst'.inj _ _ _ _ hi hb hx rfl hl)
 let S2:Sets:={ S' with mem:=fun x o=>S' x o∨(x=S'.loc b∧o<cs.length) }
 have hle2:S'≤S2:=⟨fun _ _ h=>.inl h,Nat.le_refl _,fun _ _=>rfl,fun _ _=>rfl,rfl⟩
 have hk0:Keeps S' w' w':=fun _ _ _=>rfl
 have hget:∀{i:Nat} {x:D},(bs.set b (.tup []))[i]? = some x→x.live=true→i≠b∧bs[i]? = some x:=by
  intro i x hi hx
  rw[List.getElem?_set] at hi
  split at hi
  ·split at hi
   ·cases hi;cases hx
   ·cases hi
  ·rename_i hne
   exact⟨fun e=>hne e.symm,hi⟩
 refine⟨v,S2,fun x=>foot' x∧x≠S'.loc b,bs.set b (.tup []),⟨rfl,?_⟩,rfl,?_,hk,Sets.le_trans hle hle2,hos,htl,hout,hsz,hold,fun x hx=>hfoot x hx.1,fun x o hx=>?_,fun x o hx=>?_⟩
 ·cases hv with
  | tup hl2 hr2=>
  refine .tup (by simpa using hl2) fun i v d hv hd=>?_
  match i with
  | 1=>
   simp at hd
   subst hd
   exact(hr2 1 v (.v x2) hv rfl).keep hk0 hle2
  | 0=>
   simp at hd
   subst hd
   have hv:=hr2 0 v (.sl b 0 n) hv rfl
   cases hv with
   | sl hn hl hc h0=>
   refine .lst (size:=sz) (val:=fun i j=>vals.getD (i*sz+j) .nilFunc) hes.symm hl hc (fun i x hx=>(he i x hx).1) (fun i x j d hx hd=>hone _ _ ((he i x hx).2 j d hd)) (fun i x j d hx hd=>.inr ⟨rfl,?_⟩) (fun i x j d hx hd=>?_) fun i x j d hx hd=>?_
   ·rw[Nat.zero_add]
    exact(List.getElem?_eq_some_iff.1 ((he i x hx).2 j d hd)).1
   ·have h1:=(List.getElem?_eq_some_iff.1 ((he i x hx).2 j d hd)).1
    have h2:i*sz+j<vals.size:=Nat.lt_of_lt_of_le h1 hcl
    rw[cell_heap hheap,Nat.zero_add,Array.getElem?_eq_getElem h2,Array.getD_eq_getD_getElem?,Array.getElem?_eq_getElem h2]
    rfl
   ·have h1:=(List.getElem?_eq_some_iff.1 ((he i x hx).2 j d hd)).1
    have h2:i*sz+j<vals.size:=Nat.lt_of_lt_of_le h1 hcl
    exact(hrdc (i*sz+j) _ d (by rw[Array.getD_eq_getD_getElem?,Array.getElem?_eq_getElem h2];rfl) ((he i x hx).2 j d hd)).keep hk0 hle2
  | i+2=>simp at hd
 ·refine⟨by simpa using hst'.n,fun i e1 sz1 cs1 hi=>?_,fun x off hx=>?_,fun i kvs hi=>?_,fun i j x y hi hj hx hy hl=>?_,fun i m n1 seen hi=>?_⟩
  ·obtain⟨hib,hi⟩:=hget hi rfl
   obtain⟨a1,v1,a2,a3,a4,a5,a6,a7⟩:=hst'.cells i e1 sz1 cs1 hi
   have hne:=hlive hi rfl hib
   exact⟨⟨a1,hne⟩,v1,a2,a3,a4,a5,fun j v d hv hd=>(a6 j v d hv hd).keep hk0 hle2,fun off ho=>ho.elim (a7 off) fun g=>hne g.1⟩
  ·exact fun ho=>ho.elim (hst'.nos x off hx.1) fun g=>hx.2 g.1
  ·obtain⟨hib,hi⟩:=hget hi rfl
   obtain⟨a1,es1,clock,a2,a3,a4,a5⟩:=hst'.maps i kvs hi
   have hne:=hlive hi rfl hib
   exact⟨⟨a1,hne⟩,es1,clock,a2,a3,fun off ho=>ho.elim (a4 off) fun g=>hne g.1,fun j e1 kv h1 h2=>by
    obtain⟨dk,dv,q1,q2,q3⟩:=a5 j e1 kv h1 h2
    exact⟨dk,dv,q1,q2.keep hk0 hle2,q3.keep hk0 hle2⟩⟩
  ·exact hst'.inj i j x y (hget hi hx).2 (hget hj hy).2 hx hy hl
  ·obtain⟨hib,hi⟩:=hget hi rfl
   obtain⟨a1,a2,a3,a4⟩:=hst'.its i m n1 seen hi
   have hne:=hlive hi rfl hib
   exact⟨⟨a1,hne⟩,a2,a3,fun off ho=>ho.elim (a4 off) fun g=>hne g.1⟩
 ·rcases hx with hx | ⟨rfl,_⟩
  ·exact hmem x o hx
  ·rcases(hfoot _ hfb).1 with g | g
   ·exact .inr (.inl g)
   ·exact .inr (.inr g)
 ·rcases hx with hx | ⟨rfl,_⟩
  ·exact hlt x o hx
  ·exact(hfoot _ hfb).2

theorem FSpecW.frzNilT (hs:FSpecW P f h ds (.tup [.snil,.v x2]) (.st bs)):FSpecW P f h ds (.tup [.lst [],.v x2]) (.st bs):=by
 intro w S foot bs0 vs heq hst hhold hfl hS hvl hrd
 refine(hs w S foot bs0 vs heq hst hhold hfl hS hvl hrd).mono ?_
 rintro e' w' ⟨v,S',foot',bs',⟨rfl,hv⟩,hr⟩
 cases hv with
 | tup hl2 hr2=>
 refine⟨_,S',foot',bs',⟨rfl,.tup (by simpa using hl2) fun i v d hv hd=>?_⟩,hr⟩
 match i with
 | 1=>
  simp at hd
  subst hd
  exact hr2 1 v (.v x2) hv rfl
 | 0=>
  simp at hd
  subst hd
  have hv:=hr2 0 v .snil hv rfl
  cases hv with
  | snil=>exact .nil
 | i+2=>simp at hd

theorem FSpecW.frzS {α:Type}{enc:α→List D}{d:α→D}{xs:List α}{s:D}(hsz:∀x,(enc x).length=sz)(hd:∀x,(d x).cells=enc x)(hs:FSpecW P f h ds (.tup [s,.v x2]) (.st bs))(hsl:SlOf bs e sz enc s xs) :
  ∃bs',FSpecW P f h ds (.tup [.lst (xs.map d),.v x2]) (.st bs')∧bs'.length=bs.length∧(∀i,s.sid≠some i→bs'[i]? = bs[i]?)∧(noyls bs=true→noyls bs'=true):=by
 rcases hsl with⟨rfl,rfl⟩ | ⟨i,rfl,hi⟩
 ·exact⟨bs,hs.frzNilT,rfl,fun _ _=>rfl,id⟩
 ·refine⟨_,hs.frzT (es:=xs.map d) hi (flat_length hsz) (by simp) fun k x hx=>?_,by simp,fun k hk=>?_,fun hn=>?_⟩
  ·rw[List.getElem?_map] at hx
   obtain⟨r,hr,rfl⟩:=Option.map_eq_some_iff.1 hx
   refine⟨by rw[hd,hsz],fun q c hc=>?_⟩
   rw[hd] at hc
   obtain⟨t,ht⟩:=flat_drop hsz hr
   rw[←List.getElem?_drop,ht,List.getElem?_append_left (List.getElem?_eq_some_iff.1 hc).1]
   exact hc
  ·rw[List.getElem?_set_ne]
   intro e
   exact hk (by rw[e];rfl)
  ·have h2:∀(l:List D) (k:Nat),noyls l=true→noyls (l.set k (.tup []))=true:=by
    intro l
    induction l with
    | nil=>intro k _;rfl
    | cons a r ih=>
     intro k hk
     simp only[noyls,Bool.and_eq_true] at hk
     cases k with
     | zero=>simp[noyls,hk.2,D.noyl]
     | succ k=>simp[noyls,hk.1,ih k hk.2]
   exact h2 bs i hn

end Go.Am
