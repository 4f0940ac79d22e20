/-
  Several texts, one behind the other.
-/
import Derived.Test.YthkepocejfghcaaAmFntoAmSt2
set_option linter.unusedSimpArgs false
set_option linter.unusedVariables false
/-
 Blocks of the store that may be forgotten;loops over a function;questions that are not asked.
-/
namespace Go.Am

def killD (x:D):D:=if x.noyl=true then x else .tup []
def kill (bs:List D):List D:=bs.map killD

theorem kill_len (bs:List D):(kill bs).length=bs.length:=by simp[kill]

theorem kill_live {bs:List D}{i:Nat}{x:D}(h:(kill bs)[i]? = some x)(hx:x.live=true):bs[i]? = some x:=by
 unfold kill at h
 rw[List.getElem?_map] at h
 cases hb:bs[i]? with
 | none=>rw[hb] at h;cases h
 | some y=>
  rw[hb] at h
  simp only[Option.map_some,Option.some.injEq,killD] at h
  split at h
  ·rw[h]
  ·subst h;simp[D.live] at hx

theorem StOk.kill {w:World}{S:Sets}{foot:Nat→Prop}{bs:List D}(h:StOk w S foot bs):StOk w S foot (kill bs) where
 n:=by rw[kill_len];exact h.n
 cells:=fun i e sz cs hi=>h.cells i e sz cs (kill_live hi rfl)
 nos:=h.nos
 maps:=fun i kvs hi=>h.maps i kvs (kill_live hi rfl)
 inj:=fun i j x y hi hj hx hy=>h.inj i j x y (kill_live hi hx) (kill_live hj hy) hx hy
 its:=fun i z hi hz=>h.its i z (kill_live hi (D.isIt_live hz)) hz

theorem FSpecWO.kill {P:Program}{f:FuncId}{h:D}{ds:List D}{o:Out}{bs:List D}(hs:FSpecWO P f h ds o (.st bs)):FSpecWO P f h ds o (.st (kill bs)):=by
 intro w S foot bs0 vs e h1 h2 h3 h4 h5 h6
 refine(hs w S foot bs0 vs e h1 h2 h3 h4 h5 h6).mono ?_
 rintro e W' ⟨v,S',foot',bs',k1,k2,k3,k4⟩
 cases k2
 exact⟨v,S',foot',Go.Am.kill bs,k1,rfl,k3.kill,k4⟩

section
variable {P:Program} {u v:U} {env env2:List D} {Q:Sig→Prop} {g h x:E} {st h' d:D} {ds:List D} {args:List E} {rs:List Bool} {p q:Bool}

theorem u_andF (hg:g.eval env=some (.v (.bool p)))(hp:p=false)(k:NrmD P u (env++[.v (.bool false)]) Q):denU P (.chain false g v u) env Q:=by
 subst hp
 exact⟨false,false,hg,fun e=>by simp at e,k⟩

end

section
variable {bs r:List D} {e e':TypeId} {n sz:Nat} {d0 d:D}

theorem ld_var:D.ld false 1 (.st (bs++.blk e sz [d0] :: r)) (.loc bs.length 0)=some d0:=ld_blk (e:=e) (sz:=sz) (cs:=[d0]) (by simp) rfl

end
end Go.Am

/-
 Calls by a value that may not happen.
-/
namespace Go.Am
section
variable {P:Program} {u:U} {env env2:List D} {Q:Sig→Prop} {g h x:E} {st h' d:D} {ds:List D} {args:List E} {rs:List Bool}

theorem u_orT {v:U}{p:Bool}(hg:g.eval env=some (.v (.bool p)))(hp:p=true)(k:NrmD P u (env++[.v (.bool true)]) Q):denU P (.chain true g v u) env Q:=by
 subst hp
 exact⟨true,true,hg,fun e=>by simp at e,k⟩

end

end Go.Am

/-
 A function's contract where the store's dead blocks are not told.
-/
namespace Go.Am

def Wk (bs bs':List D):Prop:=bs'.length=bs.length∧∀(i:Nat) (x:D),bs'[i]? = some x→x.live=true→bs[i]? = some x

theorem StOk.weak {w:World}{S:Sets}{foot:Nat→Prop}{bs bs':List D}(h:StOk w S foot bs)(hw:Wk bs bs'):StOk w S foot bs' where
 n:=h.n.trans hw.1.symm
 cells i e sz cs hi:=h.cells i e sz cs (hw.2 i _ hi rfl)
 nos:=h.nos
 maps i kvs hi:=h.maps i kvs (hw.2 i _ hi rfl)
 inj i j x y hi hj hx hy:=h.inj i j x y (hw.2 i x hi hx) (hw.2 j y hj hy) hx hy
 its i z hi hz:=h.its i z (hw.2 i _ hi (D.isIt_live hz)) hz

theorem Wk.refl (bs:List D):Wk bs bs:=⟨rfl,fun _ _ h _=>h⟩

theorem UOk.Wk {P:Program}{f:FuncId}{cf:StCfg}{ones:List Bool}{u:U}{ds bs bs':List D}{d:D}(h:UOk P f .plain cf ones u)(hfit:argsFit ones ds=true)(hden:denU P u (ds++[.st bs]) (fun s=>∃bs1,s=.ret (.tup [d,.st bs1])∧Go.Am.Wk bs1 bs')):FSpecW P f (.st bs) ds d (.st bs'):=by
 obtain⟨fn,hf,rfl,hc⟩:=h
 obtain⟨t,h1,h2⟩:=Option.bind_eq_some_iff.1 hc
 obtain⟨hl,_⟩:=argsFit_spec hfit
 have hd:=shorten_ok (by simpa[←hl] using h2) hden
 intro w S foot bs0 vs hb hst hhold hfl hS hvl hrd
 cases hb
 refine(calls_of_den (Qd:=fun d' st=>d'=d∧∃bs1,st=.st bs1∧Go.Am.Wk bs1 bs') (Qp:=fun _ _=>False) (may:=foot) hf h1 hfit (den_mono (fun s hs=>?_) hd) hst hhold hfl hS hvl hrd (fun _ h=>.inr h) fun _ h=>h).mono ?_
 ·obtain⟨bs1,rfl,hw⟩:=hs
  exact⟨rfl,bs1,rfl,hw⟩
 ·rintro e w' ⟨o',v,S',foot',bs2,hq,hends,hl⟩
  cases o' with
  | pan x=>exact hq.elim
  | ret x=>
   obtain⟨rfl,bs1,e1,hw⟩:=hq
   cases e1
   exact⟨v,S',foot',bs',hends,rfl,hl.st.weak hw,fun b o hs=>World.cell?_of_block (a:=⟨b,o,none⟩) (hl.old b (hS b o hs) fun hf=>hst.nos b o hf hs),hl.le,hl.os,hl.tape,hl.output,hl.size,hl.old,hl.ft,hl.new,hl.lt⟩

end Go.Am

/-
 A store of which only some new blocks are told.
-/
namespace Go.Am

theorem noyls_app:∀{a b:List D},noyls (a++b)=(noyls a&&noyls b)
 | [],b=>by simp[noyls]
 | x :: a,b=>by simp[noyls,noyls_app (a:=a),Bool.and_assoc]

def keepSt (bs:List D)(N:Nat)(ks:List (Nat×D)):List D:=
 (List.range N).map fun i=>if i<bs.length then bs.getD i (.tup []) else((ks.find? fun p=>p.1==i).map (·.2)).getD (.tup [])

variable {bs:List D} {N:Nat} {ks:List (Nat×D)}

theorem keep_len:(keepSt bs N ks).length=N:=by simp[keepSt]

theorem keep_wk {bs1:List D}(h1:bs1.length=N)(h2:∀i,i<bs.length→bs1[i]? = bs[i]?)(h3:∀p,p∈ks→bs1[p.1]? = some p.2):Wk bs1 (keepSt bs N ks):=by
 refine⟨by rw[keep_len,h1],fun i x hi hx=>?_⟩
 simp only[keepSt,List.getElem?_map] at hi
 cases hr:(List.range N)[i]? with
 | none=>rw[hr] at hi;cases hi
 | some k=>
  obtain⟨hk,rfl⟩:i<N∧k=i:=by
   obtain⟨h4,h5⟩:=List.getElem?_eq_some_iff.1 hr
   simp at h4 h5
   exact⟨h4,h5.symm⟩
  rw[hr] at hi
  simp only[Option.map_some,Option.some.injEq] at hi
  split at hi
  ·rename_i hb
   rw[h2 _ hb,List.getElem?_eq_getElem hb]
   rw[List.getD_eq_getElem?_getD,List.getElem?_eq_getElem hb] at hi
   simpa using hi
  ·cases hf:ks.find? (fun p=>p.1==k) with
   | none=>rw[hf] at hi;simp at hi;subst hi;cases hx
   | some p=>
    rw[hf] at hi
    simp only[Option.map_some,Option.getD_some] at hi
    have hp:=List.find?_some hf
    simp at hp
    have:=h3 p (List.mem_of_find?_eq_some hf)
    rw[hp,hi] at this
    exact this

theorem UOk.keep {P:Program} {f:FuncId} {cf:StCfg} {ones:List Bool} {u:U} {ds bs:List D} {d:D} (h:UOk P f .plain cf ones u) (hfit:argsFit ones ds=true) (N:Nat) (ks:List (Nat×D))
  (hden:denU P u (ds++[.st bs]) (fun s=>∃bs1,s=.ret (.tup [d,.st bs1])∧bs1.length=N∧(∀i,i<bs.length→bs1[i]? = bs[i]?)∧∀p,p∈ks→bs1[p.1]? = some p.2)):FSpecW P f (.st bs) ds d (.st (keepSt bs N ks)):=
 h.Wk hfit (denU_mono (fun s ⟨bs1,e,h1,h2,h3⟩=>⟨bs1,e,keep_wk h1 h2 h3⟩) hden)

end Go.Am

/-
 A slice of the store that a function hands back becomes data.
-/
namespace Go.Am
variable {P:Program} {f:FuncId} {h:D} {ds:List D} {bs:List D} {b n sz:Nat} {e:TypeId} {cs es:List D}

theorem FSpecW.frz (hs:FSpecW P f h ds (.sl b 0 n) (.st bs)) (hb:bs[b]? = some (.blk e sz cs)) (hcs:cs.length=n*sz) (hes:es.length=n)
  (he:∀(i:Nat) (x:D),es[i]? = some x→x.cells.length=sz∧∀(j:Nat) (d:D),x.cells[j]? = some d→cs[i*sz+j]? = some d):FSpecW P f h ds (.lst es) (.st (bs.set b (.tup []))):=by
 intro w S foot bs0 vs heq hst hhold hfl hS hvl hrd
 refine(hs w S foot bs0 vs heq hst hhold hfl hS hvl hrd).mono ?_
 rintro e' w' ⟨v,S',foot',bs',hends,heq',hst',hk,hle,hos,htl,hout,hsz,hold,hfoot,hmem,hlt⟩
 cases heq'
 obtain⟨rfl,hv⟩:=hends
 obtain⟨hfb,vals,hca,hvs,hcl,hone,hrdc,hns⟩:=hst'.cells b e sz cs hb
 obtain⟨e2,hheap,_⟩:=id hca
 have hlive:∀{i:Nat} {x:D},bs[i]? = some x→x.live=true→i≠b→S'.loc i≠S'.loc b:=fun hi hx hib hl=>hib (hst'.inj _ _ _ _ hi hb hx rfl hl)
 let S2:Sets:={ S' with mem:=fun x o=>S' x o∨(x=S'.loc b∧o<cs.length) }
 have hle2:S'≤S2:=⟨fun _ _ h=>.inl h,Nat.le_refl _,fun _ _=>rfl,fun _ _=>rfl,rfl,fun _ _=>rfl⟩
 have hk0:Keeps S' w' w':=fun _ _ _=>rfl
 have hget:∀{i:Nat} {x:D},(bs.set b (.tup []))[i]? = some x→x.live=true→i≠b∧bs[i]? = some x:=by
  intro i x hi hx
  rw[List.getElem?_set] at hi
  split at hi
  ·split at hi
   ·cases hi;cases hx
   ·cases hi
  ·rename_i hne
   exact⟨fun e=>hne e.symm,hi⟩
 refine⟨v,S2,fun x=>foot' x∧x≠S'.loc b,bs.set b (.tup []),⟨rfl,?_⟩,rfl,?_,hk,Sets.le_trans hle hle2,hos,htl,hout,hsz,hold,fun x hx=>hfoot x hx.1,fun x o hx=>?_,fun x o hx=>?_⟩
 ·cases hv with
  | sl hn hl hc h0=>
  refine .lst (size:=sz) (val:=fun i j=>vals.getD (i*sz+j) .nilFunc) hes.symm hl hc (fun i x hx=>(he i x hx).1) (fun i x j d hx hd=>hone _ _ ((he i x hx).2 j d hd)) (fun i x j d hx hd=>.inr ⟨rfl,?_⟩) (fun i x j d hx hd=>?_) fun i x j d hx hd=>?_
  ·rw[Nat.zero_add]
   exact(List.getElem?_eq_some_iff.1 ((he i x hx).2 j d hd)).1
  ·have h1:=(List.getElem?_eq_some_iff.1 ((he i x hx).2 j d hd)).1
   have h2:i*sz+j<vals.size:=Nat.lt_of_lt_of_le h1 hcl
   rw[cell_heap hheap,Nat.zero_add,Array.getElem?_eq_getElem h2,Array.getD_eq_getD_getElem?,Array.getElem?_eq_getElem h2]
   rfl
  ·have h1:=(List.getElem?_eq_some_iff.1 ((he i x hx).2 j d hd)).1
   have h2:i*sz+j<vals.size:=Nat.lt_of_lt_of_le h1 hcl
   exact(hrdc (i*sz+j) _ d (by rw[Array.getD_eq_getD_getElem?,Array.getElem?_eq_getElem h2];rfl) ((he i x hx).2 j d hd)).keep hk0 hle2
 ·refine⟨by simpa using hst'.n,fun i e1 sz1 cs1 hi=>?_,fun x off hx=>?_,fun i kvs hi=>?_,fun i j x y hi hj hx hy hl=>?_,fun i z hi hz=>?_⟩
  ·obtain⟨hib,hi⟩:=hget hi rfl
   obtain⟨a1,v1,a2,a3,a4,a5,a6,a7⟩:=hst'.cells i e1 sz1 cs1 hi
   have hne:=hlive hi rfl hib
   exact⟨⟨a1,hne⟩,v1,a2,a3,a4,a5,fun j v d hv hd=>(a6 j v d hv hd).keep hk0 hle2,fun off ho=>ho.elim (a7 off) fun g=>hne g.1⟩
  ·exact fun ho=>ho.elim (hst'.nos x off hx.1) fun g=>hx.2 g.1
  ·obtain⟨hib,hi⟩:=hget hi rfl
   obtain⟨a1,es1,clock,a2,a3,a4,a5⟩:=hst'.maps i kvs hi
   have hne:=hlive hi rfl hib
   exact⟨⟨a1,hne⟩,es1,clock,a2,a3,fun off ho=>ho.elim (a4 off) fun g=>hne g.1,fun j e1 kv h1 h2=>by
    obtain⟨dk,dv,q1,q2,q3⟩:=a5 j e1 kv h1 h2
    exact⟨dk,dv,q1,q2.keep hk0 hle2,q3.keep hk0 hle2⟩⟩
  ·exact hst'.inj i j x y (hget hi hx).2 (hget hj hy).2 hx hy hl
  ·obtain⟨hib,hi⟩:=hget hi (D.isIt_live hz)
   obtain⟨a1,a2,a4⟩:=hst'.its i z hi hz
   have hne:=hlive hi (D.isIt_live hz) hib
   exact⟨⟨a1,hne⟩,a2,fun off ho=>ho.elim (a4 off) fun g=>hne g.1⟩
 ·rcases hx with hx | ⟨rfl,_⟩
  ·exact hmem x o hx
  ·rcases(hfoot _ hfb).1 with g | g
   ·exact .inr (.inl g)
   ·exact .inr (.inr g)
 ·rcases hx with hx | ⟨rfl,_⟩
  ·exact hlt x o hx
  ·exact(hfoot _ hfb).2

end Go.Am

/-
 A slice of the store that a function hands back beside a value becomes data.
-/
namespace Go.Am
variable {P:Program} {f:FuncId} {h:D} {ds:List D} {bs:List D} {b n sz:Nat} {e:TypeId} {cs es:List D} {x2:Value}

end Go.Am

/-
 A variable of the store that holds a slice that grows;stores one after the other.
-/
namespace Go.Am

theorem noyls_set:∀(l:List D) (k:Nat) (x:D),noyls l=true→x.noyl=true→noyls (l.set k x)=true
 | [],_,_,_,_=>rfl
 | a :: r,0,x,h,hx=>by
  simp only[noyls,Bool.and_eq_true] at h
  simp[noyls,h.2,hx]
 | a :: r,k+1,x,h,hx=>by
  simp only[noyls,Bool.and_eq_true] at h
  simp[noyls,h.1,noyls_set r k x h.2 hx]

structure OutI {α:Type}(b1:List D)(o:Nat)(ty e:TypeId)(sz:Nat)(enc:α→List D)(st:List D)(xs:List α):Prop where
 len:b1.length≤st.length
 old:∀i,i<b1.length→i≠o→st[i]? = b1[i]?
 ov:∃s,st[o]? = some (.blk ty 1 [s])∧SlOf st e sz enc s xs∧∀b,s.sid=some b→b1.length≤b
 ny:noyls st=true

section
variable {α:Type} {b1:List D} {o:Nat} {ty e:TypeId} {sz:Nat} {enc:α→List D} {st:List D} {xs:List α}

theorem OutI.push (h:OutI b1 o ty e sz enc st xs)(ho:o<b1.length){x:D}(hx:x.noyl=true):OutI b1 o ty e sz enc (st++[x]) xs where
 len:=by have:=h.len;simp;omega
 old i hi hne:=by rw[List.getElem?_append_left (Nat.lt_of_lt_of_le hi h.len)];exact h.old i hi hne
 ov:=by
  obtain⟨s,h1,h2,h3⟩:=h.ov
  exact⟨s,by rw[List.getElem?_append_left (Nat.lt_of_lt_of_le ho h.len)];exact h1,h2.keep fun i hi=>List.getElem?_append_left (h2.lt hi),h3⟩
 ny:=by rw[noyls_app,h.ny];simp[noyls,hx]

theorem OutI.app (h:OutI b1 o ty e sz enc st xs)(ho:o<b1.length){bytes:Nat}{x:α}{y:D}(hsz:∀x,(enc x).length=sz)(hy:y.cells=enc x)(hone:(enc x).all (·.one)=true)(hn:noyls (enc x)=true)(hb:(xs.length+1)*bytes≤140737488355328)(hm:xs.length+1≤maxLen) :
  ∃s bs1 st2,st[o]? = some (.blk ty 1 [s])∧D.apph e sz bytes (.st st) s (.lst [y])=some (.st bs1)∧D.apps (.st st) s (.lst [y])=some (.sl st.length 0 (xs.length+1))∧D.sto 1 (.st bs1) (.loc o 0) (.sl st.length 0 (xs.length+1))=some (.st st2) ∧
   OutI b1 o ty e sz enc st2 (xs++[x])∧st.length≤st2.length∧∀(k:Nat) (e':TypeId) (sz':Nat) (cs':List D),st[k]? = some (.blk e' sz' cs')→e'≠e→k≠o→st2[k]? = some (.blk e' sz' cs'):=by
 obtain⟨s,h1,h2,h3⟩:=h.ov
 obtain⟨bs1,a1,a2,a3,a4,a5⟩:=h2.append (bytes:=bytes) hsz hy hone hb hm
 have hol:o<st.length:=Nat.lt_of_lt_of_le ho h.len
 have hno:noyls bs1=true:=by
  have hyn:noyls (cellsL [y])=true:=by simpa[cellsL,hy] using hn
  rcases h2 with⟨rfl,rfl⟩ | ⟨i,rfl,hi⟩
  ·simp only[D.apph,D.asL,List.cons_ne_nil,if_false] at a1
   split at a1
   ·cases a1
    rw[noyls_app,h.ny]
    simp[noyls,D.noyl,hyn]
   ·cases a1
  ·simp only[D.apph,D.asL,List.cons_ne_nil,if_false] at a1
   simp only[D.cellsAt,hi,Option.bind_some] at a1
   split at a1
   ·cases a1
    have hin:=noyls_get h.ny hi
    rw[noyls_app,noyls_set st i (.tup []) h.ny rfl]
    simp only[D.noyl] at hin
    simp[noyls,D.noyl,noyls_app,hin,hyn]
   ·cases a1
 have hso:s.sid≠some o:=fun hs=>by have:=h3 o hs;omega
 have ho1:bs1[o]? = some (.blk ty 1 [s]):=by rw[a5 o hol hso,h1]
 refine⟨s,bs1,_,h1,a1,a2,sto_blk ho1 (by simp) rfl,⟨?_,fun i hi hne=>?_,⟨.sl st.length 0 (xs.length+1),?_,.inr ⟨st.length,by simp,?_⟩,fun b hb'=>?_⟩,?_⟩,?_,fun k e' sz' cs' hk he hne=>?_⟩
 ·rw[List.length_set,a4];have:=h.len;omega
 ·rw[List.getElem?_set_ne (Ne.symm hne),a5 i (Nat.lt_of_lt_of_le hi h.len) (fun hs=>by have:=h3 i hs;omega)]
  exact h.old i hi hne
 ·rw[List.getElem?_set_self (by rw[a4];omega)]
  rfl
 ·rw[List.getElem?_set_ne (by omega)]
  exact a3
 ·cases hb'
  exact h.len
 ·exact noyls_set _ _ _ hno (by simp[D.noyl,noyls])
 ·rw[List.length_set,a4];omega
 ·rw[List.getElem?_set_ne (Ne.symm hne),a5 k (List.getElem?_eq_some_iff.1 hk).1 (fun hs=>?_)]
  ·exact hk
  ·have:=h2.blk hs
   rw[hk] at this
   cases this
   exact he rfl

end

end Go.Am
