/-
 A variable of the store that holds a slice that grows;stores one after the other.
-/
import Derived.Test.YtgebemgmpfpjbaaAmKeep
import Derived.Test.YtgebemgmpfpjbaaAmFrzT
set_option linter.unusedSimpArgs false
set_option linter.unusedVariables false
namespace Go.Am

theorem noyls_set:∀(l:List D) (k:Nat) (x:D),noyls l=true→x.noyl=true→noyls (l.set k x)=true
 | [],_,_,_,_=>rfl
 | a :: r,0,x,h,hx=>by
  simp only[noyls,Bool.and_eq_true] at h
  simp[noyls,h.2,hx]
 | a :: r,k+1,x,h,hx=>by
  simp only[noyls,Bool.and_eq_true] at h
  simp[noyls,h.1,noyls_set r k x h.2 hx]

structure OutI {α:Type}(b1:List D)(o:Nat)(ty e:TypeId)(sz:Nat)(enc:α→List D)(st:List D)(xs:List α):Prop where
 len:b1.length≤st.length
 old:∀i,i<b1.length→i≠o→st[i]? = b1[i]?
 ov:∃s,st[o]? = some (.blk ty 1 [s])∧SlOf st e sz enc s xs∧∀b,s.sid=some b→b1.length≤b
 ny:noyls st=true

section
variable {α:Type} {b1:List D} {o:Nat} {ty e:TypeId} {sz:Nat} {enc:α→List D} {st:List D} {xs:List α}

theorem OutI.push (h:OutI b1 o ty e sz enc st xs)(ho:o<b1.length){x:D}(hx:x.noyl=true):OutI b1 o ty e sz enc (st++[x]) xs where
 len:=by have:=h.len;simp;omega
 old i hi hne:=by rw[List.getElem?_append_left (Nat.lt_of_lt_of_le hi h.len)];exact h.old i hi hne
 ov:=by
  obtain⟨s,h1,h2,h3⟩:=h.ov
  exact⟨s,by rw[List.getElem?_append_left (Nat.lt_of_lt_of_le ho h.len)];exact h1,h2.keep fun i hi=>List.getElem?_append_left (h2.lt hi),h3⟩
 ny:=by rw[noyls_app,h.ny];simp[noyls,hx]

theorem OutI.app (h:OutI b1 o ty e sz enc st xs)(ho:o<b1.length){bytes:Nat}{x:α}{y:D}(hsz:∀x,(enc x).length=sz)(hy:y.cells=enc x)(hone:(enc x).all (·.one)=true)(hn:noyls (enc x)=true)(hb:(xs.length+1)*bytes≤140737488355328)(hm:xs.length+1≤maxLen) :
  ∃s bs1 st2,st[o]? = some (.blk ty 1 [s])∧D.apph e sz bytes (.st st) s (.lst [y])=some (.st bs1)∧D.apps (.st st) s (.lst [y])=some (.sl st.length 0 (xs.length+1))∧D.sto 1 (.st bs1) (.loc o 0) (.sl st.length 0 (xs.length+1))=some (.st st2) ∧
   OutI b1 o ty e sz enc st2 (xs++[x])∧st.length≤st2.length∧∀(k:Nat) (e':TypeId) (sz':Nat) (cs':List D),st[k]? = some (.blk e' sz' cs')→e'≠e→k≠o→st2[k]? = some (.blk e' sz' cs'):=by
 obtain⟨s,h1,h2,h3⟩:=h.ov
 obtain⟨bs1,a1,a2,a3,a4,a5⟩:=h2.append (bytes:=bytes) hsz hy hone hb hm
 have hol:o<st.length:=Nat.lt_of_lt_of_le ho h.len
 have hno:noyls bs1=true:=by
  have hyn:noyls (cellsL [y])=true:=by simpa[cellsL,hy] using hn
  rcases h2 with⟨rfl,rfl⟩ | ⟨i,rfl,hi⟩
  ·simp only[D.apph,D.asL,List.cons_ne_nil,if_false] at a1
   split at a1
   ·cases a1
    rw[noyls_app,h.ny]
    simp[noyls,D.noyl,hyn]
   ·cases a1
  ·simp only[D.apph,D.asL,List.cons_ne_nil,if_false] at a1
   simp only[D.cellsAt,hi,Option.bind_some] at a1
   split at a1
   ·cases a1
    have hin:=noyls_get h.ny hi
    rw[noyls_app,noyls_set st i (.tup []) h.ny rfl]
    simp only[D.noyl] at hin
    simp[noyls,D.noyl,noyls_app,hin,hyn]
   ·cases a1
 have hso:s.sid≠some o:=fun hs=>by have:=h3 o hs;omega
 have ho1:bs1[o]? = some (.blk ty 1 [s]):=by rw[a5 o hol hso,h1]
 refine⟨s,bs1,_,h1,a1,a2,sto_blk ho1 (by simp) rfl,⟨?_,fun i hi hne=>?_,⟨.sl st.length 0 (xs.length+1),?_,.inr ⟨st.length,by simp,?_⟩,fun b hb'=>?_⟩,?_⟩,?_,fun k e' sz' cs' hk he hne=>?_⟩
 ·rw[List.length_set,a4];have:=h.len;omega
 ·rw[List.getElem?_set_ne (Ne.symm hne),a5 i (Nat.lt_of_lt_of_le hi h.len) (fun hs=>by have:=h3 i hs;omega)]
  exact h.old i hi hne
 ·rw[List.getElem?_set_self (by rw[a4];omega)]
  rfl
 ·rw[List.getElem?_set_ne (by omega)]
  exact a3
 ·cases hb'
  exact h.len
 ·exact noyls_set _ _ _ hno (by simp[D.noyl,noyls])
 ·rw[List.length_set,a4];omega
 ·rw[List.getElem?_set_ne (Ne.symm hne),a5 k (List.getElem?_eq_some_iff.1 hk).1 (fun hs=>?_)]
  ·exact hk
  ·have:=h2.blk hs
   rw[hk] at this
   cases this
   exact he rfl

end

theorem seqOf {R:Nat→List D→List D→Prop}{J:Nat→List D→Prop}{N:Nat}{s0:List D}(h0:J 0 s0)(hs:∀k st,k<N→J k st→∃st',R k st st'∧J (k+1) st') :
  ∃f:Nat→List D,f 0=s0∧(∀k,k≤N→J k (f k))∧∀k,k<N→R k (f k) (f (k+1)):=by
 induction N with
 | zero=>exact⟨fun _=>s0,rfl,fun k hk=>by rw[Nat.le_zero.1 hk];exact h0,fun k hk=>absurd hk (Nat.not_lt_zero _)⟩
 | succ N ih=>
  obtain⟨f,f0,f1,f2⟩:=ih fun k st hk hJ=>hs k st (by omega) hJ
  obtain⟨st',r1,r2⟩:=hs N (f N) (by omega) (f1 N (Nat.le_refl _))
  refine⟨fun k=>if k≤N then f k else st',by simp[f0],fun k hk=>?_,fun k hk=>?_⟩
  ·simp only
   split
   ·exact f1 k (by assumption)
   ·rw[show k=N+1 by omega];exact r2
  ·simp only
   rw[if_pos (by omega)]
   split
   ·exact f2 k (by omega)
   ·rw[show k=N by omega];exact r1

end Go.Am
