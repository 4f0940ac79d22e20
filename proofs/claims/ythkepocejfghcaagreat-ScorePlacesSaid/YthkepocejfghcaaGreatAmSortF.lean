/-
 slices.SortFunc at a row of the store,by a comparison that only reads it: from the kit's contract to one's own.
-/
import Derived.Test.YthkepocejfghcaaGreatAmSortUtoAmRow
import Derived.Shelf.SlSortCmp.WholeK
set_option linter.unusedSimpArgs false
set_option linter.unusedVariables false
namespace Go.Am.jy
open Go.Shelf Go.RowKit Go.Lib Go.Sort Go.Proofs

variable {P:Program} {α:Type} [Inhabited α]

theorem zg {w w':World}(h:Blw w.heap.size w w'):∃q os',w'=grow (w.drewN q) os':=by
 refine⟨w'.drawn-w.drawn,w'.heap.extract w.heap.size w'.heap.size,?_⟩
 have hd:=h.dr
 have hheap:w'.heap=w.heap++w'.heap.extract w.heap.size w'.heap.size:=by
  refine Array.ext_getElem? fun k=>?_
  rw[Array.getElem?_append]
  split
  ·rename_i hk
   exact h.block k hk
  ·rename_i hk
   rw[Array.getElem?_extract]
   have hs:=h.size
   by_cases hk2:k<w'.heap.size
   ·rw[if_pos (by omega)]
    congr 1
    omega
   ·rw[if_neg (by omega)]
    exact Array.getElem?_eq_none (by omega)
 obtain⟨h1,h2,h3,h4,h5⟩:=w'
 have e1:=h.os
 have e2:=h.tape
 have e3:=h.output
 simp only at e1 e2 e3 hheap hd
 subst e1 e2 e3
 unfold grow World.drewN
 simp only[World.mk.injEq,and_true,true_and]
 exact⟨hheap,by omega⟩

structure B7 (enc:α→List Value)(k:Nat):Prop where
 len:∀x,(enc x).length=k
 pl:∀x v,v∈enc x→plain v=true

def qd (enc:α→List Value)(x:α):List D:=(enc x).map .v

variable {enc:α→List Value} {k:Nat}

omit [Inhabited α] in
theorem p4 (h:B7 enc k):∀l:List α,(l.flatMap enc).length=l.length*k
 | []=>by simp
 | x :: r=>by rw[List.flatMap_cons,List.length_append,p4 h r,h.len,List.length_cons,Nat.add_mul,Nat.one_mul,Nat.add_comm]

omit [Inhabited α] in
theorem vW (l:List α):l.flatMap (qd enc)=(l.flatMap enc).map .v:=by
 induction l with
 | nil=>rfl
 | cons x r ih=>rw[List.flatMap_cons,List.flatMap_cons,List.map_append,ih];rfl

omit [Inhabited α] in
theorem VT (h:B7 enc k)(l:List α)(j:Nat)(d:D)(hd:(l.flatMap (qd enc))[j]? = some d):d.one=true:=by
 rw[vW,List.getElem?_map] at hd
 obtain⟨v,_,rfl⟩:=Option.map_eq_some_iff.1 hd
 rfl

omit [Inhabited α] in
theorem YH (h:B7 enc k){w:World}{S:Sets}(l:List α)(j:Nat)(v:Value)(d:D)(hv:(l.flatMap enc)[j]? = some v)(hd:(l.flatMap (qd enc))[j]? = some d):bU w S v d:=by
 rw[vW,List.getElem?_map,hv] at hd
 cases hd
 obtain⟨x,_,hx⟩:=List.mem_flatMap.1 (List.mem_of_getElem? hv)
 exact .v (h.pl x v hx)

theorem Mn {w:World}{S:Sets}{u v:Value}{du dv:D}{cb:Array Value}{bT:List D}(hu:bU w S u du)(hv:bU w S v dv)(hc:∀(i:Nat) (v:Value) (d:D),cb[i]? = some v→bT[i]? = some d→bU w S v d) :
  ∀(i:Nat) (x:Value) (d:D),(#[u,v]++cb)[i]? = some x→([du,dv]++bT)[i]? = some d→bU w S x d:=by
 intro i x d hx hd
 rw[Array.getElem?_append] at hx
 match i with
 | 0=>simp at hx hd;subst hx hd;exact hu
 | 1=>simp at hx hd;subst hx hd;exact hv
 | i+2=>
  simp at hx hd
  exact hc i x d hx hd

end Go.Am.jy
