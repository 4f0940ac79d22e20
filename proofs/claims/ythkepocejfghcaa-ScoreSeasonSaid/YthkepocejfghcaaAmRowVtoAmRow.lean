/-
  Several texts, one behind the other.
-/
import Derived.Test.YthkepocejfghcaaAmPuretoAmDraw3
import Derived.Sort.Row
import Derived.Sort.Grow
import Derived.Shelf.SlSortCmp.WholeK
import Derived.Test.YthkepocejfghcaaAmSortUtoAmSort5
set_option linter.unusedSimpArgs false
set_option linter.unusedVariables false
/-
 A row of the store whose cells the library's functions change in place.
-/
namespace Go.Am.Srt

section
variable {α:Type} [Inhabited α] {enc:α→Value}

theorem heap_putRow {w:World}{b off:Nat}{d:Array α}{c:Array Value}{e:TypeId}{fr:Nat×Nat}(h:w.heap[b]? = some (.cells c e fr)) :
  (Sort.putRow enc w b off d).heap[b]? = some (.cells (Sort.putCells enc off d c) e fr):=by
 simp[Sort.putRow,Sort.mapBlock,Array.getElem?_modify,h,Sort.onCells]

theorem heap_putRow_ne {w:World}{b off k:Nat}{d:Array α}(h:k≠b):(Sort.putRow enc w b off d).heap[k]? = w.heap[k]?:=by
 simp[Sort.putRow,Sort.mapBlock,Array.getElem?_modify,Ne.symm h]

theorem size_putRow {w:World}{b off:Nat}{d:Array α}:(Sort.putRow enc w b off d).heap.size=w.heap.size:=by
 simp[Sort.putRow,Sort.mapBlock]

theorem putRow_map (w:World)(b off:Nat)(d:Array α):Sort.putRow enc w b off d=Sort.putRow id w b off (d.map enc):=by
 refine Sort.mapBlock_congr w b _ _ fun c e fr _=>?_
 unfold Sort.putCells
 refine Array.ext_getElem? fun k=>?_
 simp only[Array.getElem?_mapIdx,Array.size_map]
 congr 1
 funext x
 split
 ·rename_i h
  have hk:k-off<d.size:=by omega
  rw[getElem!_pos d _ hk,getElem!_pos (d.map enc) _ (by simpa using hk)]
  simp
 ·rfl
end

theorem row_worldV {w w':World} {S:Sets} {foot:Nat→Prop} {bs:List D} {b sz:Nat} {e:TypeId} {cs ys:List D} {zs:List Value} (hst:StOk w S foot bs) (hS:∀b o,S b o→b<w.heap.size) (hfl:∀b,foot b→b<w.heap.size) (hb:bs[b]? = some (.blk e sz cs)) (hl:ys.length≤zs.length) (hz:zs.length≤cs.length)
  (hone:∀(j:Nat) (d:D),ys[j]? = some d→d.one=true) (hyz:∀(j:Nat) (v:Value) (d:D),zs[j]? = some v→ys[j]? = some d→RdD w S v d)
  {q:Nat} {os:Array Obj} (hw:w'=Sort.grow (Sort.putRow id (Sort.ahead w q) (S.loc b) 0 zs.toArray) os) :
  StOk w' S foot (bs.set b (.blk e sz ys))∧Keeps S w w'∧w'.os=w.os∧TL w' w∧w'.output=w.output∧w.heap.size≤w'.heap.size∧(∀k,k<w.heap.size→¬foot k→w'.heap[k]? = w.heap[k]?):=by
 obtain⟨hf,vs,⟨e0,hh,hty⟩,hsz,hlen,_,hr,hns⟩:=hst.cells b _ _ _ hb
 have hlt:S.loc b<w.heap.size:=hfl _ hf
 have hsz2:(Sort.putRow id (Sort.ahead w q) (S.loc b) 0 zs.toArray).heap.size=w.heap.size:=size_putRow
 have heap_old:∀k,k<w.heap.size→w'.heap[k]? = (Sort.putRow id (Sort.ahead w q) (S.loc b) 0 zs.toArray).heap[k]?:=fun k hk=>by
  rw[hw]
  unfold Sort.grow
  simp only
  rw[Array.getElem?_append_left (by rw[hsz2];exact hk)]
 have hother:∀k,k<w.heap.size→k≠S.loc b→w'.heap[k]? = w.heap[k]?:=fun k hk hne=>by
  rw[heap_old k hk,heap_putRow_ne hne]
  rfl
 have hnew:w'.heap[S.loc b]? = some (.cells (Sort.putCells id 0 zs.toArray vs) e0 (0,0)):=by
  rw[heap_old _ hlt]
  exact heap_putRow (w:=Sort.ahead w q) hh
 have hK:Keeps S w w':=fun k o hko=>World.cell?_of_block (a:=⟨k,o,none⟩) (hother k (hS k o hko) fun e=>hns o (e ▸ hko))
 refine⟨?_,hK,by rw[hw];rfl,⟨by rw[hw];rfl,by rw[hw];exact Nat.le_add_right _ _⟩,by rw[hw];rfl,by rw[hw];unfold Sort.grow;simp only[Array.size_append];rw[hsz2];omega,fun k hk hnf=>hother k hk fun e=>hnf (e ▸ hf)⟩
 refine hst.set hK hb rfl (fun j x hj hx hne=>hother _ (hfl _ (hst.live_foot hj hx)) hne) (fun e' sz' cs' hz'=>?_) (fun kvs hz'=>by cases hz') (fun hz'=>by cases hz')
 cases hz'
 refine⟨_,⟨e0,hnew,hty⟩,by simp[Sort.putCells,hsz],by simp[Sort.putCells];omega,hone,fun j v d hv hd=>?_⟩
 have hj:j<zs.length:=Nat.lt_of_lt_of_le (List.getElem?_eq_some_iff.1 hd).1 hl
 simp only[Sort.putCells,Array.getElem?_mapIdx,Option.map_eq_some_iff] at hv
 obtain⟨x,_,hx⟩:=hv
 rw[if_pos ⟨Nat.zero_le _,by simp;omega⟩] at hx
 have hz2:zs[j]? = some v:=by
  rw[List.getElem?_eq_getElem hj,←hx]
  simp only[Nat.sub_zero,List.getElem!_toArray,id_eq]
  rw[getElem!_pos zs j hj]
 exact(hyz j v d hz2 hd).keep hK (Sets.le_refl _)

end Go.Am.Srt

/-
 slices.SortFunc at a row of the store,by a comparison that only reads it: from the kit's contract to one's own.
-/
namespace Go.Am.Srt
open Go.Shelf Go.RowKit Go.Lib Go.Sort Go.Proofs

variable {P:Program} {α:Type} [Inhabited α]

theorem grown_of_blw {w w':World}(h:Blw w.heap.size w w'):∃q os',w'=grow (w.drewN q) os':=by
 refine⟨w'.drawn-w.drawn,w'.heap.extract w.heap.size w'.heap.size,?_⟩
 have hd:=h.dr
 have hheap:w'.heap=w.heap++w'.heap.extract w.heap.size w'.heap.size:=by
  refine Array.ext_getElem? fun k=>?_
  rw[Array.getElem?_append]
  split
  ·rename_i hk
   exact h.block k hk
  ·rename_i hk
   rw[Array.getElem?_extract]
   have hs:=h.size
   by_cases hk2:k<w'.heap.size
   ·rw[if_pos (by omega)]
    congr 1
    omega
   ·rw[if_neg (by omega)]
    exact Array.getElem?_eq_none (by omega)
 obtain⟨h1,h2,h3,h4,h5⟩:=w'
 have e1:=h.os
 have e2:=h.tape
 have e3:=h.output
 simp only at e1 e2 e3 hheap hd
 subst e1 e2 e3
 unfold grow World.drewN
 simp only[World.mk.injEq,and_true,true_and]
 exact⟨hheap,by omega⟩

structure EncOk (enc:α→List Value)(k:Nat):Prop where
 len:∀x,(enc x).length=k
 pl:∀x v,v∈enc x→plain v=true

def dnOf (enc:α→List Value)(x:α):List D:=(enc x).map .v

variable {enc:α→List Value} {k:Nat}

omit [Inhabited α] in
theorem flat_len (h:EncOk enc k):∀l:List α,(l.flatMap enc).length=l.length*k
 | []=>by simp
 | x :: r=>by rw[List.flatMap_cons,List.length_append,flat_len h r,h.len,List.length_cons,Nat.add_mul,Nat.one_mul,Nat.add_comm]

omit [Inhabited α] in
theorem flat_dn (l:List α):l.flatMap (dnOf enc)=(l.flatMap enc).map .v:=by
 induction l with
 | nil=>rfl
 | cons x r ih=>rw[List.flatMap_cons,List.flatMap_cons,List.map_append,ih];rfl

omit [Inhabited α] in
theorem flat_one (h:EncOk enc k)(l:List α)(j:Nat)(d:D)(hd:(l.flatMap (dnOf enc))[j]? = some d):d.one=true:=by
 rw[flat_dn,List.getElem?_map] at hd
 obtain⟨v,_,rfl⟩:=Option.map_eq_some_iff.1 hd
 rfl

omit [Inhabited α] in
theorem flat_rd (h:EncOk enc k){w:World}{S:Sets}(l:List α)(j:Nat)(v:Value)(d:D)(hv:(l.flatMap enc)[j]? = some v)(hd:(l.flatMap (dnOf enc))[j]? = some d):RdD w S v d:=by
 rw[flat_dn,List.getElem?_map,hv] at hd
 cases hd
 obtain⟨x,_,hx⟩:=List.mem_flatMap.1 (List.mem_of_getElem? hv)
 exact .v (h.pl x v hx)

theorem args2_rd {w:World}{S:Sets}{u v:Value}{du dv:D}{cb:Array Value}{caps:List D}(hu:RdD w S u du)(hv:RdD w S v dv)(hc:∀(i:Nat) (v:Value) (d:D),cb[i]? = some v→caps[i]? = some d→RdD w S v d) :
  ∀(i:Nat) (x:Value) (d:D),(#[u,v]++cb)[i]? = some x→([du,dv]++caps)[i]? = some d→RdD w S x d:=by
 intro i x d hx hd
 rw[Array.getElem?_append] at hx
 match i with
 | 0=>simp at hx hd;subst hx hd;exact hu
 | 1=>simp at hx hd;subst hx hd;exact hv
 | i+2=>
  simp at hx hd
  exact hc i x d hx hd

end Go.Am.Srt

/-
 The library's functions that change a row of numbers in place: from the kit's contracts to these.
-/
namespace Go.Am.Srt

theorem row_world {w w':World} {S:Sets} {foot:Nat→Prop} {bs:List D} {b:Nat} {e:TypeId} {xs ys zs:List Int} (hst:StOk w S foot bs) (hS:∀b o,S b o→b<w.heap.size) (hfl:∀b,foot b→b<w.heap.size) (hb:bs[b]? = some (.blk e 1 (xs.map J))) (hl:ys.length≤xs.length) (hz:zs.length=xs.length) (hyz:∀j,j<ys.length→zs[j]? = ys[j]?)
  {q:Nat} {os:Array Obj} (hw:w'=Sort.grow (Sort.putRow (Value.int .i64) (Sort.ahead w q) (S.loc b) 0 zs.toArray) os) :
  StOk w' S foot (bs.set b (.blk e 1 (ys.map J)))∧Keeps S w w'∧w'.os=w.os∧TL w' w∧w'.output=w.output∧w.heap.size≤w'.heap.size∧(∀k,k<w.heap.size→¬foot k→w'.heap[k]? = w.heap[k]?):=by
 rw[putRow_map] at hw
 refine row_worldV (zs:=zs.map (Value.int .i64)) hst hS hfl hb (by simp;omega) (by simp;omega) (fun j d hd=>?_) (fun j v d hv hd=>?_) (by simpa using hw)
 ·simp only[List.getElem?_map,Option.map_eq_some_iff] at hd
  obtain⟨n,_,rfl⟩:=hd
  rfl
 ·simp only[List.getElem?_map,Option.map_eq_some_iff] at hd hv
  obtain⟨n,hn,rfl⟩:=hd
  obtain⟨m,hm,rfl⟩:=hv
  have hj:j<ys.length:=(List.getElem?_eq_some_iff.1 hn).1
  rw[hyz j hj,hn] at hm
  cases hm
  exact .v rfl

theorem row_holds {w:World}{S:Sets}{foot:Nat→Prop}{bs:List D}{b:Nat}{e:TypeId}{xs:List Int}(hst:StOk w S foot bs)(hb:bs[b]? = some (.blk e 1 (xs.map J))):Sort.Holds (Value.int .i64) w (S.loc b) 0 xs.toArray:=by
 obtain⟨hf,vs,⟨e0,hh,_⟩,hsz,hlen,hone,hr,hns⟩:=hst.cells b _ _ _ hb
 intro j hj
 have hj':j<xs.length:=by simpa using hj
 have hvl:xs.length≤vs.size:=by simpa using hlen
 have hv:vs[j]? = some vs[j]:=Array.getElem?_eq_getElem (by omega)
 have h:=hr j vs[j] (J xs[j]) hv (by simp[hj'])
 have hx:vs[j]=.int .i64 xs[j]:=by
  generalize vs[j]=v at h
  cases h
  rfl
 refine⟨?_,?_⟩
 ·rw[Nat.zero_add,cell_heap hh,hv,hx]
  simp[hj']
 ·simp[World.frozen?,hh]

variable {P:Program} {f:FuncId}

end Go.Am.Srt
