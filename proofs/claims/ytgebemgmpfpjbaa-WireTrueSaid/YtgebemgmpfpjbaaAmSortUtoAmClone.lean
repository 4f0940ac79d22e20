/-
  Several texts, one behind the other.
-/
import Derived.Test.YtgebemgmpfpjbaaAmOpentoAmSt2
import Derived.Test.YtgebemgmpfpjbaaAmPuretoAmDraw3
import Derived.Sort.Row
import Derived.Sort.Grow
set_option linter.unusedSimpArgs false
set_option linter.unusedVariables false
/-
 Stable sorting: the library's functions,as texts over the numbers of those that they call.
-/
namespace Go.Am.Srt

end Go.Am.Srt

/-
 Stable sorting of lists of numbers that grow: plain facts.
-/
namespace Go.Am.Srt

def lt (c:Int→Int→Int)(x y:Int):Prop:=c x y<0∨(c x y=0∧x<y)

instance (c:Int→Int→Int) (x y:Int):Decidable (lt c x y):=by unfold lt;infer_instance

structure Ord (c:Int→Int→Int)(dom:Int→Prop):Prop where
 anti:∀x y,dom x→dom y→(c x y<0↔0<c y x)
 trans:∀x y z,dom x→dom y→dom z→c x y≤0→c y z≤0→c x z≤0

section
variable {c:Int→Int→Int} {dom:Int→Prop}

def ins (c:Int→Int→Int)(x:Int):List Int→List Int
 | []=>[x]
 | y :: r=>if lt c x y then x :: y :: r else y :: ins c x r

def so (c:Int→Int→Int):List Int→List Int
 | []=>[]
 | x :: l=>ins c x (so c l)

def blk (c:Int→Int→Int)(k:Nat)(l:List Int):List Int:=
 if h:0<k∧k<l.length then so c (l.take k)++blk c k (l.drop k) else so c l
termination_by l.length
decreasing_by simp;omega

end
end Go.Am.Srt

/-
 Stable sorting: exchanges,rotation,insertion.
-/
namespace Go.Am.Srt
set_option maxRecDepth 100000
set_option maxHeartbeats 4000000

abbrev J (n:Int):D:=.v (.int .i64 n)
abbrev V (b:Bool):D:=.v (.bool b)

def Row (bs:List D)(b:Nat)(e:TypeId)(xs:List Int):List D:=bs.set b (.blk e 1 (xs.map J))

section
variable {bs:List D} {b:Nat} {e:TypeId} {xs:List Int}

theorem row_get (hb:b<bs.length):(Row bs b e xs)[b]? = some (.blk e 1 (xs.map J)):=by simp[Row,hb]
theorem row_ld (hb:b<bs.length){j:Nat}{x:Int}(hj:xs[j]? = some x):D.ld false 1 (.st (Row bs b e xs)) (.loc b (j*1))=some (J x):=by
 simp only[D.ld,D.cellsAt,row_get hb,Option.bind_some,Bool.false_eq_true,if_false]
 simp[hj]
theorem row_sto (hb:b<bs.length){j:Nat}(hj:j<xs.length){x:Int}:D.sto 1 (.st (Row bs b e xs)) (.loc b (j*1)) (J x)=some (.st (Row bs b e (xs.set j x))):=by
 rw[sto_blk (row_get hb) (by simpa using hj) rfl]
 simp[Row]
end

variable {P:Program} {bs:List D} {b:Nat} {e:TypeId} {cf cf132 cf131 cf129 cf128 cf122 cf108:StCfg} {fn:D} {f132 f131 f129 f128 f122 f108:FuncId}

end Go.Am.Srt

/-
 A row of the store whose cells the library's functions change in place.
-/
namespace Go.Am.Srt

section
variable {α:Type} [Inhabited α] {enc:α→Value}

theorem heap_putRow {w:World}{b off:Nat}{d:Array α}{c:Array Value}{e:TypeId}{fr:Nat×Nat}(h:w.heap[b]? = some (.cells c e fr)) :
  (Sort.putRow enc w b off d).heap[b]? = some (.cells (Sort.putCells enc off d c) e fr):=by
 simp[Sort.putRow,Sort.mapBlock,Array.getElem?_modify,h,Sort.onCells]

theorem heap_putRow_ne {w:World}{b off k:Nat}{d:Array α}(h:k≠b):(Sort.putRow enc w b off d).heap[k]? = w.heap[k]?:=by
 simp[Sort.putRow,Sort.mapBlock,Array.getElem?_modify,Ne.symm h]

theorem size_putRow {w:World}{b off:Nat}{d:Array α}:(Sort.putRow enc w b off d).heap.size=w.heap.size:=by
 simp[Sort.putRow,Sort.mapBlock]

theorem putRow_map (w:World)(b off:Nat)(d:Array α):Sort.putRow enc w b off d=Sort.putRow id w b off (d.map enc):=by
 refine Sort.mapBlock_congr w b _ _ fun c e fr _=>?_
 unfold Sort.putCells
 refine Array.ext_getElem? fun k=>?_
 simp only[Array.getElem?_mapIdx,Array.size_map]
 congr 1
 funext x
 split
 ·rename_i h
  have hk:k-off<d.size:=by omega
  rw[getElem!_pos d _ hk,getElem!_pos (d.map enc) _ (by simpa using hk)]
  simp
 ·rfl
end

theorem row_worldV {w w':World} {S:Sets} {foot:Nat→Prop} {bs:List D} {b sz:Nat} {e:TypeId} {cs ys:List D} {zs:List Value} (hst:StOk w S foot bs) (hS:∀b o,S b o→b<w.heap.size) (hfl:∀b,foot b→b<w.heap.size) (hb:bs[b]? = some (.blk e sz cs)) (hl:ys.length≤zs.length) (hz:zs.length≤cs.length)
  (hone:∀(j:Nat) (d:D),ys[j]? = some d→d.one=true) (hyz:∀(j:Nat) (v:Value) (d:D),zs[j]? = some v→ys[j]? = some d→RdD w S v d)
  {q:Nat} {os:Array Obj} (hw:w'=Sort.grow (Sort.putRow id (Sort.ahead w q) (S.loc b) 0 zs.toArray) os) :
  StOk w' S foot (bs.set b (.blk e sz ys))∧Keeps S w w'∧w'.os=w.os∧TL w' w∧w'.output=w.output∧w.heap.size≤w'.heap.size∧(∀k,k<w.heap.size→¬foot k→w'.heap[k]? = w.heap[k]?):=by
 obtain⟨hf,vs,⟨e0,hh,hty⟩,hsz,hlen,_,hr,hns⟩:=hst.cells b _ _ _ hb
 have hlt:S.loc b<w.heap.size:=hfl _ hf
 have hsz2:(Sort.putRow id (Sort.ahead w q) (S.loc b) 0 zs.toArray).heap.size=w.heap.size:=size_putRow
 have heap_old:∀k,k<w.heap.size→w'.heap[k]? = (Sort.putRow id (Sort.ahead w q) (S.loc b) 0 zs.toArray).heap[k]?:=fun k hk=>by
  rw[hw]
  unfold Sort.grow
  simp only
  rw[Array.getElem?_append_left (by rw[hsz2];exact hk)]
 have hother:∀k,k<w.heap.size→k≠S.loc b→w'.heap[k]? = w.heap[k]?:=fun k hk hne=>by
  rw[heap_old k hk,heap_putRow_ne hne]
  rfl
 have hnew:w'.heap[S.loc b]? = some (.cells (Sort.putCells id 0 zs.toArray vs) e0 (0,0)):=by
  rw[heap_old _ hlt]
  exact heap_putRow (w:=Sort.ahead w q) hh
 have hK:Keeps S w w':=fun k o hko=>World.cell?_of_block (a:=⟨k,o,none⟩) (hother k (hS k o hko) fun e=>hns o (e ▸ hko))
 refine⟨?_,hK,by rw[hw];rfl,⟨by rw[hw];rfl,by rw[hw];exact Nat.le_add_right _ _⟩,by rw[hw];rfl,by rw[hw];unfold Sort.grow;simp only[Array.size_append];rw[hsz2];omega,fun k hk hnf=>hother k hk fun e=>hnf (e ▸ hf)⟩
 refine hst.set hK hb rfl (fun j x hj hx hne=>hother _ (hfl _ (hst.live_foot hj hx)) hne) (fun e' sz' cs' hz'=>?_) (fun kvs hz'=>by cases hz') (fun m n seen hz'=>by cases hz')
 cases hz'
 refine⟨_,⟨e0,hnew,hty⟩,by simp[Sort.putCells,hsz],by simp[Sort.putCells];omega,hone,fun j v d hv hd=>?_⟩
 have hj:j<zs.length:=Nat.lt_of_lt_of_le (List.getElem?_eq_some_iff.1 hd).1 hl
 simp only[Sort.putCells,Array.getElem?_mapIdx,Option.map_eq_some_iff] at hv
 obtain⟨x,_,hx⟩:=hv
 rw[if_pos ⟨Nat.zero_le _,by simp;omega⟩] at hx
 have hz2:zs[j]? = some v:=by
  rw[List.getElem?_eq_getElem hj,←hx]
  simp only[Nat.sub_zero,List.getElem!_toArray,id_eq]
  rw[getElem!_pos zs j hj]
 exact(hyz j v d hz2 hd).keep hK (Sets.le_refl _)

end Go.Am.Srt

/-
 The library's functions that change a row of numbers in place: from the kit's contracts to these.
-/
namespace Go.Am.Srt

variable {P:Program} {f:FuncId}

end Go.Am.Srt

/-
 maps.Clone: from the kit's contract to one's own.
-/
namespace Go.Am
open Go

variable {P:Program} {f:FuncId}

theorem cloneW (h:∀(b:Nat) (es:Array MapEntry) (clock:Nat) (w:World),w.heap[b]? = some (.map es clock)→Calls P f #[.map (some b)] w fun e w'=>e=.returned (.map (some w.heap.size))∧w'=w.alloc (.map es clock))
  {bs:List D} {i:Nat} {kvs:List D} (hb:bs[i]? = some (.mblk kvs)):FSpecW P f (.st bs) [.mp i] (.mp bs.length) (.st (bs++[.mblk kvs])):=by
 intro w S foot bs0 vs heq hst hhold hfl hS hvl hrd
 cases heq
 obtain⟨v,rfl⟩:∃v,vs=#[v]:=by
  match vs,hvl with
  | ⟨[v]⟩,_=>exact⟨v,rfl⟩
 have hv:=hrd 0 v (.mp i) rfl rfl
 cases hv with
 | mp hi=>
  obtain⟨hf,es,clock,hh,hsz,hns,hr⟩:=hst.maps i _ hb
  refine(h (S.loc i) es clock w hh).mono ?_
  rintro _ w' ⟨rfl,rfl⟩
  have hK:Keeps S w (w.alloc (.map es clock)):=Keeps.alloc hS _
  have hnS:∀off,¬S w.heap.size off:=fun off hs=>by have:=hS _ _ hs;omega
  have hle:=S.le_more w.heap.size 0
  have hst':StOk (w.alloc (.map es clock)) (S.more w.heap.size 0) (fun c=>foot c∨c=w.heap.size) (bs++[.mblk kvs]):=
   stOk_moreG (ρ:=⟨fun _=>0,fun _=>.map none,S,foot⟩) (w:=w) hst hK rfl (fun k x hk hx=>by
    have:=hfl _ (hst.live_foot hk hx)
    exact⟨hk,Nat.ne_of_lt this,heapOld w _ _ this⟩) (fun _=>Iff.rfl) (fun e sz cs hz=>by cases hz) (fun kvs' hz=>by
    cases hz
    exact⟨es,clock,heap_alloc_new w _,hsz,hr⟩) hnS
  refine⟨.map (some w.heap.size),_,_,_,⟨rfl,?_⟩,rfl,hst',hK,hle,rfl,⟨rfl,Nat.le_refl _⟩,rfl,by simp,fun k hk _=>heapOld w _ k hk,fun k hk=>?_,fun k o hk=>.inl hk,fun k o hk=>?_⟩
  ·have hm:=RdD.mp (w:=w.alloc (.map es clock)) (S:=S.more w.heap.size 0) (i:=bs.length) (by simp[Sets.more,hst.n])
   have hl:(S.more w.heap.size 0).loc bs.length=w.heap.size:=by simp[Sets.more,hst.n]
   rwa [hl] at hm
  ·rcases hk with hk | rfl
   ·exact⟨.inl hk,by have:=hfl k hk;simp;omega⟩
   ·exact⟨.inr (Nat.le_refl _),by simp⟩
  ·have:=hS k o hk
   simp
   omega

end Go.Am
