/- Texts. -/
import Derived.Test.YtjnipnanfjglpaaGreatDoorAmSoundtoAmUT
import Derived.Test.YtjnipnanfjglpaaGreatDoorAmUtoAmTabK
import Derived.Test.YtjnipnanfjglpaaGreatDoorAmPuretoAmRun
import Derived.Sort.Row
import Derived.Sort.Grow
set_option linter.unusedSimpArgs false
set_option linter.unusedVariables false
namespace Go.Am.Rm
section
def lt (c:Int→Int→Int)(x y:Int):Prop:=c x y<0∨(c x y=0∧x<y)
instance (c:Int→Int→Int) (x y:Int):Decidable (lt c x y):=by unfold lt;infer_instance
section
variable {c:Int→Int→Int} {uB:Int→Prop}
def ins (c:Int→Int→Int)(x:Int):List Int→List Int
 | []=>[x]
 | y :: r=>if lt c x y then x :: y :: r else y :: ins c x r
def so (c:Int→Int→Int):List Int→List Int
 | []=>[]
 | x :: l=>ins c x (so c l)
def blk (c:Int→Int→Int)(k:Nat)(l:List Int):List Int:=
 if h:0<k∧k<l.length then so c (l.take k)++blk c k (l.drop k) else so c l
termination_by l.length
decreasing_by simp;omega
end
end
section
set_option maxRecDepth 100000
set_option maxHeartbeats 4000000
abbrev J (n:Int):D:=.v (.int .i64 n)
abbrev V (b:Bool):D:=.v (.bool b)
def Row (bs:List D)(b:Nat)(e:TypeId)(xs:List Int):List D:=bs.set b (.blk e 1 (xs.map J))
section
variable {bs:List D} {b:Nat} {e:TypeId} {xs:List Int}
end
variable {P:Program} {bs:List D} {b:Nat} {e:TypeId} {cf aaG ajo auj auk aul aum:cF} {fn:D} {f132 f131 f129 f128 f122 f108:FuncId}
end
section
section
variable {α:Type} [Inhabited α] {enc:α→Value}
theorem JZ {w:World}{b off:Nat}{d:Array α}{c:Array Value}{e:TypeId}{fr:Nat×Nat}(h:w.heap[b]? = some (.cells c e fr)) :
  (Sort.putRow enc w b off d).heap[b]? = some (.cells (Sort.putCells enc off d c) e fr):=by
 simp[Sort.putRow,Sort.mapBlock,C0r,h,Sort.onCells]
theorem Df {w:World}{b off k:Nat}{d:Array α}(h:k≠b):(Sort.putRow enc w b off d).heap[k]? = w.heap[k]?:=by simp[Sort.putRow,Sort.mapBlock,C0r,B0O h]
theorem size_putRow {w:World}{b off:Nat}{d:Array α}:(Sort.putRow enc w b off d).heap.size=w.heap.size:=by simp[Sort.putRow,Sort.mapBlock]
end
theorem BZ {w w':World} {S:Sets} {az:Nat→Prop} {bs:List D} {b sz:Nat} {e:TypeId} {cs ys:List D} {zs:List Value} (hst:cI w S az bs) (hS:∀b o,S b o→b<w.heap.size) (fG:∀b,az b→b<w.heap.size) (hb:bs[b]? = some (.blk e sz cs)) (hl:ys.length≤zs.length) (hz:zs.length≤cs.length)
  (cV:∀(j:Nat) (d:D),ys[j]? = some d→d.one=true) (hyz:∀(j:Nat) (v:Value) (d:D),zs[j]? = some v→ys[j]? = some d→bA w S v d)
  {q:Nat} {os:Array Obj} (hw:w'=Sort.grow (Sort.putRow id (Sort.ahead w q) (S.loc b) 0 zs.toArray) os) :
  cI w' S az (bs.set b (.blk e sz ys))∧bM S w w'∧w'.os=w.os∧TL w' w∧w'.output=w.output∧w.heap.size≤w'.heap.size∧(∀k,k<w.heap.size→¬az k→w'.heap[k]? = w.heap[k]?):=by
 obtain⟨hf,vs,⟨e0,hh,xz⟩,bV,hlen,_,hr,jP⟩:=hst.cells b _ _ _ hb;have hlt:S.loc b<w.heap.size:=fG _ hf;have X5:(Sort.putRow id (Sort.ahead w q) (S.loc b) 0 zs.toArray).heap.size=w.heap.size:=size_putRow;have J1:∀k,k<w.heap.size→w'.heap[k]? = (Sort.putRow id (Sort.ahead w q) (S.loc b) 0 zs.toArray).heap[k]?:=fun k hk=>by rw[hw];unfold Sort.grow;simp only;rw[C0i (by rw[X5];exact hk)]
 have k8:∀k,k<w.heap.size→k≠S.loc b→w'.heap[k]? = w.heap[k]?:=fun k hk bQ=>by rw[J1 k hk,Df bQ];rfl
 have kP:w'.heap[S.loc b]? = some (.cells (Sort.putCells id 0 zs.toArray vs) e0 (0,0)):=by rw[J1 _ hlt];exact JZ (w:=Sort.ahead w q) hh
 have hK:bM S w w':=fun k o OU=>A0V (a:=⟨k,o,none⟩) (k8 k (hS k o OU) fun e=>jP o (e ▸ OU));refine⟨?_,hK,by rw[hw];rfl,⟨by rw[hw];rfl,by rw[hw];exact Nat.le_add_right _ _⟩,by rw[hw];rfl,by rw[hw];unfold Sort.grow;simp only[D0B];rw[X5];omega,fun k hk FD=>k8 k hk fun e=>FD (e ▸ hf)⟩;refine hst.set hK hb rfl (fun j x hj hx bQ=>k8 _ (fG _ (hst.iE hj hx)) bQ) (fun e' yG vR OK=>?_) (fun bU OK=>by cases OK) (fun OK=>by cases OK);cases OK;refine⟨_,⟨e0,kP,xz⟩,by simp[Sort.putCells,bV],by simp[Sort.putCells];omega,cV,fun j v d hv hd=>?_⟩;have hj:j<zs.length:=A0v (A0c.1 hd).1 hl;simp only[Sort.putCells,Array.getElem?_mapIdx,A0a] at hv;obtain⟨x,_,hx⟩:=hv;rw[A0z ⟨B0e _,by simp;omega⟩] at hx;have XY:zs[j]? = some v:=by rw[A0e hj,←hx];simp only[C0y,D0d,id_eq];rw[C0I zs j hj]
 exact(hyz j v d XY hd).keep hK (Sets.le_refl _)
end
end Go.Am.Rm
namespace Go.Am
section
open Go
variable {P:Program} {f:FuncId}
theorem ads (h:∀(b:Nat) (es:Array MapEntry) (clock:Nat) (w:World),w.heap[b]? = some (.map es clock)→Calls P f #[.map (some b)] w fun e w'=>e=.returned (.map (some w.heap.size))∧w'=w.alloc (.map es clock))
  {bs:List D} {i:Nat} {bU:List D} (hb:bs[i]? = some (.cg bU)):aZ P f (.st bs) [.mp i] (.mp bs.length) (.st (bs++[.cg bU])):=by
 intro w S az oD vs heq hst dN fG hS iL bO;cases heq;obtain⟨v,rfl⟩:∃v,vs=#[v]:=by
  match vs,iL with
  | ⟨[v]⟩,_=>exact⟨v,rfl⟩
 have hv:=bO 0 v (.mp i) rfl rfl;cases hv with
 | mp hi=>
  obtain⟨hf,es,clock,hh,bV,jP,hr⟩:=hst.maps i _ hb;refine(h (S.loc i) es clock w hh).mono ?_
  rintro _ w' ⟨rfl,rfl⟩
  have hK:bM S w (w.alloc (.map es clock)):=bM.alloc hS _;have hnS:∀off,¬S w.heap.size off:=fun off hs=>by have:=hS _ _ hs;omega
  have hle:=S.ua w.heap.size 0;have dP:cI (w.alloc (.map es clock)) (S.more w.heap.size 0) (fun c=>az c∨c=w.heap.size) (bs++[.cg bU]):=
   qK (ρ:=⟨fun _=>0,fun _=>.map none,S,az⟩) (w:=w) hst hK rfl (fun k x hk hx=>by
    have:=fG _ (hst.iE hk hx);exact⟨hk,D0f this,g_ w _ _ this⟩) (fun _=>E0J) (fun e sz cs hz=>by cases hz) (fun qg hz=>by
    cases hz;exact⟨es,clock,C0p w _,bV,hr⟩) hnS
  refine⟨.map (some w.heap.size),_,_,_,⟨rfl,?_⟩,rfl,dP,hK,hle,rfl,⟨rfl,A0m _⟩,rfl,by simp,fun k hk _=>g_ w _ k hk,fun k hk=>?_,fun k o hk=>.inl hk,fun k o hk=>?_⟩
  ·have hm:=bA.mp (w:=w.alloc (.map es clock)) (S:=S.more w.heap.size 0) (i:=bs.length) (by simp[Sets.more,hst.n]);have hl:(S.more w.heap.size 0).loc bs.length=w.heap.size:=by simp[Sets.more,hst.n]
   rwa [hl] at hm
  ·rcases hk with hk | rfl
   ·exact⟨.inl hk,by have:=fG k hk;simp;omega⟩
   ·exact⟨.inr (A0m _),by simp⟩
  ·have:=hS k o hk;simp;omega
end
end Go.Am
