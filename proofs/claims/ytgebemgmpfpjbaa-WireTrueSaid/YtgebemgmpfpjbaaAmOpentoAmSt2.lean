/-
  Several texts, one behind the other.
-/
import Derived.Test.YtgebemgmpfpjbaaAmDraw4toAmDefer2
import Derived.ProofKit
import Derived.OpenShut
import Derived.Carry
import Derived.Handed
set_option linter.unusedSimpArgs false
set_option linter.unusedVariables false
/-
 How the arguments of a law read: as data,with the bounds of their types;and the contract of a law,out of a function's contract over data.
-/
namespace Go.Am
noncomputable section

inductive Sh where
 | int (k:IntKind)
 | bool
 | str
 | sl (e:Sh)
 | st (fs:List Sh)
 deriving Inhabited

mutual
def Sh.size:Sh→Nat
 | .st fs=>Sh.sizes fs
 | _=>1
def Sh.sizes:List Sh→Nat
 | []=>0
 | s :: r=>s.size+Sh.sizes r
end

def Sh.isSt:Sh→Bool
 | .st _=>true
 | _=>false

def shFields (P:Program)(sh:TypeId→Option Sh):List Field→Nat→Option (List Sh)
 | [],_=>some []
 | f :: r,off=>if f.offset=off then(sh f.type).bind fun s=>if P.cellsOf f.type=s.size then(shFields P sh r (off+s.size)).map (s :: ·) else none else none

def shOf (P:Program):Nat→TypeId→Option Sh
 | 0,_=>none
 | n+1,t=>match P.underlying t with
  | some (.int k)=>some (.int k)
  | some .bool=>some .bool
  | some .string=>some .str
  | some (.slice e)=>(shOf P n e).bind fun s=>if P.cellsOf e=s.size∧0<s.size then some (.sl s) else none
  | some (.struct fs)=>(shFields P (shOf P n) fs.toList 0).bind fun l=>if P.cellsOf t=Sh.sizes l then some (.st l) else none
  | _=>none

mutual
def OfSh:Sh→List D→Prop
 | .int k,ds=>∃n,ds=[.v (.int k n)]∧k.min≤n∧n≤k.max
 | .bool,ds=>∃b,ds=[.v (.bool b)]
 | .str,ds=>∃s,ds=[.v (.string s)]∧s.size≤maxLen
 | .sl e,ds=>∃es,ds=[.lst es]∧es.length≤maxLen∧∀x,x∈es→(e.isSt=true→∃cs,x=.agg cs∧OfSh e cs)∧(e.isSt=false→OfSh e [x])
 | .st fs,ds=>OfAll fs ds
def OfAll:List Sh→List D→Prop
 | [],ds=>ds=[]
 | s :: r,ds=>∃a b,ds=a++b∧OfSh s a∧OfAll r b
end

def Sall (w:World):Sets:={ mem:=fun b _=>b<w.heap.size,loc:=fun _=>0,n:=0,cap:=fun _=>0 }

mutual
theorem OfSh.length:∀{s:Sh} {ds:List D},OfSh s ds→ds.length=s.size
 | .int _,_,⟨_,h,_⟩=>by rw[h];rfl
 | .bool,_,⟨_,h⟩=>by rw[h];rfl
 | .str,_,⟨_,h,_⟩=>by rw[h];rfl
 | .sl _,_,⟨_,h,_⟩=>by rw[h];rfl
 | .st _,_,h=>by simp only[OfSh] at h;rw[OfAll.length h];rfl
theorem OfAll.length:∀{l:List Sh} {ds:List D},OfAll l ds→ds.length=Sh.sizes l
 | [],_,h=>by simp only[OfAll] at h;rw[h];rfl
 | s :: r,_,h=>by
  simp only[OfAll] at h
  obtain⟨a,b,rfl,h1,h2⟩:=h
  rw[List.length_append,OfSh.length h1,OfAll.length h2]
  rfl
end

theorem cells_size {P:Program}:∀{n:Nat} {t:TypeId} {s:Sh},shOf P n t=some s→s.isSt=false→s.size=1:=by
 intro n t s h hs
 cases s <;> first | rfl | simp[Sh.isSt] at hs

section
variable {H:Type} {enc:TypeId×Value→H} {P:Program} {w:World}

theorem lt_of_cell {w:World}{a:Addr}{v:Value}(h:w.cell? a=some v):a.block<w.heap.size∧a.spot=none:=by
 unfold World.cell? at h
 split at h
 ·rename_i c _ _ hc
  split at h
  ·cases h
  ·rename_i hs
   exact⟨(Array.getElem?_eq_some_iff.1 hc).1,by simpa using hs⟩
 ·cases h

theorem cells_get {w:World}{base n:Nat}{a:Addr}{cs:List Value}(h:w.cells? base a n=some cs):cs.length=n∧∀j,j<n→w.cell? (a.add j)=cs[j]?:=by
 unfold World.cells? at h
 split at h
 ·have key:∀{l:List Nat} {cs:List Value},l.mapM (fun i=>w.cell? (a.add i))=some cs→cs.length=l.length∧∀(j i:Nat),l[j]? = some i→w.cell? (a.add i)=cs[j]?:=by
   intro l
   induction l with
   | nil=>intro cs h;simp at h;subst h;exact⟨rfl,by simp⟩
   | cons i l ih=>
    intro cs h
    simp only[List.mapM_cons,Option.bind_eq_bind,Option.bind_eq_some_iff,Option.pure_def,Option.some.injEq] at h
    obtain⟨v,h1,vs,h2,rfl⟩:=h
    obtain⟨h3,h4⟩:=ih h2
    refine⟨by simp[h3],fun j i' hj=>?_⟩
    cases j with
    | zero=>simp at hj;subst hj;simpa using h1
    | succ j=>simpa using h4 j i' (by simpa using hj)
  obtain⟨h1,h2⟩:=key h
  exact⟨by simpa using h1,fun j hj=>h2 j j (by simp[hj])⟩
 ·cases h

theorem trod_sh:∀(fuel:Nat) {n:Nat} {t:TypeId} {cs:List Value} {x:DataW H×List MemPlace} {sh:Sh},DataW.trod enc P w 0 (fun _=>true) true fuel t cs=some x→shOf P n t=some sh →
  ∃ds:List D,ds.length=cs.length∧OfSh sh ds∧∀(i:Nat) (v:Value) (y:D),cs[i]? = some v→ds[i]? = some y→RdD w (Sall w) v y∧y.one=true:=by
 intro fuel
 induction fuel with
 | zero=>intro n t cs x sh h;simp[DataW.trod] at h
 | succ fuel ih=>
  intro n t cs x sh h hs
  have one:∀{v:Value} {y:D},RdD w (Sall w) v y→y.one=true→∀(i:Nat) (v':Value) (y':D),[v][i]? = some v'→[y][i]? = some y'→RdD w (Sall w) v' y'∧y'.one=true:=by
   intro v y h1 h2 i v' y' hv hy
   cases i with
   | zero=>simp at hv hy;subst hv hy;exact⟨h1,h2⟩
   | succ i=>simp at hv
  cases n with
  | zero=>simp[shOf] at hs
  | succ n=>
  simp only[shOf] at hs
  split at hs
  ·rename_i k ht
   cases hs
   obtain⟨m,rfl,_,hw⟩:=DataW.trod_int ht h
   simp only[Lit.wf,Bool.and_eq_true,decide_eq_true_eq] at hw
   exact⟨[.v (.int k m)],rfl,⟨m,rfl,hw⟩,one (.v rfl) rfl⟩
  ·rename_i ht
   cases hs
   obtain⟨b,rfl,_⟩:=DataW.trod_bool ht h
   exact⟨[.v (.bool b)],rfl,⟨b,rfl⟩,one (.v rfl) rfl⟩
  ·rename_i ht
   cases hs
   obtain⟨s,rfl,_,hw⟩:=DataW.trod_string ht h
   exact⟨[.v (.string s)],rfl,⟨s,rfl,hw⟩,one (.v rfl) rfl⟩
  ·rename_i e ht
   obtain⟨s,hse,hs⟩:=Option.bind_eq_some_iff.1 hs
   split at hs
   ·rename_i hc
    obtain⟨hc,hpos⟩:=hc
    cases hs
    rcases DataW.trod_slice ht h with⟨rfl,_⟩ | ⟨a,len,cap,elems,rest,m,hm,rfl,_,_,hl,hcap,hlen,hel,hsp,_⟩
    ·exact⟨[.lst []],rfl,⟨[],rfl,Nat.zero_le _,by simp⟩,one .nil rfl⟩
    ·cases hm
     have hel2:∀i,∃ds:List D,i<len→∃cs:List Value,w.cells? 0 (a.add (i*P.cellsOf e)) (P.cellsOf e)=some cs∧ds.length=cs.length∧OfSh s ds∧∀(j:Nat) (v:Value) (y:D),cs[j]? = some v→ds[j]? = some y→RdD w (Sall w) v y∧y.one=true:=by
      intro i
      by_cases hi:i<len
      ·have h1:=hel i hi
       rw[List.getElem?_eq_getElem (show i<elems.length by omega)] at h1
       obtain⟨cs,h2,h3⟩:=Option.bind_eq_some_iff.1 h1
       obtain⟨ds,h4,h5,h6⟩:=ih h3 hse
       exact⟨ds,fun _=>⟨cs,h2,h4,h5,h6⟩⟩
      ·exact⟨[],fun h=>absurd h hi⟩
     let mk:List D→D:=fun ds=>if s.isSt=true then .agg ds else ds.headD (.v .nilIface)
     obtain⟨f,hf⟩:=Classical.axiomOfChoice hel2
     have hmk:∀i,i<len→(mk (f i)).cells=f i∧((s.isSt=true→∃cs,mk (f i)=.agg cs∧OfSh s cs)∧(s.isSt=false→OfSh s [mk (f i)])):=by
      intro i hi
      obtain⟨cs,_,h4,h5,h6⟩:=hf i hi
      by_cases hst:s.isSt=true
      ·have:mk (f i)=.agg (f i):=by simp only[mk];rw[if_pos hst]
       rw[this]
       exact⟨rfl,(fun _=>⟨_,rfl,h5⟩),fun hh=>(by rw[hst] at hh;cases hh)⟩
      ·have hst:s.isSt=false:=by simpa using hst
       have h1:(f i).length=1:=by rw[h5.length,cells_size hse hst]
       match hfi:f i,h1 with
       | [d],_=>
        have:mk [d]=d:=by simp only[mk];rw[if_neg (by simp[hst])];rfl
        rw[this]
        have hcl:cs.length=1:=by rw[←h4,hfi];rfl
        rw[hfi] at h5 h6
        have hd1:d.one=true:=(h6 0 cs[0] d (by simp[hcl]) rfl).2
        exact⟨(by cases d <;> first | rfl | simp[D.one] at hd1),(fun hh=>(by rw[hst] at hh;cases hh)),fun _=>h5⟩
     have hes:∀(i:Nat) (y:D),((List.range len).map fun i=>mk (f i))[i]? = some y→i<len∧y=mk (f i):=by
      intro i y hy
      simp only[List.getElem?_map,Option.map_eq_some_iff] at hy
      obtain⟨q,hq,rfl⟩:=hy
      obtain⟨h1,rfl⟩:=List.getElem?_eq_some_iff.1 hq
      simp only[List.length_range] at h1
      simp only[List.getElem_range]
      exact⟨h1,trivial⟩
     refine⟨[.lst ((List.range len).map fun i=>mk (f i))],rfl,⟨_,rfl,by simp;omega,fun y hy=>?_⟩,one ?_ rfl⟩
     ·obtain⟨i,hi⟩:=List.mem_iff_getElem?.1 hy
      obtain⟨hil,rfl⟩:=hes i y hi
      exact(hmk i hil).2
     ·by_cases hlen0:len=0
      ·subst hlen0
       exact .emp hcap
      ·-- the address is plain
       have hspot:a.spot=none:=by
        obtain⟨cs,h2,h4,h5,_⟩:=hf 0 (by omega)
        obtain⟨h6,h7⟩:=cells_get h2
        have:=h7 0 (by omega)
        rw[List.getElem?_eq_getElem (show 0<cs.length by omega)] at this
        have:=(lt_of_cell this).2
        simpa[Addr.add] using this
       obtain⟨b,off,spot⟩:=a
       subst hspot
       have hcell:∀(i:Nat) (e':D) (j:Nat) (d:D),((List.range len).map fun i=>mk (f i))[i]? = some e'→e'.cells[j]? = some d→∃v,w.cell? ⟨b,off+i*s.size+j,none⟩=some v∧RdD w (Sall w) v d∧d.one=true:=by
        intro i e' j d he hd
        obtain⟨hil,rfl⟩:=hes i e' he
        rw[(hmk i hil).1] at hd
        obtain⟨cs,h2,h4,h5,h6⟩:=hf i hil
        obtain⟨h7,h8⟩:=cells_get h2
        have hj:j<(f i).length:=(List.getElem?_eq_some_iff.1 hd).1
        have h9:=h8 j (by omega)
        rw[addr_add,addr_add,hc,List.getElem?_eq_getElem (show j<cs.length by omega)] at h9
        exact⟨_,h9,h6 j _ d (List.getElem?_eq_getElem (by omega)) hd⟩
       refine .lst (size:=s.size) (val:=fun i j=>(w.cell? ⟨b,off+i*s.size+j,none⟩).getD undef) (by simp) hl hcap (fun i e' he=>?_) (fun i e' j d he hd=>?_) (fun i e' j d he hd=>?_) (fun i e' j d he hd=>?_) fun i e' j d he hd=>?_
       ·obtain⟨hil,rfl⟩:=hes i e' he
        obtain⟨cs,h2,h4,h5,h6⟩:=hf i hil
        rw[(hmk i hil).1,h5.length]
       ·obtain⟨v,_,_,h3⟩:=hcell i e' j d he hd;exact h3
       ·obtain⟨v,h1,_,_⟩:=hcell i e' j d he hd;exact(lt_of_cell h1).1
       ·obtain⟨v,h1,_,_⟩:=hcell i e' j d he hd;rw[h1];rfl
       ·obtain⟨v,h1,h2,_⟩:=hcell i e' j d he hd;rw[h1];exact h2
   ·cases hs
  ·rename_i fs ht
   obtain⟨l,hl,hs⟩:=Option.bind_eq_some_iff.1 hs
   split at hs
   ·rename_i hc
    cases hs
    obtain⟨xs,m,hm,_,hcl,hxl,hf⟩:=DataW.trod_struct ht h
    cases hm
    have key:∀(fl:List Field) (off:Nat) (l:List Sh),shFields P (shOf P n) fl off=some l→off+Sh.sizes l≤cs.length→(∀f,f∈fl→∃x,DataW.trod enc P w 0 (fun _=>true) true fuel f.type ((cs.drop f.offset).take (P.cellsOf f.type))=some x) →
      ∃ds:List D,OfAll l ds∧∀(i:Nat) (v:Value) (y:D),cs[off+i]? = some v→ds[i]? = some y→RdD w (Sall w) v y∧y.one=true:=by
     intro fl
     induction fl with
     | nil=>intro off l h1 _ _;simp[shFields] at h1;subst h1;exact⟨[],by simp[OfAll],by simp⟩
     | cons f fl ihf=>
      intro off l h1 h2 h3
      simp only[shFields] at h1
      split at h1
      ·rename_i hoff
       obtain⟨s,hs1,h1⟩:=Option.bind_eq_some_iff.1 h1
       split at h1
       ·rename_i hcs
        obtain⟨l',hl',rfl⟩:=Option.map_eq_some_iff.1 h1
        simp only[Sh.sizes] at h2
        obtain⟨ds2,g1,g2⟩:=ihf (off+s.size) l' hl' (by omega) fun f' hf'=>h3 f' (by simp[hf'])
        obtain⟨x,hx⟩:=h3 f (by simp)
        obtain⟨ds1,k1,k2,k3⟩:=ih hx hs1
        have hlen1:=k2.length
        refine⟨ds1++ds2,by simp only[OfAll];exact⟨ds1,ds2,rfl,k2,g1⟩,fun i v y hv hy=>?_⟩
        by_cases hi:i<ds1.length
        ·rw[List.getElem?_append_left hi] at hy
         refine k3 i v y ?_ hy
         rw[List.getElem?_take,if_pos (by omega),List.getElem?_drop,hoff]
         exact hv
        ·rw[List.getElem?_append_right (by omega)] at hy
         refine g2 (i-ds1.length) v y ?_ hy
         rw[←hv]
         congr 1
         omega
       ·cases h1
      ·cases h1
    obtain⟨ds,h1,h2⟩:=key fs.toList 0 l hl (by rw[hcl,hc];omega) fun f hf'=>by
     obtain⟨i,hi⟩:=List.mem_iff_getElem?.1 hf'
     have:=hf i f (by simpa using hi)
     have hil:i<xs.length:=by
      have:=(List.getElem?_eq_some_iff.1 hi).1
      simp at this
      omega
     rw[List.getElem?_eq_getElem hil] at this
     exact⟨_,this⟩
    refine⟨ds,by rw[h1.length,hcl,hc],by simp only[OfSh];exact h1,fun i v y hv hy=>h2 i v y (by simpa using hv) hy⟩
   ·cases hs
  ·cases hs

end
end
end Go.Am

/-
 A law's statement,out of the contract of its function over data.
-/
namespace Go.Am
noncomputable section
open Go.RowKit Go.ChangeShapes Go.WideShapes

def ArgSh (s:Sh)(x:D):Prop:=(s.isSt=true→∃cs,x=.agg cs∧OfSh s cs)∧(s.isSt=false→OfSh s [x])

def ArgsSh:List Sh→List D→Prop
 | [],ds=>ds=[]
 | s :: r,ds=>∃x ys,ds=x :: ys∧ArgSh s x∧ArgsSh r ys

section
variable {H:Type} {enc:TypeId×Value→H} {P:Program} {W:World}

theorem arg_rd {base n:Nat}{t:TypeId}{v:Value}{d:DataW H}{ps:List MemPlace}{sh:Sh}(hval:Value.okWide P W .any base t v)(h:DataW.Trod enc P W 0 (fun _=>true) true t v d ps)(hs:shOf P n t=some sh):∃x:D,RdD W (Sall W) v x∧ArgSh sh x:=by
 obtain⟨fuel,hf⟩:=h
 obtain⟨ds,h1,h2,h3⟩:=trod_sh fuel hf hs
 have one:v.cells=#[v]→sh.isSt=false→∃x:D,RdD W (Sall W) v x∧ArgSh sh x:=by
  intro hc hst
  rw[hc] at h1 h3
  match ds,h1 with
  | [x],_=>exact⟨x,(h3 0 v x rfl rfl).1,(fun hh=>(by rw[hst] at hh;cases hh)),fun _=>h2⟩
 cases n with
 | zero=>simp[shOf] at hs
 | succ n=>
  simp only[shOf] at hs
  split at hs
  ·rename_i k ht
   cases hs
   obtain⟨m,rfl⟩:=okWide_int ht hval
   exact one rfl rfl
  ·rename_i ht
   cases hs
   obtain⟨m,rfl⟩:=okWide_bool ht hval
   exact one rfl rfl
  ·rename_i ht
   cases hs
   obtain⟨m,rfl⟩:=okWide_string ht hval
   exact one rfl rfl
  ·rename_i e ht
   obtain⟨s,_,hs⟩:=Option.bind_eq_some_iff.1 hs
   split at hs
   ·cases hs
    obtain⟨a,len,cap,rfl⟩:=okWide_slice ht hval
    exact one rfl rfl
   ·cases hs
  ·rename_i fs ht
   obtain⟨l,_,hs⟩:=Option.bind_eq_some_iff.1 hs
   split at hs
   ·cases hs
    obtain⟨cs,rfl,_⟩:=okWide_struct ht hval
    have hc:(Value.agg cs).cells=cs:=rfl
    rw[hc] at h1 h3
    refine⟨.agg ds,.agg (by rw[h1];simp) (fun i y hy=>?_) fun i u y hu hy=>(h3 i u y (by simpa using hu) hy).1,fun _=>⟨ds,rfl,h2⟩,fun hh=>by simp[Sh.isSt] at hh⟩
    have hi:i<cs.size:=by
     have:=(List.getElem?_eq_some_iff.1 hy).1
     rw[h1] at this
     simpa using this
    exact(h3 i cs[i] y (by simp[hi]) hy).2
   ·cases hs
  ·cases hs

theorem args_rd {base n:Nat}:∀{ts:List TypeId} {vs:List Value} {ds:List (DataW H)} {ps:List MemPlace} {shs:List Sh},(∀(j:Nat) t v,ts[j]? = some t→vs[j]? = some v→Value.okWide P W .any base t v)→DataW.TrodAll enc P W 0 (fun _=>true) true ts vs ds ps→ts.mapM (shOf P n)=some shs →
  vs.length=ts.length∧ds.length=ts.length∧∃xs:List D,xs.length=vs.length∧ArgsSh shs xs∧∀(i:Nat) (v:Value) (x:D),vs[i]? = some v→xs[i]? = some x→RdD W (Sall W) v x
 | [],vs,ds,ps,shs,_,h,hs=>by
  obtain⟨rfl,rfl,rfl⟩:=trodAll_nil h
  simp at hs
  subst hs
  exact⟨rfl,rfl,[],rfl,rfl,by simp⟩
 | t :: ts,vs,ds,ps,shs,hv,h,hs=>by
  obtain⟨v,vs',d,ds',p,q,rfl,rfl,rfl,h0,h1⟩:=trodAll_cons h
  simp only[List.mapM_cons,Option.bind_eq_bind,Option.bind_eq_some_iff,Option.pure_def,Option.some.injEq] at hs
  obtain⟨s,hs1,r,hs2,rfl⟩:=hs
  obtain⟨x,k1,k2⟩:=arg_rd (hv 0 t v rfl rfl) h0 hs1
  obtain⟨g1,g1',xs,g2,g3,g4⟩:=args_rd (fun j t v ht hv'=>hv (j+1) t v (by simpa using ht) (by simpa using hv')) h1 hs2
  refine⟨by simp[g1],by simp[g1'],x :: xs,by simp[g2],⟨x,xs,rfl,k2,g3⟩,fun i v' x' hv' hx'=>?_⟩
  cases i with
  | zero=>simp at hv' hx';subst hv' hx';exact k1
  | succ i=>exact g4 i v' x' (by simpa using hv') (by simpa using hx')

theorem trodAll_below {W':World}(hl:laidOutB P=true)(hb:Below W.heap.size W W'):∀{ts:List TypeId} {vs:List Value} {ds:List (DataW H)} {ps:List MemPlace},(∀t,t∈ts→P.readableRec t=true∧t<P.types.size)→(∀p,p∈ps→p.block<W.heap.size)→DataW.TrodAll enc P W 0 (fun _=>true) true ts vs ds ps →
  DataW.TrodAll enc P W' 0 (fun b=>decide (b<W.heap.size)) true ts vs ds ps
 | [],vs,ds,ps,_,_,h=>by
  obtain⟨rfl,rfl,rfl⟩:=trodAll_nil h
  exact trodAll_mk0
 | t :: ts,vs,ds,ps,ht,hp,h=>by
  obtain⟨v,vs',d,ds',p,q,rfl,rfl,rfl,h0,h1⟩:=trodAll_cons h
  exact trodAll_cons_mk (Below.trod hl (ht t (by simp)).1 (ht t (by simp)).2 h0 hb fun x hx=>hp x (by simp[hx])) (trodAll_below hl hb (fun t' ht'=>ht t' (by simp[ht'])) (fun x hx=>hp x (by simp[hx])) h1)

theorem law_contract {f:FuncId} {fn:Func} {s:ChangeSpec} {tb:TypeId} {n:Nat} {shs:List Sh} (hlaid:laidOutB P=true) (hread:(fn.params.toList.all fun t=>P.readableRec t&&decide (t<P.types.size))=true) (hvars:s.vars=[]) (hres:fn.resultTypes=#[tb]) (htb:P.underlying tb=some .bool)
  (hshape:fn.params.toList.mapM (shOf P n)=some shs) (hfn:∀ds:List (DataW H),ds.length=fn.params.toList.length→s.fn H ds={ results:=[.lit (.bool true)],args:=ds }) (hlaw:∀dd:List D,ArgsSh shs dd→∃h',FSpecWO P f (.st []) dd (.ret (.v (.bool true))) h')
  (base:Nat) (args:Array Value) (ds gs:List (DataW H)) (before:List MemPlace) (hval:∀(j:Nat) t v,fn.params[j]? = some t→args[j]? = some v→Value.okWide P W .any base t v) (hW:DataW.Whole enc P fn.params.toList s.vars false W args.toList ds gs before) :
  Calls P f args W fun e W'=>∃v,e=.returned v∧s.post enc P fn false true false false W args v W':=by
 have hW':=hW
 obtain⟨p,q,hA,hV,rfl,hfz,hnd⟩:=hW
 rw[hvars] at hV
 obtain⟨rfl,rfl⟩:=trodVars_none hV
 obtain⟨h1,h1',xs,h2,h3,h4⟩:=args_rd (fun j t v ht hv=>hval j t v (by simpa using ht) (by simpa using hv)) hA hshape
 obtain⟨h',hspec⟩:=hlaw xs h3
 have hlt:∀x,x∈p→x.block<W.heap.size:=fun x hx=>by simpa using hW'.lt x (by simp[hx])
 refine(hspec W (Sall W) (fun _=>False) [] args rfl ⟨rfl,fun i e sz cs hi=>by simp at hi,fun b off hf=>hf.elim,fun i kvs hi=>by simp at hi,fun i j x y hi=>by simp at hi,fun i m n seen hi=>by simp at hi⟩ (fun l rec hl=>by cases hl) (fun _ hf=>hf.elim) (fun _ _ h=>h) (by simpa using h2.symm) (fun i v x hv hx=>h4 i v x (by simpa using hv) hx)).mono ?_
 rintro e W' ⟨v,S',foot',bs',⟨rfl,hr⟩,_,_,_,_,hos,htp,hout,hsz,hold,_,_,_⟩
 have hv:=hr.v_eq
 subst hv
 have hb:Below W.heap.size W W':=⟨hos,htp.tape,hout,hsz,fun k hk=>hold k hk fun h=>h⟩
 refine⟨_,rfl,ds,[],p++[],[],p,[],hW',?_,?_,?_,hb.frame _,fun h=>by cases h⟩
 ·rw[hfn _ (by simpa using h1'),hres]
  exact trodAll_mk1 (shut_bool htb true)
 ·rw[hfn _ (by simpa using h1')]
  simp only[List.append_nil]
  exact trodAll_below hlaid hb (fun t ht=>by
   have:=List.all_eq_true.1 hread t ht
   simpa using this) hlt hA
 ·rw[hfn _ (by simpa using h1'),hvars]
  rfl

end
end
end Go.Am

/-
 An evaluator of the small language: what closed texts come to,by reckoning;and that it is right.
-/
namespace Go.Am
noncomputable section

/-! ## expressions that do not name one of the data -/

/-! ## the evaluator -/

structure Orc where
 R:FuncId→D→List D→Option Out
 W:FuncId→D→List D→Option (Out×D)
 F:FuncId→D→List D→Option D→Option D
 I:FuncId→D→List D→List D→(D→List D→Option D)→Option (D×D)

abbrev Hand:=D→List D→Option D


def D.isYl:D→Prop
 | .yl _ _ _ _=>True
 | _=>False

structure OrcOk (P:Program)(o:Orc):Prop where
 R:∀f st ds r,o.R f st ds=some r→FSpecO P f st ds r
 W:∀f st ds r h',o.W f st ds=some (r,h')→FSpecWO P f st ds r h'
 F:∀f st cs m st',o.F f st cs m=some st'→FSpecD P f st cs m st'
 I:∀f st us cs hd d st',o.I f st us cs hd=some (d,st')→∀y:D,y.isYl→(∀st ds st',hd st ds=some st'→YSpec P y st ds st')→FSpecW P f st (us++[y]++cs) d st'

def YkOk (P:Program)(yk:Option (Nat×Hand))(env env':List D):Prop:=
 match yk with
 | none=>env'=env
 | some (k,hd)=>k<env.length∧env'.length=env.length∧(∀j,j≠k→env'[j]? = env[j]?)∧∃y:D,env'[k]? = some y∧y.isYl∧∀st ds st',hd st ds=some st'→YSpec P y st ds st'

section
variable {P:Program} {o:Orc} {n:Nat} {yk:Option (Nat×Hand)}

theorem YkOk.more {env env':List D}(h:YkOk P yk env env')(ds:List D):YkOk P yk (env++ds) (env'++ds):=by
 unfold YkOk at h ⊢
 split
 ·rw[h]
 ·rename_i k hd
  obtain⟨h1,h2,h3,y,h4,h5,h6⟩:=h
  refine⟨by simp;omega,by simp[h2],fun j hj=>?_,y,by rw[List.getElem?_append_left (by omega)];exact h4,h5,h6⟩
  rcases Nat.lt_or_ge j env.length with hl | hl
  ·rw[List.getElem?_append_left (by omega),List.getElem?_append_left hl]
   exact h3 j hj
  ·rw[List.getElem?_append_right (by omega),List.getElem?_append_right hl,h2]

end

/-! ## a table of functions -/

inductive Kn where
 | plain | defers (keep:List Nat) | recovers
 deriving Inhabited

structure Entry where
 f:FuncId
 kn:Kn
 cf:StCfg
 own:Bool
 ones:List Bool
 t:T

abbrev Tab:=List Entry

section
variable {P:Program} {o:Orc} {n:Nat} {tb:Tab}

end
end
end Go.Am

/-
 Steps for proofs about texts.
-/
namespace Go.Am

section
variable {P:Program} {t a b:T} {bs:List Bind} {env:List D} {Q:Sig→Prop} {x g:E} {d:D}

theorem at_jump {l:Nat}{K:List D→Prop}{ds:List D}(k:K ds):catchL l K Q (.jump l ds):=by simp only[catchL,if_pos];exact k

theorem over_jump {l m:Nat}{K:List D→Prop}{ds:List D}(h:m≠l)(k:Q (.jump m ds)):catchL l K Q (.jump m ds):=by simp only[catchL,if_neg h];exact k

theorem rounds_succ {l:Nat}{body:List D→(Sig→Prop)→Prop}(hm:∀ds (R R':Sig→Prop),(∀s,R s→R' s)→body ds R→body ds R'):∀(n:Nat) (ds:List D),rounds l body Q n ds→rounds l body Q (n+1) ds
 | 0,_,h=>h.elim
 | n+1,ds,h=>hm ds _ _ (fun s hs=>by
   cases s with
   | jump l' ds'=>
    simp only[catchL] at hs ⊢
    split
    ·rename_i e;rw[if_pos e] at hs;exact rounds_succ hm n ds' hs
    ·rename_i e;rw[if_neg e] at hs;exact hs
   | ret d=>exact hs
   | pan d st sl kd=>exact hs) h

theorem rounds_le {l:Nat}{body:List D→(Sig→Prop)→Prop}(hm:∀ds (R R':Sig→Prop),(∀s,R s→R' s)→body ds R→body ds R'){n m:Nat}(h:n≤m){ds:List D}(hr:rounds l body Q n ds):rounds l body Q m ds:=by
 induction h with
 | refl=>exact hr
 | step _ ih=>exact rounds_succ hm _ _ ih

theorem rounds_inv {l:Nat}{body:List D→(Sig→Prop)→Prop}(hm:∀ds (R R':Sig→Prop),(∀s,R s→R' s)→body ds R→body ds R')(I:Nat→List D→Prop)(hb:∀k ds,I k ds→∀R:List D→Prop,(∀k' ds',k'<k→I k' ds'→R ds')→body ds (catchL l R Q)):∀(k:Nat) (ds:List D),I k ds→rounds l body Q (k+1) ds:=by
 intro k
 induction k using Nat.strongRecOn with
 | _ k ih=>
  intro ds hI
  cases k with
  | zero=>exact hb 0 ds hI _ fun k' _ h=>absurd h (Nat.not_lt_zero _)
  | succ k=>
   refine hb (k+1) ds hI _ fun k' ds' hk' hI'=>?_
   exact rounds_le hm (by omega) (ih k' hk' ds' hI')

end
end Go.Am

/-
 More steps for proofs about texts: chains of conditions,loops over a range,the store.
-/
namespace Go.Am

/-! ## chains -/

def E.beqG:E→E→Bool
 | .sym i,.sym j=>i==j
 | .tget i a,.tget j b=>i==j&&a.beqG b
 | .cell i a,.cell j b=>i==j&&a.beqG b
 | _,_=>false

theorem E.beqG_eq:∀{a b:E},a.beqG b=true→a=b
 | .sym i,b,h=>by cases b <;> simp[E.beqG] at h;rw[h]
 | .tget i a,b,h=>by
  cases b <;> simp[E.beqG] at h
  rw[h.1,E.beqG_eq h.2]
 | .cell i a,b,h=>by
  cases b <;> simp[E.beqG] at h
  rw[h.1,E.beqG_eq h.2]
 | .const _,b,h | .nil,b,h | .tnil,b,h | .un _ _,b,h | .conv _ _,b,h | .lenL _,b,h | .lenS _,b,h | .scal _,b,h | .cells _ _ _,b,h | .aggN _ _,b,h | .one _,b,h | .mkptr _,b,h | .rep _ _ _,b,h | .deref _,b,h | .ifc _ _,b,h | .padd _ _,b,h | .nn _,b,h | .fstid _,b,h
 | .bin _ _ _ _,b,h | .idx _ _,b,h | .idxN _ _ _,b,h | .cons _ _,b,h | .app _ _ _ _,b,h | .lcons _ _,b,h | .mkfn _ _ _,b,h | .tcons _ _,b,h | .mm _ _ _,b,h | .eaddr _ _ _,b,h | .ld _ _ _ _,b,h | .newb _ _ _ _,b,h | .newv _ _ _ _,b,h | .fstsl _ _,b,h | .frzv _ _ _,b,h | .frzh _ _,b,h | .guard _ _ _,b,h
 | .sub _ _ _ _,b,h | .set _ _ _ _,b,h | .ite _ _ _,b,h | .sto _ _ _ _,b,h | .apph _ _ _ _ _ _,b,h | .apps _ _ _,b,h | .m4 _ _ _ _ _,b,h=>by cases b <;> simp[E.beqG] at h

def symLt (n : Nat) : List (E × Bool) → Bool
 | [] => true
 | (.sym k, _) :: r => decide (k < n) && symLt n r
 | _ :: _ => false

def stripB (n:Nat)(g:E)(w:Bool):Bind→Option Bind
 | .ev (.guard g' w' x)=>if g.beqG g'=true∧w=w' then some (.ev x) else none
 | .call ((g',w') :: act) f h args rs=>if g.beqG g'=true∧w=w'∧symLt n act=true then some (.call act f h args rs) else none
 | .callv ((g',w') :: act) x h args rs=>if g.beqG g'=true∧w=w'∧symLt n act=true then some (.callv act x h args rs) else none
 | _=>none

def headG:List Bind→Option (E×Bool)
 | .ev (.guard g w _) :: _=>some (g,w)
 | .call ((g,w) :: _) _ _ _ _ :: _=>some (g,w)
 | .callv ((g,w) :: _) _ _ _ _ :: _=>some (g,w)
 | _=>none

section
variable {P:Program} {env:List D} {g:E} {w p:Bool}

theorem stripB_pos {b b':Bind}(hs:stripB env.length g w b=some b')(hg:g.eval env=some (.v (.bool w))){t:T}{Q:Sig→Prop}(h:den P (.bind b' t) env Q):den P (.bind b t) env Q:=by
 unfold stripB at hs
 split at hs
 ·split at hs
  ·rename_i hc
   cases hs
   rw[←E.beqG_eq hc.1,←hc.2]
   obtain⟨d,h1,h2⟩:=h
   exact⟨d,by simp only[E.eval,hg,if_true];exact h1,h2⟩
  ·cases hs
 ·split at hs
  ·rename_i hc
   cases hs
   obtain⟨h0,d,h1,h2⟩:=h
   refine⟨fun q hq=>?_,d,fun ha=>h1 fun q hq=>ha q (by simp[hq]),h2⟩
   rcases List.mem_cons.1 hq with rfl | hq
   ·exact⟨_,by rw[←E.beqG_eq hc.1];exact hg⟩
   ·exact h0 q hq
  ·cases hs
 ·split at hs
  ·rename_i hc
   cases hs
   obtain⟨h0,d,h1,h2⟩:=h
   refine⟨fun q hq=>?_,d,fun ha=>h1 fun q hq=>ha q (by simp[hq]),h2⟩
   rcases List.mem_cons.1 hq with rfl | hq
   ·exact⟨_,by rw[←E.beqG_eq hc.1];exact hg⟩
   ·exact h0 q hq
  ·cases hs
 ·cases hs

theorem symLt_ok : ∀ {act : List (E × Bool)}, symLt env.length act = true → ∀ q, q ∈ act → ∃ d, q.1.eval env = some d
 | [], _, q, hq => by cases hq
 | (x, b) :: r, h, q, hq => by
  cases x <;> simp only [symLt, Bool.and_eq_true, decide_eq_true_eq] at h
  case sym k =>
   rcases List.mem_cons.1 hq with rfl | hq
   ·exact ⟨_, List.getElem?_eq_getElem h.1⟩
   ·exact symLt_ok h.2 q hq
  all_goals cases h

theorem stripB_neg {b b':Bind}(hs:stripB env.length g w b=some b')(hg:g.eval env=some (.v (.bool p)))(hp:p≠w){t:T}{Q:Sig→Prop}(h:den P t (env++[D.undef]) Q):den P (.bind b t) env Q:=by
 have hno:∀{act:List (E×Bool)} {g':E} {w':Bool},g.beqG g'=true∧w=w'∧symLt env.length act=true→¬actHolds env ((g',w') :: act):=by
  intro act g' w' hc ha
  have:=ha (g',w') (by simp)
  rw[←E.beqG_eq hc.1,←hc.2.1,hg] at this
  cases this
  exact hp rfl
 have hdef:∀{act:List (E×Bool)} {g':E} {w':Bool},g.beqG g'=true∧w=w'∧symLt env.length act=true→∀q,q∈(g',w') :: act→∃d,q.1.eval env=some d:=by
  intro act g' w' hc q hq
  rcases List.mem_cons.1 hq with rfl | hq
  ·exact⟨_,by rw[←E.beqG_eq hc.1];exact hg⟩
  ·exact symLt_ok hc.2.2 q hq
 unfold stripB at hs
 split at hs
 ·split at hs
  ·rename_i hc
   rw[←E.beqG_eq hc.1,←hc.2]
   exact⟨_,by simp only[E.eval,hg,if_neg hp],h⟩
  ·cases hs
 ·split at hs
  ·rename_i hc
   exact⟨hdef hc,D.undef,fun ha=>absurd ha (hno hc),h⟩
  ·cases hs
 ·split at hs
  ·rename_i hc
   exact⟨hdef hc,D.undef,fun ha=>absurd ha (hno hc),h⟩
  ·cases hs
 ·cases hs

theorem bind_any {b:Bind}{t:T}{Q:Sig→Prop}(h:den P (.bind b t) env Q):∃d,den P t (env++[d]) Q∧∀(t':T) (Q':Sig→Prop),den P t' (env++[d]) Q'→den P (.bind b t') env Q':=by
 cases b with
 | ev x=>obtain⟨d,h1,h2⟩:=h;exact⟨d,h2,fun t' Q' h'=>⟨d,h1,h'⟩⟩
 | call act f hx args rs=>obtain⟨h0,d,h1,h2⟩:=h;exact⟨d,h2,fun t' Q' h'=>⟨h0,d,h1,h'⟩⟩
 | wcall act f hx args rs=>obtain⟨h0,st,d,h',h1,h2,h3,h4⟩:=h;exact⟨_,h4,fun t' Q' k=>⟨h0,st,d,h',h1,h2,h3,k⟩⟩
 | callv act x hx args rs=>obtain⟨h0,d,h1,h2⟩:=h;exact⟨d,h2,fun t' Q' h'=>⟨h0,d,h1,h'⟩⟩
 | wcallv act x hx args rs=>obtain⟨h0,st,d,h',h1,h2,h3,h4⟩:=h;exact⟨_,h4,fun t' Q' k=>⟨h0,st,d,h',h1,h2,h3,k⟩⟩

end

/-! ## loops over a range -/

section
variable {P:Program} {t a b:T} {bs:List Bind} {env env2:List D} {Q:Sig→Prop} {x y z g:E} {d:D}

theorem wrap64 {n:Int}(h:-9223372036854775808≤n∧n<9223372036854775808):IntKind.i64.wrap n=n:=by
 simp[IntKind.wrap,IntKind.bits,IntKind.signed];omega

end
end Go.Am

/-
 Texts made shorter: conditions joined to chains,values that nobody reads left out. What is shown of the shorter text holds of the longer one.
-/
namespace Go.Am

inductive U where
 | ev (x:E) (u:U)
 | chk (x:E) (u:U)
 | call (f:FuncId) (h:E) (args:List E) (rs:List Bool) (u:U)
 | wcall (f:FuncId) (h:E) (args:List E) (rs:List Bool) (u:U)
 | callv (x h:E) (args:List E) (rs:List Bool) (u:U)
 | gen (b:Bind) (u:U)
 | chain (or:Bool) (g:E) (v u:U)
 | ite (c:E) (a b:U)
 | loop (l:Nat) (inits:List E) (body:U)
 | join (l n:Nat) (body rest:U)
 | phi (c:E) (as bs:List E) (rest:U)
 | jump (l:Nat) (vals chks:List E)
 | ret (x:E)
 | pan (x h:E) (sl:List Nat) (ks:List E)
 | nilq (x:E) (neg:Bool) (u:U)
 | pick (x:E) (u:U)
 | dfr (f:FuncId) (keep:List Nat) (caps:List E) (res:E) (u:U)
 | pcall (f:FuncId) (h:E) (args:List E) (rs:List Bool) (sl:List Nat) (ks:List E) (u:U)
 | wpcall (f:FuncId) (h:E) (args:List E) (rs:List Bool) (sl:List Nat) (ks:List E) (u:U)
 | wpcallv (x h:E) (args:List E) (rs:List Bool) (sl:List Nat) (ks:List E) (u:U)
 | rfor (x h:E) (sl:List Nat) (caps:List E) (n l:Nat) (body rest:U)
 deriving Inhabited

def denU (P:Program):U→List D→(Sig→Prop)→Prop
 | .ev x u,env,Q=>∃d,x.eval env=some d∧denU P u (env++[d]) Q
 | .chk x u,env,Q=>(∃d,x.eval env=some d)∧denU P u env Q
 | .call f h args rs u,env,Q=>∃st ds d,h.eval env=some st∧evalAll env args=some ds∧FSpecR P f st ds d∧d.fits rs=true∧denU P u (env++[d]) Q
 | .wcall f h args rs u,env,Q=>∃st ds d h',h.eval env=some st∧evalAll env args=some ds∧FSpecW P f st ds d h'∧d.fits rs=true∧denU P u (env++[d,h']) Q
 | .callv x h args rs u,env,Q=>∃f us cs st ds d,x.eval env=some (.fn f us cs)∧callable P f=true∧h.eval env=some st∧evalAll env args=some ds∧FSpecR P f st (us++ds++cs) d∧d.fits rs=true∧denU P u (env++[d]) Q
 | .gen b u,env,Q=>∃d,den P (.bind b (.ret (.sym env.length))) env (fun s=>s=.ret d)∧denU P u (env++[d]) Q
 | .chain or g v u,env,Q=>∃p q,g.eval env=some (.v (.bool p))∧(p=!or→denU P v env (fun s=>s=.ret (.v (.bool q))))∧denU P u (env++[.v (.bool (bif or then p||q else p&&q))]) Q
 | .ite c a b,env,Q=>∃v,c.eval env=some (.v (.bool v))∧(v=true→denU P a env Q)∧(v=false→denU P b env Q)
 | .loop l inits body,env,Q=>∃ds,evalAll env inits=some ds∧∃n,rounds l (fun ds Q=>ds.length=inits.length∧denU P body (env++ds) Q) Q n ds
 | .join l n body rest,env,Q=>denU P body env (catchL l (fun ds=>ds.length=n∧denU P rest (env++ds) Q) Q)
 | .phi c as bs rest,env,Q=>∃v ds,c.eval env=some (.v (.bool v))∧(v=true→evalAll env as=some ds)∧(v=false→evalAll env bs=some ds)∧denU P rest (env++ds) Q
 | .jump l vals chks,env,Q=>(∃cs,evalAll env chks=some cs)∧∃ds,evalAll env vals=some ds∧Q (.jump l ds)
 | .ret x,env,Q=>∃d,x.eval env=some d∧Q (.ret d)
 | .pan x h sl ks,env,Q=>∃d st kd,x.eval env=some d∧h.eval env=some st∧evalAll env ks=some kd∧Q (.pan d st sl kd)
 | .nilq x neg u,env,Q=>∃d bs,x.eval env=some d∧d.isNil=some bs∧∀b,b∈bs→denU P u (env++[.v (.bool (b != neg))]) Q
 | .pick x u,env,Q=>∃ys,x.eval env=some (.lst ys)∧∀d st,.tup [d,st]∈ys→denU P u (env++[d,st]) Q
 | .dfr f keep caps res u,env,Q=>∃cds,evalAll env caps=some cds∧cds.all D.isLoc=true∧denU P u env (DfrQ P f keep cds res Q)
 | .pcall f h args rs sl ks u,env,Q=>∃st ds o,h.eval env=some st∧evalAll env args=some ds∧FSpecO P f st ds o∧match o with
  | .ret d=>d.fits rs=true∧denU P u (env++[d]) Q
  | .pan d=>∃kd,evalAll env ks=some kd∧Q (.pan d st sl kd)
 | .wpcall f h args rs sl ks u,env,Q=>∃st ds o h',h.eval env=some st∧evalAll env args=some ds∧FSpecWO P f st ds o h'∧match o with
  | .ret d=>d.fits rs=true∧denU P u (env++[d,h']) Q
  | .pan d=>∃kd,evalAll env ks=some kd∧Q (.pan d h' sl kd)
 | .wpcallv x h args rs sl ks u,env,Q=>∃f us cs st ds o h',x.eval env=some (.fn f us cs)∧callable P f=true∧h.eval env=some st∧evalAll env args=some ds∧FSpecWO P f st (us++ds++cs) o h'∧match o with
  | .ret d=>d.fits rs=true∧denU P u (env++[d,h']) Q
  | .pan d=>∃kd,evalAll env ks=some kd∧Q (.pan d h' sl kd)
 | .rfor x h sl caps n l body rest,env,Q=>∃f us cs st cds d st',x.eval env=some (.fn f us cs)∧callable P f=true∧h.eval env=some st∧evalAll env caps=some cds∧noyls cds=true∧st'.noyl=true ∧
   (∀(m:Nat) (rec:Loop),(∀st1 ds st2,st1.noyl=true→noyls ds=true→ds.length=n→denU P body (env++[st1]++ds) (fun s=>s=.jump l [st2])→YSpec P (.yl m rec sl cds) st1 ds st2)→FSpecW P f st (us++[.yl m rec sl cds]++cs) d st')∧denU P rest (env++[st']) Q

theorem denU_mono {P:Program}:∀{t:U} {env:List D} {Q Q':Sig→Prop},(∀s,Q s→Q' s)→denU P t env Q→denU P t env Q'
 | .ev x t,env,Q,Q',hq,⟨d,h1,h2⟩=>⟨d,h1,denU_mono hq h2⟩
 | .chk x t,env,Q,Q',hq,⟨h1,h2⟩=>⟨h1,denU_mono hq h2⟩
 | .call f h args rs t,env,Q,Q',hq,⟨st,ds,d,h1,h2,h3,h4,h5⟩=>⟨st,ds,d,h1,h2,h3,h4,denU_mono hq h5⟩
 | .wcall f h args rs t,env,Q,Q',hq,⟨st,ds,d,h',h1,h2,h3,h4,h5⟩=>⟨st,ds,d,h',h1,h2,h3,h4,denU_mono hq h5⟩
 | .callv x h args rs t,env,Q,Q',hq,⟨f,us,cs,st,ds,d,g1,g2,h1,h2,h3,h4,h5⟩=>⟨f,us,cs,st,ds,d,g1,g2,h1,h2,h3,h4,denU_mono hq h5⟩
 | .gen b t,env,Q,Q',hq,⟨d,h1,h2⟩=>⟨d,h1,denU_mono hq h2⟩
 | .chain or g v u,env,Q,Q',hq,⟨p,q,h1,h2,h3⟩=>⟨p,q,h1,h2,denU_mono hq h3⟩
 | .ite c a b,env,Q,Q',hq,⟨v,h1,h2,h3⟩=>⟨v,h1,fun e=>denU_mono hq (h2 e),fun e=>denU_mono hq (h3 e)⟩
 | .loop l inits body,env,Q,Q',hq,⟨ds,h1,n,h2⟩=>⟨ds,h1,n,rounds_mono (fun _ _ _ hR h=>⟨h.1,denU_mono hR h.2⟩) hq n ds h2⟩
 | .join l n body rest,env,Q,Q',hq,h=>denU_mono (t:=body) (fun s hs=>by
   cases s with
   | jump l' ds'=>
    simp only[catchL] at hs ⊢
    split
    ·rename_i e;rw[if_pos e] at hs;exact⟨hs.1,denU_mono hq hs.2⟩
    ·rename_i e;rw[if_neg e] at hs;exact hq _ hs
   | ret d=>exact hq _ hs
   | pan d st sl kd=>exact hq _ hs) h
 | .phi c as bs rest,env,Q,Q',hq,⟨v,ds,h1,h2,h3,h4⟩=>⟨v,ds,h1,h2,h3,denU_mono hq h4⟩
 | .jump l vals chks,env,Q,Q',hq,⟨h0,ds,h1,h2⟩=>⟨h0,ds,h1,hq _ h2⟩
 | .ret x,env,Q,Q',hq,⟨d,h1,h2⟩=>⟨d,h1,hq _ h2⟩
 | .pan x h sl ks,env,Q,Q',hq,⟨d,st,kd,h1,h2,h3,h4⟩=>⟨d,st,kd,h1,h2,h3,hq _ h4⟩
 | .nilq x neg t,env,Q,Q',hq,⟨d,bs,h1,h2,h3⟩=>⟨d,bs,h1,h2,fun b hb=>denU_mono hq (h3 b hb)⟩
 | .pick x t,env,Q,Q',hq,⟨ys,h1,h2⟩=>⟨ys,h1,fun d st hy=>denU_mono hq (h2 d st hy)⟩
 | .dfr f keep caps res t,env,Q,Q',hq,⟨cds,h1,h2,h3⟩=>⟨cds,h1,h2,denU_mono (fun _=>DfrQ_mono hq) h3⟩
 | .pcall f h args rs sl ks t,env,Q,Q',hq,⟨st,ds,.ret d,h1,h2,h3,h4,h5⟩=>⟨st,ds,.ret d,h1,h2,h3,h4,denU_mono hq h5⟩
 | .pcall f h args rs sl ks t,env,Q,Q',hq,⟨st,ds,.pan d,h1,h2,h3,kd,h4,h5⟩=>⟨st,ds,.pan d,h1,h2,h3,kd,h4,hq _ h5⟩
 | .wpcall f h args rs sl ks t,env,Q,Q',hq,⟨st,ds,.ret d,h',h1,h2,h3,h4,h5⟩=>⟨st,ds,.ret d,h',h1,h2,h3,h4,denU_mono hq h5⟩
 | .wpcall f h args rs sl ks t,env,Q,Q',hq,⟨st,ds,.pan d,h',h1,h2,h3,kd,h4,h5⟩=>⟨st,ds,.pan d,h',h1,h2,h3,kd,h4,hq _ h5⟩
 | .wpcallv x h args rs sl ks t,env,Q,Q',hq,⟨f,us,cs,st,ds,.ret d,h',g1,g2,h1,h2,h3,h4,h5⟩=>⟨f,us,cs,st,ds,.ret d,h',g1,g2,h1,h2,h3,h4,denU_mono hq h5⟩
 | .wpcallv x h args rs sl ks t,env,Q,Q',hq,⟨f,us,cs,st,ds,.pan d,h',g1,g2,h1,h2,h3,kd,h4,h5⟩=>⟨f,us,cs,st,ds,.pan d,h',g1,g2,h1,h2,h3,kd,h4,hq _ h5⟩
 | .rfor x h sl caps n l body rest,env,Q,Q',hq,⟨f,us,cs,st,cds,d,st',h1,h2,h3,h4,h5,h6,h7,h8⟩=>⟨f,us,cs,st,cds,d,st',h1,h2,h3,h4,h5,h6,h7,denU_mono hq h8⟩

/-! ## expressions over other data -/

inductive SE where
 | no
 | e (x:E)
 | pair (i j:Nat)
 deriving Inhabited

def tgetS (n i:Nat):E→E
 | .tcons (.sym p) (.tcons (.sym q) .tnil)=>if p<n∧q<n then(if i=0 then .sym p else if i=1 then .sym q else .tget i (.tcons (.sym p) (.tcons (.sym q) .tnil))) else .tget i (.tcons (.sym p) (.tcons (.sym q) .tnil))
 | x=>.tget i x

def E.sb (n:Nat)(σ:List SE):E→Option E
 | .sym k=>match σ[k]? with
  | some (.e x)=>some x
  | some (.pair i j)=>some (.tcons (.sym i) (.tcons (.sym j) .tnil))
  | _=>none
 | .const d=>some (.const d)
 | .nil=>some .nil
 | .tnil=>some .tnil
 | .un o a=>(a.sb n σ).map (.un o)
 | .conv k a=>(a.sb n σ).map (.conv k)
 | .lenL a=>(a.sb n σ).map .lenL
 | .lenS a=>(a.sb n σ).map .lenS
 | .scal a=>(a.sb n σ).map .scal
 | .cell i a=>(a.sb n σ).map (.cell i)
 | .cells i m a=>(a.sb n σ).map (.cells i m)
 | .aggN m a=>(a.sb n σ).map (.aggN m)
 | .one a=>(a.sb n σ).map .one
 | .mkptr a=>(a.sb n σ).map .mkptr
 | .tget i a=>(a.sb n σ).map (tgetS n i)
 | .rep b a d=>(a.sb n σ).map fun x=>.rep b x d
 | .deref a=>(a.sb n σ).map .deref
 | .ifc t a=>(a.sb n σ).map (.ifc t)
 | .padd k a=>(a.sb n σ).map (.padd k)
 | .nn a=>(a.sb n σ).map .nn
 | .fstid a=>(a.sb n σ).map .fstid
 | .bin o k a b=>(a.sb n σ).bind fun x=>(b.sb n σ).map (.bin o k x)
 | .idx a b=>(a.sb n σ).bind fun x=>(b.sb n σ).map (.idx x)
 | .idxN m a b=>(a.sb n σ).bind fun x=>(b.sb n σ).map (.idxN m x)
 | .cons a b=>(a.sb n σ).bind fun x=>(b.sb n σ).map (.cons x)
 | .app m k a b=>(a.sb n σ).bind fun x=>(b.sb n σ).map (.app m k x)
 | .lcons a b=>(a.sb n σ).bind fun x=>(b.sb n σ).map (.lcons x)
 | .mkfn f a b=>(a.sb n σ).bind fun x=>(b.sb n σ).map (.mkfn f x)
 | .tcons a b=>(a.sb n σ).bind fun x=>(b.sb n σ).map (.tcons x)
 | .mm m a b=>(a.sb n σ).bind fun x=>(b.sb n σ).map (.mm m x)
 | .eaddr m a b=>(a.sb n σ).bind fun x=>(b.sb n σ).map (.eaddr m x)
 | .ld g m a b=>(a.sb n σ).bind fun x=>(b.sb n σ).map (.ld g m x)
 | .newb e m a b=>(a.sb n σ).bind fun x=>(b.sb n σ).map (.newb e m x)
 | .newv e m a b=>(a.sb n σ).bind fun x=>(b.sb n σ).map (.newv e m x)
 | .fstsl a b=>(a.sb n σ).bind fun x=>(b.sb n σ).map (.fstsl x)
 | .frzv g a b=>(a.sb n σ).bind fun x=>(b.sb n σ).map (.frzv g x)
 | .frzh a b=>(a.sb n σ).bind fun x=>(b.sb n σ).map (.frzh x)
 | .guard a w b=>(a.sb n σ).bind fun x=>(b.sb n σ).map (.guard x w)
 | .sub m a b c=>(a.sb n σ).bind fun x=>(b.sb n σ).bind fun y=>(c.sb n σ).map (.sub m x y)
 | .set a b k c=>(a.sb n σ).bind fun x=>(b.sb n σ).bind fun y=>(c.sb n σ).map (.set x y k)
 | .ite a b c=>(a.sb n σ).bind fun x=>(b.sb n σ).bind fun y=>(c.sb n σ).map (.ite x y)
 | .sto m a b c=>(a.sb n σ).bind fun x=>(b.sb n σ).bind fun y=>(c.sb n σ).map (.sto m x y)
 | .apph e m k a b c=>(a.sb n σ).bind fun x=>(b.sb n σ).bind fun y=>(c.sb n σ).map (.apph e m k x y)
 | .apps a b c=>(a.sb n σ).bind fun x=>(b.sb n σ).bind fun y=>(c.sb n σ).map (.apps x y)
 | .m4 o a b c d=>(a.sb n σ).bind fun x=>(b.sb n σ).bind fun y=>(c.sb n σ).bind fun z=>(d.sb n σ).map (.m4 o x y z)

def SEOk (env':List D)(x:Option D):SE→Prop
 | .no=>True
 | .e y=>y.eval env'=x
 | .pair i j=>∃d1 d2,env'[i]? = some d1∧env'[j]? = some d2∧x=some (.tup [d1,d2])

def SOk (σ:List SE)(env env':List D):Prop:=∀(k:Nat) (s:SE),σ[k]? = some s→SEOk env' env[k]? s

theorem tgetS_eval {env:List D}{i:Nat}(x:E):(tgetS env.length i x).eval env=(E.tget i x).eval env:=by
 unfold tgetS
 split
 ·rename_i p q
  split
  ·rename_i h
   have e1:=List.getElem?_eq_getElem h.1
   have e2:=List.getElem?_eq_getElem h.2
   split
   ·rename_i e;subst e
    simp only[E.eval,e1,e2,Option.bind_some,D.tcons,D.tget]
    rfl
   ·split
    ·rename_i e;subst e
     simp only[E.eval,e1,e2,Option.bind_some,D.tcons,D.tget]
     rfl
    ·rfl
  ·rfl
 ·rfl

theorem E.sb_eval {σ:List SE}{env env':List D}(hσ:SOk σ env env'):∀{x x':E},x.sb env'.length σ=some x'→x'.eval env'=x.eval env:=by
 intro x
 induction x <;> intro x' h <;> simp only[E.sb,Option.map_eq_some_iff,Option.bind_eq_some_iff] at h
 case sym k=>
  split at h
  ·rename_i y hk
   cases h
   exact hσ k _ hk
  ·rename_i i j hk
   cases h
   obtain⟨d1,d2,h1,h2,h3⟩:=hσ k _ hk
   show _=env[k]?
   rw[h3]
   simp only[E.eval,h1,h2,Option.bind_some,D.tcons]
  ·cases h
 case tget i a ih=>
  obtain⟨y,h1,rfl⟩:=h
  rw[tgetS_eval]
  simp only[E.eval,ih h1]
 case const d=>cases h;rfl
 case nil=>cases h;rfl
 case tnil=>cases h;rfl
 case ite a b c iha ihb ihc=>
  obtain⟨y,h1,z,h2,u,h3,rfl⟩:=h
  simp only[E.eval,iha h1,ihb h2,ihc h3]
 case guard a w b iha ihb=>
  obtain⟨y,h1,z,h2,rfl⟩:=h
  simp only[E.eval,iha h1,ihb h2]
 all_goals first
 |(rename_i ih;obtain⟨y,h1,rfl⟩:=h;simp only[E.eval,ih h1])
 |(rename_i iha ihb;obtain⟨y,h1,z,h2,rfl⟩:=h;simp only[E.eval,iha h1,ihb h2])
 |(rename_i iha ihb ihc;obtain⟨y,h1,z,h2,u,h3,rfl⟩:=h;simp only[E.eval,iha h1,ihb h2,ihc h3])
 |(rename_i iha ihb ihc ihd;obtain⟨y,h1,z,h2,u,h3,v,h4,rfl⟩:=h;simp only[E.eval,iha h1,ihb h2,ihc h3,ihd h4])

def sbAll (n:Nat)(σ:List SE):List E→Option (List E)
 | []=>some []
 | x :: r=>(x.sb n σ).bind fun y=>(sbAll n σ r).map (y :: ·)

theorem sbAll_eval {σ:List SE}{env env':List D}(hσ:SOk σ env env'):∀{l l':List E},sbAll env'.length σ l=some l'→evalAll env' l'=evalAll env l
 | [],l',h=>by cases h;rfl
 | x :: r,l',h=>by
  simp only[sbAll,Option.bind_eq_some_iff,Option.map_eq_some_iff] at h
  obtain⟨y,h1,z,h2,rfl⟩:=h
  simp only[evalAll,E.sb_eval hσ h1,sbAll_eval hσ h2]

def sbAct (n:Nat)(σ:List SE):List (E×Bool)→Option (List (E×Bool))
 | []=>some []
 | p :: r=>(p.1.sb n σ).bind fun y=>(sbAct n σ r).map ((y,p.2) :: ·)

theorem sbAct_eval {σ:List SE}{env env':List D}(hσ:SOk σ env env'):∀{l l':List (E×Bool)},sbAct env'.length σ l=some l'→((∀p,p∈l'→∃d,p.1.eval env'=some d)→∀p,p∈l→∃d,p.1.eval env=some d)∧(actHolds env' l'↔actHolds env l)
 | [],l',h=>by cases h;exact⟨fun _ p hp=>(by cases hp),(by simp[actHolds])⟩
 | x :: r,l',h=>by
  simp only[sbAct,Option.bind_eq_some_iff,Option.map_eq_some_iff] at h
  obtain⟨y,h1,z,h2,rfl⟩:=h
  have e:=E.sb_eval hσ h1
  obtain⟨g1,g2⟩:=sbAct_eval hσ h2
  refine⟨fun h p hp=>?_,?_⟩
  ·rcases List.mem_cons.1 hp with rfl | hp
   ·rw[←e];exact h (y,p.2) (by simp)
   ·exact g1 (fun q hq=>h q (by simp[hq])) p hp
  ·unfold actHolds at g2 ⊢
   simp only[List.forall_mem_cons,e,g2]

theorem SOk.append {σ σ2:List SE}{env env' env2 ds:List D}(h:SOk σ env env')(hl:env.length=σ.length)(h2:∀(k:Nat) (s:SE),σ2[k]? = some s→SEOk env2 ds[k]? s)(he:env' <+: env2):SOk (σ++σ2) (env++ds) env2:=by
 intro k s hk
 rcases Nat.lt_or_ge k σ.length with hlt | hge
 ·rw[List.getElem?_append_left hlt] at hk
  rw[List.getElem?_append_left (by omega)]
  have:=h k s hk
  cases s with
  | no=>exact trivial
  | e y=>
   have hd:=List.getElem?_eq_getElem (show k<env.length by omega)
   simp only[SEOk] at this ⊢
   rw[hd] at this ⊢
   exact E.eval_mono he _ this
  | pair i j=>
   obtain⟨d1,d2,g1,g2,g3⟩:=this
   obtain⟨r,rfl⟩:=he
   exact⟨d1,d2,by rw[List.getElem?_append_left (List.getElem?_eq_some_iff.1 g1).1];exact g1,by rw[List.getElem?_append_left (List.getElem?_eq_some_iff.1 g2).1];exact g2,g3⟩
 ·rw[List.getElem?_append_right hge] at hk
  rw[List.getElem?_append_right (by omega),hl]
  exact h2 _ s hk

/-! ## the shorter text -/

def E.bits:E→Nat
 | .sym k=>1 <<< k
 | .const _ | .nil | .tnil=>0
 | .un _ a | .conv _ a | .lenL a | .lenS a | .scal a | .cell _ a | .cells _ _ a | .aggN _ a | .one a | .mkptr a | .tget _ a | .rep _ a _ | .deref a | .ifc _ a | .padd _ a | .nn a | .fstid a=>a.bits
 | .bin _ _ a b | .idx a b | .idxN _ a b | .cons a b | .app _ _ a b | .lcons a b | .mkfn _ a b | .tcons a b | .mm _ a b | .eaddr _ a b | .ld _ _ a b | .newb _ _ a b | .newv _ _ a b | .fstsl a b | .frzv _ a b | .frzh a b | .guard a _ b=>a.bits ||| b.bits
 | .sub _ a b c | .set a b _ c | .ite a b c | .sto _ a b c | .apph _ _ _ a b c | .apps a b c=>a.bits ||| (b.bits ||| c.bits)
 | .m4 _ a b c d=>a.bits ||| (b.bits ||| (c.bits ||| d.bits))

def bitsAll:List E→Nat
 | []=>0
 | x :: r=>x.bits ||| bitsAll r

def bitsAct:List (E×Bool)→Nat
 | []=>0
 | x :: r=>x.1.bits ||| bitsAct r

def Bind.bits:Bind→Nat
 | .ev x=>x.bits
 | .call act _ h args _ | .wcall act _ h args _=>bitsAct act ||| (h.bits ||| bitsAll args)
 | .callv act x h args _ | .wcallv act x h args _=>bitsAct act ||| (x.bits ||| (h.bits ||| bitsAll args))

def T.bits:T→Nat
 | .bind b t=>b.bits ||| t.bits
 | .ite c a b=>c.bits ||| (a.bits ||| b.bits)
 | .loop _ inits body=>bitsAll inits ||| body.bits
 | .join _ _ body rest=>body.bits ||| rest.bits
 | .jump _ vals=>bitsAll vals
 | .ret x=>x.bits
 | .pan x h _ ks=>x.bits ||| (h.bits ||| bitsAll ks)
 | .nilq x _ t=>x.bits ||| t.bits
 | .pick x t=>x.bits ||| t.bits
 | .dfr _ _ caps _ t=>bitsAll caps ||| t.bits
 | .pcall _ h args _ _ ks t | .wpcall _ h args _ _ ks t=>h.bits ||| (bitsAll args ||| (bitsAll ks ||| t.bits))
 | .wpcallv x h args _ _ ks t=>x.bits ||| (h.bits ||| (bitsAll args ||| (bitsAll ks ||| t.bits)))
 | .rfor x h _ caps _ _ body rest=>x.bits ||| (h.bits ||| (bitsAll caps ||| (body.bits ||| rest.bits)))

def bitAt (m k:Nat):Bool:=(m >>> k) % 2==1

def takeT (g:E)(w:Bool):Nat→T→List Bind×Nat×T
 | n,.bind b t=>match stripB n g w b with
  | some b'=>let r:=takeT g w (n+1) t;(b' :: r.1,r.2.1+1,r.2.2)
  | none=>([],0,.bind b t)
 | _,t=>([],0,t)

def isBoolC (b:Bool):E→Bool
 | .const (.v (.bool c))=>b==c
 | _=>false

def chainOf (n : Nat) (b : Bind) (t : T) : Option (Bool × E × T × Nat × T) :=
 match headG [b] with
 | some (g, w) => match takeT g w n (.bind b t) with
  | (bs, k, .bind (.ev (.ite g' y z)) rest) =>
   if g.beqG g' = true ∧ (rest.bits >>> n) % (1 <<< k) = 0 then
    if w = false ∧ isBoolC true y = true then some (true, g, wrapBinds bs (.ret z), k, rest)
    else if w = true ∧ isBoolC false z = true then some (false, g, wrapBinds bs (.ret y), k, rest)
    else none
   else none
  | _ => none
 | none => none

def simpleE:E→Bool
 | .sym _=>true
 | .cell _ x | .tget _ x | .padd _ x | .aggN _ x | .nn x=>simpleE x
 | _=>false

def cheap (n:Nat):E→Option (Bool×E)
 | .sym j=>if j<n then some (false,.sym j) else none
 | .const d=>some (false,.const d)
 | .aggN _ y | .nn y | .scal y=>if simpleE y=true then some (true,y) else none
 | .cell i y=>if simpleE y=true then some (true,.cell i y) else none
 | .tget i y=>if simpleE y=true then some (true,.tget i y) else none
 | .padd i y=>if simpleE y=true then some (true,.padd i y) else none
 | _=>none

def filtK {α:Type}:List Bool→List α→List α
 | true :: r,x :: l=>x :: filtK r l
 | false :: r,_ :: l=>filtK r l
 | _,_=>[]

def sure (n:Nat):E→Bool
 | .sym k=>decide (k<n)
 | .const _=>true
 | _=>false

def ents:Nat→List Bool→List SE
 | _,[]=>[]
 | n,true :: r=>.e (.sym n) :: ents (n+1) r
 | n,false :: r=>.no :: ents n r

def liveOf (bits:Nat):Nat→Nat→List Bool
 | _,0=>[]
 | k,m+1=>bitAt bits k :: liveOf bits (k+1) m

def keepOr (n:Nat):List Bool→List E→List Bool
 | b :: r,x :: l=>(b||!sure n x) :: keepOr n r l
 | _,_=>[]

def phiOf (l n:Nat):U→U→U
 | .ite c (.jump l1 as []) (.jump l2 bs []),rest=>if l1=l∧l2=l∧as.length=n∧bs.length=n then .phi c as bs rest else .join l n (.ite c (.jump l1 as []) (.jump l2 bs [])) rest
 | body,rest=>.join l n body rest

def sbBind (n:Nat)(σ:List SE):Bind→Option Bind
 | .ev x=>(x.sb n σ).map .ev
 | .call act f h args rs=>(sbAct n σ act).bind fun act'=>(h.sb n σ).bind fun h'=>(sbAll n σ args).map fun args'=>.call act' f h' args' rs
 | .wcall act f h args rs=>(sbAct n σ act).bind fun act'=>(h.sb n σ).bind fun h'=>(sbAll n σ args).map fun args'=>.wcall act' f h' args' rs
 | .callv act x h args rs=>(sbAct n σ act).bind fun act'=>(x.sb n σ).bind fun x'=>(h.sb n σ).bind fun h'=>(sbAll n σ args).map fun args'=>.callv act' x' h' args' rs
 | .wcallv act x h args rs=>(sbAct n σ act).bind fun act'=>(x.sb n σ).bind fun x'=>(h.sb n σ).bind fun h'=>(sbAll n σ args).map fun args'=>.wcallv act' x' h' args' rs

def tr:Nat→Nat→List SE→List (Nat×List Bool)→T→Option U
 | 0,_,_,_,_=>none
 | f+1,n,σ,Γ,.bind b t=>
  match chainOf σ.length b t with
  | some (or,g,inner,k,rest)=>(g.sb n σ).bind fun g'=>(tr f n σ [] inner).bind fun v=>(tr f (n+1) (σ++(List.replicate k .no++[.e (.sym n)])) Γ rest).map (.chain or g' v)
  | none=>match b with
   | .ev x=>(x.sb n σ).bind fun x'=>match cheap n x' with
    | some (false,y)=>tr f n (σ++[.e y]) Γ t
    | some (true,y)=>(tr f n (σ++[.e y]) Γ t).map (.chk x')
    | none=>(tr f (n+1) (σ++[.e (.sym n)]) Γ t).map (.ev x')
   | .call [] fn h args rs=>(h.sb n σ).bind fun h'=>(sbAll n σ args).bind fun args'=>(tr f (n+1) (σ++[.e (.sym n)]) Γ t).map (.call fn h' args' rs)
   | .wcall [] fn h args rs=>(h.sb n σ).bind fun h'=>(sbAll n σ args).bind fun args'=>(tr f (n+2) (σ++[.pair n (n+1)]) Γ t).map (.wcall fn h' args' rs)
   | .callv [] x h args rs=>(x.sb n σ).bind fun x'=>(h.sb n σ).bind fun h'=>(sbAll n σ args).bind fun args'=>(tr f (n+1) (σ++[.e (.sym n)]) Γ t).map (.callv x' h' args' rs)
   | b=>(sbBind n σ b).bind fun b'=>(tr f (n+1) (σ++[.e (.sym n)]) Γ t).map (.gen b')
 | f+1,n,σ,Γ,.ite c a b=>(c.sb n σ).bind fun c'=>(tr f n σ Γ a).bind fun a'=>(tr f n σ Γ b).map (.ite c' a')
 | f+1,n,σ,Γ,.loop l inits body=>
  let keep:=keepOr σ.length (liveOf body.bits σ.length inits.length) inits
  if keep.length=inits.length then(sbAll n σ (filtK keep inits)).bind fun inits'=>(tr f (n+inits'.length) (σ++ents n keep) ((l,keep) :: Γ) body).map (.loop l inits') else none
 | f+1,n,σ,Γ,.join l m body rest=>
  let keep:=liveOf rest.bits σ.length m
  if keep.length=m then(tr f n σ ((l,keep) :: Γ) body).bind fun body'=>(tr f (n+(filtK keep keep).length) (σ++ents n keep) Γ rest).map (phiOf l (filtK keep keep).length body') else none
 | _+1,n,σ,Γ,.jump l vals=>(Γ.lookup l).bind fun keep=>if vals.length=keep.length then(sbAll n σ (filtK keep vals)).bind fun vals'=>(sbAll n σ ((filtK (keep.map not) vals).filter fun x=>!sure σ.length x)).map (.jump l vals') else none
 | _+1,n,σ,_,.ret x=>(x.sb n σ).map .ret
 | _+1,n,σ,_,.pan x h sl ks=>(x.sb n σ).bind fun x'=>(h.sb n σ).bind fun h'=>(sbAll n σ ks).map (.pan x' h' sl)
 | f+1,n,σ,Γ,.nilq x neg t=>(x.sb n σ).bind fun x'=>(tr f (n+1) (σ++[.e (.sym n)]) Γ t).map (.nilq x' neg)
 | f+1,n,σ,Γ,.pick x t=>(x.sb n σ).bind fun x'=>(tr f (n+2) (σ++[.pair n (n+1)]) Γ t).map (.pick x')
 | f+1,n,σ,Γ,.dfr fn keep caps res t=>(sbAll n σ caps).bind fun caps'=>(tr f n σ Γ t).map (.dfr fn keep caps' res)
 | f+1,n,σ,Γ,.pcall fn h args rs sl ks t=>(h.sb n σ).bind fun h'=>(sbAll n σ args).bind fun args'=>(sbAll n σ ks).bind fun ks'=>(tr f (n+1) (σ++[.e (.sym n)]) Γ t).map (.pcall fn h' args' rs sl ks')
 | f+1,n,σ,Γ,.wpcall fn h args rs sl ks t=>(h.sb n σ).bind fun h'=>(sbAll n σ args).bind fun args'=>(sbAll n σ ks).bind fun ks'=>(tr f (n+2) (σ++[.pair n (n+1)]) Γ t).map (.wpcall fn h' args' rs sl ks')
 | f+1,n,σ,Γ,.wpcallv x h args rs sl ks t=>(x.sb n σ).bind fun x'=>(h.sb n σ).bind fun h'=>(sbAll n σ args).bind fun args'=>(sbAll n σ ks).bind fun ks'=>(tr f (n+2) (σ++[.pair n (n+1)]) Γ t).map (.wpcallv x' h' args' rs sl ks')
 | f+1,n,σ,Γ,.rfor x h sl caps m l body rest=>(x.sb n σ).bind fun x'=>(h.sb n σ).bind fun h'=>(sbAll n σ caps).bind fun caps'=>
  (tr f (n+(m+1)) (σ++ents n (List.replicate (m+1) true)) [(l,[true])] body).bind fun body'=>(tr f (n+1) (σ++[.e (.sym n)]) Γ rest).map (.rfor x' h' sl caps' m l body')

end Go.Am

/-
 What is shown of the shorter text holds of the longer one.
-/
namespace Go.Am

section
variable {P:Program} {g:E} {w p:Bool}

theorem takeT_pos:∀{t:T} {env:List D} {x:E} {dx:D},g.eval env=some (.v (.bool w))→den P (wrapBinds (takeT g w env.length t).1 (.ret x)) env (fun s=>s=.ret dx) →
  ∃us:List D,us.length=(takeT g w env.length t).2.1∧x.eval (env++us)=some dx∧∀(Q:Sig→Prop),den P (takeT g w env.length t).2.2 (env++us) Q→den P t env Q:=by
 intro t
 induction t with
 | bind b t ih=>
  intro env x dx hg h
  simp only[takeT] at h ⊢
  cases hs:stripB env.length g w b with
  | none=>
   simp only[hs] at h ⊢
   obtain⟨d,h1,h2⟩:=h
   cases h2
   exact⟨[],rfl,by simpa using h1,fun Q k=>by simpa using k⟩
  | some b'=>
   simp only[hs] at h ⊢
   have h':den P (.bind b' (wrapBinds (takeT g w (env.length+1) t).1 (.ret x))) env (fun s=>s=.ret dx):=h
   obtain⟨d,h1,h2⟩:=bind_any h'
   have hl:env.length+1=(env++[d]).length:=by simp
   rw[hl] at h1 ⊢
   obtain⟨us,g1,g2,g3⟩:=ih (env:=env++[d]) (E.eval_mono (prefix_append _ _) _ hg) h1
   refine⟨d :: us,by simp[g1],by simpa using g2,fun Q k=>?_⟩
   exact stripB_pos hs hg (h2 _ _ (g3 Q (by simpa using k)))
 | _=>
  intro env x dx hg h
  obtain⟨d,h1,h2⟩:=h
  cases h2
  exact⟨[],rfl,by simpa using h1,fun Q k=>by simpa[takeT] using k⟩

theorem takeT_neg:∀{t:T} {env:List D},g.eval env=some (.v (.bool p))→p≠w →
  ∃us:List D,us.length=(takeT g w env.length t).2.1∧∀(Q:Sig→Prop),den P (takeT g w env.length t).2.2 (env++us) Q→den P t env Q:=by
 intro t
 induction t with
 | bind b t ih=>
  intro env hg hp
  simp only[takeT]
  cases hs:stripB env.length g w b with
  | none=>exact⟨[],rfl,fun Q k=>by simpa using k⟩
  | some b'=>
   simp only
   have hl:env.length+1=(env++[D.undef]).length:=by simp
   rw[hl]
   obtain⟨us,g1,g3⟩:=ih (env:=env++[D.undef]) (E.eval_mono (prefix_append _ _) _ hg) hp
   refine⟨D.undef :: us,by simp[g1],fun Q k=>?_⟩
   exact stripB_neg hs hg hp (g3 Q (by simpa using k))
 | _=>
  intro env hg hp
  exact⟨[],rfl,fun Q k=>by simpa[takeT] using k⟩

theorem isBoolC_eq {b:Bool}{x:E}(h:isBoolC b x=true):x=.const (.v (.bool b)):=by
 unfold isBoolC at h
 split at h
 ·simp only[beq_iff_eq] at h;rw[h]
 ·cases h

theorem chain_sound {b:Bind} {t inner rest:T} {or:Bool} {k:Nat} {env:List D} {Q:Sig→Prop} (hc:chainOf env.length b t=some (or,g,inner,k,rest)) {q:Bool} (hg:g.eval env=some (.v (.bool p)))
  (h1:p=!or→den P inner env (fun s=>s=.ret (.v (.bool q)))) (h2:∀us:List D,us.length=k→den P rest (env++us++[.v (.bool (bif or then p||q else p&&q))]) Q):den P (.bind b t) env Q:=by
 unfold chainOf at hc
 split at hc
 ·rename_i g0 w _
  split at hc
  ·rename_i bs k0 g' y z rest0 hT
   split at hc
   ·rename_i hb
    have hgg:=E.beqG_eq hb.1
    subst hgg
    split at hc
    ·rename_i hw
     cases hc
     obtain⟨rfl,hy⟩:=hw
     have hy:=isBoolC_eq hy
     subst hy
     cases p with
     | true=>
      obtain⟨us,g1,g3⟩:=takeT_neg (P:=P) (t:=.bind b t) (w:=false) hg (by simp)
      rw[hT] at g1 g3
      refine g3 Q ⟨.v (.bool true),?_,?_⟩
      ·simp only[E.eval,E.eval_mono (prefix_append env us) _ hg]
      ·simpa using h2 us g1
     | false=>
      have h1':=h1 rfl
      have e:bs=(takeT g false env.length (.bind b t)).1:=by rw[hT]
      rw[e] at h1'
      obtain⟨us,g1,g2,g3⟩:=takeT_pos (P:=P) (t:=.bind b t) hg h1'
      rw[hT] at g1 g3
      refine g3 Q ⟨.v (.bool q),?_,?_⟩
      ·simp only[E.eval,E.eval_mono (prefix_append env us) _ hg];exact g2
      ·simpa using h2 us g1
    ·split at hc
     ·rename_i hw
      cases hc
      obtain⟨rfl,hz⟩:=hw
      have hz:=isBoolC_eq hz
      subst hz
      cases p with
      | false=>
       obtain⟨us,g1,g3⟩:=takeT_neg (P:=P) (t:=.bind b t) (w:=true) hg (by simp)
       rw[hT] at g1 g3
       refine g3 Q ⟨.v (.bool false),?_,?_⟩
       ·simp only[E.eval,E.eval_mono (prefix_append env us) _ hg]
       ·simpa using h2 us g1
      | true=>
       have h1':=h1 rfl
       have e:bs=(takeT g true env.length (.bind b t)).1:=by rw[hT]
       rw[e] at h1'
       obtain⟨us,g1,g2,g3⟩:=takeT_pos (P:=P) (t:=.bind b t) hg h1'
       rw[hT] at g1 g3
       refine g3 Q ⟨.v (.bool q),?_,?_⟩
       ·simp only[E.eval,E.eval_mono (prefix_append env us) _ hg];exact g2
       ·simpa using h2 us g1
     ·cases hc
   ·cases hc
  ·cases hc
 ·cases hc

theorem cheap_ok {env:List D}{x y:E}{c:Bool}(h:cheap env.length x=some (c,y))(hd:c=true→∃d,x.eval env=some d):∃d,x.eval env=some d∧y.eval env=some d:=by
 unfold cheap at h
 split at h
 ·rename_i j
  split at h
  ·rename_i hj;cases h;exact⟨_,List.getElem?_eq_getElem hj,List.getElem?_eq_getElem hj⟩
  ·cases h
 ·cases h;exact⟨_,rfl,rfl⟩
 ·split at h
  ·cases h
   obtain⟨d,hd⟩:=hd rfl
   simp only[E.eval,Option.bind_eq_some_iff] at hd
   obtain⟨d',h1,h2⟩:=hd
   refine⟨d',?_,h1⟩
   simp only[E.eval,h1,Option.bind_some]
   unfold D.aggN at h2 ⊢
   split at h2
   ·split at h2
    ·rename_i hl;rw[if_pos hl]
    ·cases h2
   ·cases h2
  ·cases h
 ·split at h
  ·cases h
   obtain⟨d,hd⟩:=hd rfl
   simp only[E.eval,Option.bind_eq_some_iff] at hd
   obtain⟨d',h1,h2⟩:=hd
   refine⟨d',?_,h1⟩
   simp only[E.eval,h1,Option.bind_some]
   unfold D.nn at h2 ⊢
   split at h2 <;> first | rfl | cases h2
  ·cases h
 ·split at h
  ·cases h
   obtain⟨d,hd⟩:=hd rfl
   simp only[E.eval,Option.bind_eq_some_iff] at hd
   obtain⟨d',h1,h2⟩:=hd
   refine⟨d',?_,h1⟩
   simp only[E.eval,h1,Option.bind_some]
   unfold D.scal at h2 ⊢
   split at h2
   ·rename_i hl;rw[if_pos hl]
   ·cases h2
  ·cases h
 ·split at h
  ·cases h;obtain⟨d,hd⟩:=hd rfl;exact⟨d,hd,hd⟩
  ·cases h
 ·split at h
  ·cases h;obtain⟨d,hd⟩:=hd rfl;exact⟨d,hd,hd⟩
  ·cases h
 ·split at h
  ·cases h;obtain⟨d,hd⟩:=hd rfl;exact⟨d,hd,hd⟩
  ·cases h
 ·cases h

/-! ## values that are left out -/

theorem ents_ok:∀{keep:List Bool} {ds pre:List D},ds.length=keep.length→∀(k:Nat) (s:SE),(ents pre.length keep)[k]? = some s→SEOk (pre++filtK keep ds) ds[k]? s
 | [],_,_,_,k,s,h=>by simp[ents] at h
 | true :: r,d :: ds,pre,hl,k,s,h=>by
  cases k with
  | zero=>
   simp only[ents,List.getElem?_cons_zero,Option.some.injEq] at h
   subst h
   simp[SEOk,E.eval,filtK]
  | succ k=>
   simp only[ents,List.getElem?_cons_succ] at h
   have hp:pre.length+1=(pre++[d]).length:=by simp
   rw[hp] at h
   have:=ents_ok (pre:=pre++[d]) (ds:=ds) (keep:=r) (by simpa using hl) k s h
   simpa[filtK] using this
 | false :: r,d :: ds,pre,hl,k,s,h=>by
  cases k with
  | zero=>
   simp only[ents,List.getElem?_cons_zero,Option.some.injEq] at h
   subst h
   exact trivial
  | succ k=>
   simp only[ents,List.getElem?_cons_succ] at h
   have:=ents_ok (pre:=pre) (ds:=ds) (keep:=r) (by simpa using hl) k s h
   simpa[filtK] using this
 | _ :: _,[],_,hl,_,_,_=>by simp at hl

theorem ents_length:∀{keep:List Bool} {n:Nat},(ents n keep).length=keep.length
 | [],_=>rfl
 | true :: r,n=>by simp[ents,ents_length (keep:=r)]
 | false :: r,n=>by simp[ents,ents_length (keep:=r)]

theorem evalAll_len2 {env:List D}:∀{l:List E} {ds:List D},evalAll env l=some ds→ds.length=l.length
 | [],ds,h=>by simp[evalAll] at h;simp[h]
 | x :: r,ds,h=>by
  simp only[evalAll,Option.bind_eq_some_iff,Option.map_eq_some_iff] at h
  obtain⟨d,_,ds',h2,rfl⟩:=h
  simp[evalAll_len2 h2]

theorem evalAll_filt {env:List D}:∀{keep:List Bool} {l:List E} {ds':List D},l.length=keep.length→evalAll env (filtK keep l)=some ds'→(∀x,x∈filtK (keep.map not) l→∃d,x.eval env=some d)→∃ds,evalAll env l=some ds∧filtK keep ds=ds'
 | [],[],ds',_,h,_=>by
  simp[filtK,evalAll] at h
  subst h
  exact⟨[],rfl,rfl⟩
 | true :: r,x :: l,ds',hl,h,hd=>by
  simp only[filtK,evalAll,Option.bind_eq_some_iff,Option.map_eq_some_iff] at h
  obtain⟨d,h1,ds2,h2,rfl⟩:=h
  obtain⟨ds,g1,g2⟩:=evalAll_filt (keep:=r) (l:=l) (by simpa using hl) h2 (fun x hx=>hd x (by simpa[filtK] using hx))
  exact⟨d :: ds,by simp[evalAll,h1,g1],by simp[filtK,g2]⟩
 | false :: r,x :: l,ds',hl,h,hd=>by
  simp only[filtK] at h
  obtain⟨d,h1⟩:=hd x (by simp[filtK])
  obtain⟨ds,g1,g2⟩:=evalAll_filt (keep:=r) (l:=l) (by simpa using hl) h (fun x hx=>hd x (by simp[filtK,hx]))
  exact⟨d :: ds,by simp[evalAll,h1,g1],by simp[filtK,g2]⟩
 | [],_ :: _,_,hl,_,_=>by simp at hl
 | _ :: _,[],_,hl,_,_=>by simp at hl

theorem evalAll_mem {env:List D}:∀{l:List E} {ds:List D},evalAll env l=some ds→∀x,x∈l→∃d,x.eval env=some d
 | [],_,_,x,hx=>by cases hx
 | y :: r,ds,h,x,hx=>by
  simp only[evalAll,Option.bind_eq_some_iff,Option.map_eq_some_iff] at h
  obtain⟨d,h1,ds2,h2,rfl⟩:=h
  rcases List.mem_cons.1 hx with rfl | hx
  ·exact⟨d,h1⟩
  ·exact evalAll_mem h2 x hx

theorem sure_ok {env:List D}{x:E}(h:sure env.length x=true):∃d,x.eval env=some d:=by
 cases x <;> simp only[sure,decide_eq_true_eq] at h
 case sym k=>exact⟨_,List.getElem?_eq_getElem h⟩
 case const d=>exact⟨d,rfl⟩
 all_goals cases h

theorem keepOr_ok {env:List D}:∀{ks:List Bool} {l:List E},(keepOr env.length ks l).length=l.length→∀x,x∈filtK ((keepOr env.length ks l).map not) l→∃d,x.eval env=some d
 | [],[],_,x,hx=>by simp[keepOr,filtK] at hx
 | b :: r,y :: l,hl,x,hx=>by
  simp only[keepOr,List.length_cons,Nat.add_right_cancel_iff,List.map_cons] at hl hx
  cases hb:(b||!sure env.length y) with
  | true=>
   rw[hb] at hx
   simp only[Bool.not_true,filtK] at hx
   exact keepOr_ok hl x hx
  | false=>
   rw[hb] at hx
   simp only[Bool.not_false,filtK,List.mem_cons] at hx
   rcases hx with rfl | hx
   ·simp only[Bool.or_eq_false_iff,Bool.not_eq_false'] at hb
    exact sure_ok hb.2
   ·exact keepOr_ok hl x hx
 | [],_ :: _,hl,_,_=>by simp[keepOr] at hl
 | _ :: _,[],_,x,hx=>by simp[keepOr,filtK] at hx

structure SigOk (Γ:List (Nat×List Bool))(Q' Q:Sig→Prop):Prop where
 ret:∀d,Q' (.ret d)→Q (.ret d)
 pan:∀d st sl kd,Q' (.pan d st sl kd)→Q (.pan d st sl kd)
 jump:∀l keep,Γ.lookup l=some keep→∀ds:List D,ds.length=keep.length→Q' (.jump l (filtK keep ds))→Q (.jump l ds)

theorem SigOk.catch {Γ:List (Nat×List Bool)}{Q' Q:Sig→Prop}{K' K:List D→Prop}{l:Nat}{keep:List Bool}(h:SigOk Γ Q' Q)(hK:∀ds:List D,ds.length=keep.length→K' (filtK keep ds)→K ds):SigOk ((l,keep) :: Γ) (catchL l K' Q') (catchL l K Q):=by
 refine⟨h.ret,h.pan,fun m kp hm ds hl=>?_⟩
 simp only[List.lookup] at hm
 split at hm
 ·rename_i e
  have e:m=l:=by simpa using e
  cases hm
  subst e
  simp only[catchL,if_true]
  exact hK ds hl
 ·rename_i e
  have e:m≠l:=by simpa using e
  simp only[catchL,if_neg e]
  exact h.jump m kp hm ds hl

theorem SigOk.same {Γ:List (Nat×List Bool)}(hΓ:Γ=[]){Q:Sig→Prop}:SigOk Γ Q Q:=by
 subst hΓ
 exact⟨fun _ h=>h,fun _ _ _ _ h=>h,fun _ _ h=>by cases h⟩

theorem phiOf_den {l n:Nat}{body rest:U}{env:List D}{Q:Sig→Prop}(h:denU P (phiOf l n body rest) env Q):denU P (.join l n body rest) env Q:=by
 unfold phiOf at h
 split at h
 ·rename_i c l1 as l2 bs
  split at h
  ·rename_i hc
   obtain⟨rfl,rfl,h1,h2⟩:=hc
   obtain⟨v,ds,g1,g2,g3,g4⟩:=h
   refine⟨v,g1,fun e=>?_,fun e=>?_⟩
   ·refine⟨⟨[],rfl⟩,ds,g2 e,?_⟩
    simp only[catchL,if_true]
    exact⟨by rw[evalAll_len2 (g2 e),h1],g4⟩
   ·refine⟨⟨[],rfl⟩,ds,g3 e,?_⟩
    simp only[catchL,if_true]
    exact⟨by rw[evalAll_len2 (g3 e),h2],g4⟩
  ·exact h
 ·exact h

end

section
variable {P:Program} {σ:List SE} {env env':List D}

theorem SOk.one (h:SOk σ env env')(hl:env.length=σ.length){d:D}{s:SE}{env2:List D}(he:env' <+: env2)(hs:SEOk env2 (some d) s):SOk (σ++[s]) (env++[d]) env2:=
 h.append hl (fun k s' hk=>by
  cases k with
  | zero=>simp at hk;subst hk;exact hs
  | succ k=>simp at hk) he

theorem SOk.push (h:SOk σ env env')(hl:env.length=σ.length)(d:D):SOk (σ++[.e (.sym env'.length)]) (env++[d]) (env'++[d]):=
 h.one hl (prefix_append _ _) (by simp[SEOk,E.eval])

theorem SOk.pair (h:SOk σ env env')(hl:env.length=σ.length)(d e:D):SOk (σ++[.pair env'.length (env'.length+1)]) (env++[.tup [d,e]]) (env'++[d,e]):=
 h.one hl (prefix_append _ _) ⟨d,e,by simp,by simp,rfl⟩

theorem SOk.ents (h:SOk σ env env')(hl:env.length=σ.length){keep:List Bool}{ds:List D}(hd:ds.length=keep.length):SOk (σ++Go.Am.ents env'.length keep) (env++ds) (env'++filtK keep ds):=
 h.append hl (ents_ok hd) (prefix_append _ _)

theorem bind_gen {b:Bind}{Q:Sig→Prop}{d:D}(h:den P (.bind b (.ret (.sym env.length))) env (fun s=>s=.ret d)){t:T}(k:den P t (env++[d]) Q):den P (.bind b t) env Q:=by
 obtain⟨d',h1,h2⟩:=bind_any h
 obtain⟨d2,g1,g2⟩:=h1
 simp only[E.eval,List.getElem?_append_right (Nat.le_refl _),Nat.sub_self,List.getElem?_cons_zero,Option.some.injEq] at g1
 cases g2
 subst g1
 exact h2 _ _ k

theorem sbBind_den (hσ:SOk σ env env'){b b':Bind}(h:sbBind env'.length σ b=some b'){d:D}(hd:den P (.bind b' (.ret (.sym env'.length))) env' (fun s=>s=.ret d)):den P (.bind b (.ret (.sym env.length))) env (fun s=>s=.ret d):=by
 have last:∀{e:List D} {x:D},den P (.ret (.sym e.length)) (e++[x]) (fun s=>s=.ret d)↔x=d:=by
  intro e x
  constructor
  ·rintro⟨d2,g1,g2⟩
   simp only[E.eval,List.getElem?_append_right (Nat.le_refl _),Nat.sub_self,List.getElem?_cons_zero,Option.some.injEq] at g1
   cases g2
   exact g1
  ·rintro rfl
   exact⟨x,by simp[E.eval],rfl⟩
 cases b with
 | ev x=>
  simp only[sbBind,Option.map_eq_some_iff] at h
  obtain⟨x',h1,rfl⟩:=h
  obtain⟨d0,g1,g2⟩:=hd
  exact⟨d0,by rw[←E.sb_eval hσ h1];exact g1,last.2 (last.1 g2)⟩
 | call act f h' args rs=>
  simp only[sbBind,Option.bind_eq_some_iff,Option.map_eq_some_iff] at h
  obtain⟨act',ha,h2,hh,args',hA,rfl⟩:=h
  obtain⟨k1,k2⟩:=sbAct_eval hσ ha
  obtain⟨g0,d0,g1,g2⟩:=hd
  refine⟨k1 g0,d0,fun hact=>?_,last.2 (last.1 g2)⟩
  obtain⟨st,ds,q1,q2,q3⟩:=g1 (k2.2 hact)
  exact⟨st,ds,by rw[←E.sb_eval hσ hh];exact q1,by rw[←sbAll_eval hσ hA];exact q2,q3⟩
 | wcall act f h' args rs=>
  simp only[sbBind,Option.bind_eq_some_iff,Option.map_eq_some_iff] at h
  obtain⟨act',ha,h2,hh,args',hA,rfl⟩:=h
  obtain⟨k1,k2⟩:=sbAct_eval hσ ha
  obtain⟨g0,st,d0,hn,g1,g2,g3,g4⟩:=hd
  refine⟨k1 g0,st,d0,hn,by rw[←E.sb_eval hσ hh];exact g1,fun hact=>?_,fun hact=>g3 fun hh=>hact (k2.1 hh),last.2 (last.1 g4)⟩
  obtain⟨ds,q2,q3⟩:=g2 (k2.2 hact)
  exact⟨ds,by rw[←sbAll_eval hσ hA];exact q2,q3⟩
 | callv act x h' args rs=>
  simp only[sbBind,Option.bind_eq_some_iff,Option.map_eq_some_iff] at h
  obtain⟨act',ha,x',hx,h2,hh,args',hA,rfl⟩:=h
  obtain⟨k1,k2⟩:=sbAct_eval hσ ha
  obtain⟨g0,d0,g1,g2⟩:=hd
  refine⟨k1 g0,d0,fun hact=>?_,last.2 (last.1 g2)⟩
  obtain⟨f,us,cs,st,ds,q0,q1,q2,q3,q4⟩:=g1 (k2.2 hact)
  exact⟨f,us,cs,st,ds,by rw[←E.sb_eval hσ hx];exact q0,q1,by rw[←E.sb_eval hσ hh];exact q2,by rw[←sbAll_eval hσ hA];exact q3,q4⟩
 | wcallv act x h' args rs=>
  simp only[sbBind,Option.bind_eq_some_iff,Option.map_eq_some_iff] at h
  obtain⟨act',ha,x',hx,h2,hh,args',hA,rfl⟩:=h
  obtain⟨k1,k2⟩:=sbAct_eval hσ ha
  obtain⟨g0,st,d0,hn,g1,g2,g3,g4⟩:=hd
  refine⟨k1 g0,st,d0,hn,by rw[←E.sb_eval hσ hh];exact g1,fun hact=>?_,fun hact=>g3 fun hh=>hact (k2.1 hh),last.2 (last.1 g4)⟩
  obtain⟨xd,ds,q1,q2,q3⟩:=g2 (k2.2 hact)
  exact⟨xd,ds,by rw[←E.sb_eval hσ hx];exact q1,by rw[←sbAll_eval hσ hA];exact q2,q3⟩

theorem filtK_true {α:Type}:∀{m:Nat} {l:List α},l.length=m→filtK (List.replicate m true) l=l
 | 0,[],_=>rfl
 | m+1,x :: l,h=>by simp[List.replicate,filtK,filtK_true (m:=m) (l:=l) (by simpa using h)]

theorem tr_sound:∀(f:Nat) {σ:List SE} {Γ:List (Nat×List Bool)} {t:T} {u:U} {env env':List D} {Q' Q:Sig→Prop},tr f env'.length σ Γ t=some u→env.length=σ.length→SOk σ env env'→SigOk Γ Q' Q→denU P u env' Q'→den P t env Q:=by
 intro f
 induction f with
 | zero=>intro σ Γ t u env env' Q' Q h;simp[tr] at h
 | succ f ih=>
  intro σ Γ t u env env' Q' Q h hl hσ hQ hu
  have pushed:∀{t:T} {u:U} {d:D} {Γ:List (Nat×List Bool)} {Q' Q:Sig→Prop},tr f (env'.length+1) (σ++[.e (.sym env'.length)]) Γ t=some u→SigOk Γ Q' Q→denU P u (env'++[d]) Q'→den P t (env++[d]) Q:=by
   intro t u d Γ Q' Q ht hq hd
   exact ih (env:=env++[d]) (env':=env'++[d]) (by simpa using ht) (by simp[hl]) (hσ.push hl d) hq hd
  have paired:∀{t:T} {u:U} {d e:D} {Γ:List (Nat×List Bool)} {Q' Q:Sig→Prop},tr f (env'.length+2) (σ++[.pair env'.length (env'.length+1)]) Γ t=some u→SigOk Γ Q' Q→denU P u (env'++[d,e]) Q'→den P t (env++[.tup [d,e]]) Q:=by
   intro t u d e Γ Q' Q ht hq hd
   exact ih (env:=env++[.tup [d,e]]) (env':=env'++[d,e]) (by simpa using ht) (by simp[hl]) (hσ.pair hl d e) hq hd
  cases t with
  | bind b t=>
   simp only[tr] at h
   cases hc:chainOf σ.length b t with
   | some r=>
    obtain⟨or,g,inner,k,rest⟩:=r
    simp only[hc,Option.bind_eq_some_iff,Option.map_eq_some_iff] at h
    obtain⟨g',h1,v,h2,r',h3,rfl⟩:=h
    obtain⟨p,q,k1,k2,k3⟩:=hu
    refine chain_sound (by rw[hl];exact hc) (by rw[←E.sb_eval hσ h1];exact k1) (fun e=>ih h2 hl hσ (SigOk.same rfl) (k2 e)) fun us hus=>?_
    rw[List.append_assoc]
    refine ih (env':=env'++[_]) (by simpa using h3) (by simp[hl,hus]) ?_ hQ k3
    refine hσ.append hl (fun k' s hs=>?_) (prefix_append _ _)
    rcases Nat.lt_or_ge k' k with hk | hk
    ·rw[List.getElem?_append_left (by simpa using hk)] at hs
     simp only[List.getElem?_replicate,hk,if_true,Option.some.injEq] at hs
     subst hs
     exact trivial
    ·rw[List.getElem?_append_right (by simpa using hk)] at hs
     rw[List.getElem?_append_right (by omega)]
     simp only[List.length_replicate] at hs
     rw[hus]
     cases hkk:k'-k with
     | zero=>
      rw[hkk] at hs
      simp only[List.getElem?_cons_zero,Option.some.injEq] at hs
      subst hs
      simp[SEOk,E.eval]
     | succ m=>rw[hkk] at hs;simp at hs
   | none=>
    simp only[hc] at h
    have general:∀{b:Bind},((sbBind env'.length σ b).bind fun b'=>(tr f (env'.length+1) (σ++[.e (.sym env'.length)]) Γ t).map (.gen b'))=some u→den P (.bind b t) env Q:=by
     intro b h
     simp only[Option.bind_eq_some_iff,Option.map_eq_some_iff] at h
     obtain⟨b',h1,r,h2,rfl⟩:=h
     obtain⟨d,k1,k2⟩:=hu
     exact bind_gen (sbBind_den hσ h1 k1) (pushed h2 hQ k2)
    split at h
    ·rename_i x
     simp only[Option.bind_eq_some_iff] at h
     obtain⟨x',hx,h⟩:=h
     have ex:=E.sb_eval hσ hx
     split at h
     ·rename_i y hch
      obtain⟨d,k1,k2⟩:=cheap_ok hch (fun e=>by cases e)
      exact⟨d,by rw[←ex];exact k1,ih (env:=env++[d]) h (by simp[hl]) (hσ.one hl (List.prefix_refl _) k2) hQ hu⟩
     ·rename_i y hch
      simp only[Option.map_eq_some_iff] at h
      obtain⟨r,h2,rfl⟩:=h
      obtain⟨d,k1,k2⟩:=cheap_ok hch (fun _=>hu.1)
      exact⟨d,by rw[←ex];exact k1,ih (env:=env++[d]) h2 (by simp[hl]) (hσ.one hl (List.prefix_refl _) k2) hQ hu.2⟩
     ·simp only[Option.map_eq_some_iff] at h
      obtain⟨r,h2,rfl⟩:=h
      obtain⟨d,k1,k2⟩:=hu
      exact⟨d,by rw[←ex];exact k1,pushed h2 hQ k2⟩
    ·simp only[Option.bind_eq_some_iff,Option.map_eq_some_iff] at h
     obtain⟨h',hh,args',ha,r,h2,rfl⟩:=h
     obtain⟨st,ds,d,k1,k2,k3,k4,k5⟩:=hu
     exact⟨fun _ hp=>(by cases hp),d,fun _=>⟨st,ds,by rw[←E.sb_eval hσ hh];exact k1,by rw[←sbAll_eval hσ ha];exact k2,k3,k4⟩,pushed h2 hQ k5⟩
    ·simp only[Option.bind_eq_some_iff,Option.map_eq_some_iff] at h
     obtain⟨h',hh,args',ha,r,h2,rfl⟩:=h
     obtain⟨st,ds,d,hn,k1,k2,k3,k4,k5⟩:=hu
     exact⟨fun _ hp=>(by cases hp),st,d,hn,by rw[←E.sb_eval hσ hh];exact k1,fun _=>⟨ds,by rw[←sbAll_eval hσ ha];exact k2,k3,k4⟩,fun hno=>absurd (fun _ hp=>(by cases hp)) hno,paired h2 hQ k5⟩
    ·simp only[Option.bind_eq_some_iff,Option.map_eq_some_iff] at h
     obtain⟨x',hx,h',hh,args',ha,r,h2,rfl⟩:=h
     obtain⟨fn,us,cs,st,ds,d,g1,g2,k1,k2,k3,k4,k5⟩:=hu
     exact⟨fun _ hp=>(by cases hp),d,fun _=>⟨fn,us,cs,st,ds,by rw[←E.sb_eval hσ hx];exact g1,g2,by rw[←E.sb_eval hσ hh];exact k1,by rw[←sbAll_eval hσ ha];exact k2,k3,k4⟩,pushed h2 hQ k5⟩
    ·exact general h
  | ite c a b=>
   simp only[tr,Option.bind_eq_some_iff,Option.map_eq_some_iff] at h
   obtain⟨c',hc,a',ha,b',hb,rfl⟩:=h
   obtain⟨v,k1,k2,k3⟩:=hu
   exact⟨v,by rw[←E.sb_eval hσ hc];exact k1,fun e=>ih ha hl hσ hQ (k2 e),fun e=>ih hb hl hσ hQ (k3 e)⟩
  | loop l inits body=>
   simp only[tr] at h
   split at h
   ·rename_i hkl
    simp only[Option.bind_eq_some_iff,Option.map_eq_some_iff] at h
    obtain⟨inits',hi,body',hb,rfl⟩:=h
    obtain⟨ds',k1,n,k2⟩:=hu
    rw[←hl] at hkl hi hb
    generalize hkeep:keepOr env.length (liveOf body.bits env.length inits.length) inits=keep at *
    obtain⟨ds,g1,g2⟩:=evalAll_filt (env:=env) (keep:=keep) (l:=inits) hkl.symm (by rw[←sbAll_eval hσ hi];exact k1) (by rw[←hkeep];exact keepOr_ok (by rw[hkeep];exact hkl))
    refine⟨ds,g1,n,?_⟩
    have hin:inits'.length=(filtK keep inits).length:=by
     have e1:=evalAll_len2 k1
     have e2:=evalAll_len2 (show evalAll env (filtK keep inits)=some ds' by rw[←sbAll_eval hσ hi];exact k1)
     omega
    have main:∀(n:Nat) (ds:List D) {R' R:Sig→Prop},ds.length=inits.length→SigOk Γ R' R→rounds l (fun ds Q=>ds.length=inits'.length∧denU P body' (env'++ds) Q) R' n (filtK keep ds)→rounds l (fun ds Q=>ds.length=inits.length∧den P body (env++ds) Q) R n ds:=by
     intro n
     induction n with
     | zero=>intro ds R' R _ _ h;exact h
     | succ n ihn=>
      intro ds R' R hdl hR h
      obtain⟨q1,q2⟩:=h
      refine⟨hdl,ih (env:=env++ds) (env':=env'++filtK keep ds) (by rw[List.length_append,q1];exact hb) (by simp[hl,hdl,ents_length,hkl]) (hσ.ents hl (by omega)) (hR.catch fun ds1 hl1 hr=>ihn ds1 (by omega) hR hr) q2⟩
    exact main n ds (evalAll_len2 g1) hQ (by rw[g2];exact k2)
   ·cases h
  | join l m body rest=>
   simp only[tr] at h
   split at h
   ·rename_i hkl
    simp only[Option.bind_eq_some_iff,Option.map_eq_some_iff] at h
    obtain⟨body',hb,rest',hr,rfl⟩:=h
    have hu:=phiOf_den hu
    generalize liveOf rest.bits σ.length m=keep at *
    show den P body env (catchL l _ Q)
    refine ih hb hl hσ (hQ.catch fun ds hdl hk=>?_) hu
    obtain⟨q1,q2⟩:=hk
    exact⟨by omega,ih (env:=env++ds) (env':=env'++filtK keep ds) (by rw[List.length_append,q1];exact hr) (by simp[hl,hdl,ents_length]) (hσ.ents hl hdl) hQ q2⟩
   ·cases h
  | jump l vals=>
   simp only[tr,Option.bind_eq_some_iff] at h
   obtain⟨keep,hlk,h⟩:=h
   split at h
   ·rename_i hkl
    simp only[Option.bind_eq_some_iff,Option.map_eq_some_iff] at h
    obtain⟨vals',hv,chks,hch,rfl⟩:=h
    obtain⟨⟨cs,k0⟩,ds',k1,k2⟩:=hu
    obtain⟨ds,g1,g2⟩:=evalAll_filt (env:=env) (keep:=keep) (l:=vals) hkl (by rw[←sbAll_eval hσ hv];exact k1) (fun x hx=>by
     cases hs:sure σ.length x with
     | true=>exact sure_ok (by rw[hl];exact hs)
     | false=>exact evalAll_mem (show evalAll env _=some cs by rw[←sbAll_eval hσ hch];exact k0) x (by simp[hx,hs]))
    exact⟨ds,g1,hQ.jump l keep hlk ds (by rw[evalAll_len2 g1,hkl]) (by rw[g2];exact k2)⟩
   ·cases h
  | ret x=>
   simp only[tr,Option.map_eq_some_iff] at h
   obtain⟨x',hx,rfl⟩:=h
   obtain⟨d,k1,k2⟩:=hu
   exact⟨d,by rw[←E.sb_eval hσ hx];exact k1,hQ.ret _ k2⟩
  | pan x hE sl ks=>
   simp only[tr,Option.bind_eq_some_iff,Option.map_eq_some_iff] at h
   obtain⟨x',hx,h',hh,ks',hks,rfl⟩:=h
   obtain⟨d,st,kd,k1,k2,k3,k4⟩:=hu
   exact⟨d,st,kd,by rw[←E.sb_eval hσ hx];exact k1,by rw[←E.sb_eval hσ hh];exact k2,by rw[←sbAll_eval hσ hks];exact k3,hQ.pan _ _ _ _ k4⟩
  | nilq x neg t=>
   simp only[tr,Option.bind_eq_some_iff,Option.map_eq_some_iff] at h
   obtain⟨x',hx,t',ht,rfl⟩:=h
   obtain⟨d,bs,k1,k2,k3⟩:=hu
   exact⟨d,bs,by rw[←E.sb_eval hσ hx];exact k1,k2,fun b hb=>pushed ht hQ (k3 b hb)⟩
  | pick x t=>
   simp only[tr,Option.bind_eq_some_iff,Option.map_eq_some_iff] at h
   obtain⟨x',hx,t',ht,rfl⟩:=h
   obtain⟨ys,k1,k2⟩:=hu
   exact⟨ys,by rw[←E.sb_eval hσ hx];exact k1,fun d st hy=>paired ht hQ (k2 d st hy)⟩
  | dfr fn keep caps res t=>
   simp only[tr,Option.bind_eq_some_iff,Option.map_eq_some_iff] at h
   obtain⟨caps',hc,t',ht,rfl⟩:=h
   obtain⟨cds,k1,k2,k3⟩:=hu
   refine⟨cds,by rw[←sbAll_eval hσ hc];exact k1,k2,ih ht hl hσ ⟨fun d hd=>?_,fun d st sl kd hd=>?_,fun l kp _ ds _ hd=>hd.elim⟩ k3⟩
   ·unfold DfrQ at hd ⊢
    split at hd
    ·obtain⟨st',d',q1,q2,q3⟩:=hd;exact⟨st',d',q1,q2,hQ.ret _ q3⟩
    ·rename_i heq;cases heq
    ·exact hd.elim
   ·unfold DfrQ at hd ⊢
    obtain⟨q0,st',d',q1,q2,q3⟩:=hd
    exact⟨q0,st',d',q1,q2,hQ.ret _ q3⟩
  | pcall fn hE args rs sl ks t=>
   simp only[tr,Option.bind_eq_some_iff,Option.map_eq_some_iff] at h
   obtain⟨h',hh,args',ha,ks',hks,t',ht,rfl⟩:=h
   obtain⟨st,ds,o,k1,k2,k3,k4⟩:=hu
   refine⟨st,ds,o,by rw[←E.sb_eval hσ hh];exact k1,by rw[←sbAll_eval hσ ha];exact k2,k3,?_⟩
   cases o with
   | ret d=>exact⟨k4.1,pushed ht hQ k4.2⟩
   | pan d=>obtain⟨kd,q1,q2⟩:=k4;exact⟨kd,by rw[←sbAll_eval hσ hks];exact q1,hQ.pan _ _ _ _ q2⟩
  | wpcall fn hE args rs sl ks t=>
   simp only[tr,Option.bind_eq_some_iff,Option.map_eq_some_iff] at h
   obtain⟨h',hh,args',ha,ks',hks,t',ht,rfl⟩:=h
   obtain⟨st,ds,o,hn,k1,k2,k3,k4⟩:=hu
   refine⟨st,ds,o,hn,by rw[←E.sb_eval hσ hh];exact k1,by rw[←sbAll_eval hσ ha];exact k2,k3,?_⟩
   cases o with
   | ret d=>exact⟨k4.1,paired ht hQ k4.2⟩
   | pan d=>obtain⟨kd,q1,q2⟩:=k4;exact⟨kd,by rw[←sbAll_eval hσ hks];exact q1,hQ.pan _ _ _ _ q2⟩
  | wpcallv x hE args rs sl ks t=>
   simp only[tr,Option.bind_eq_some_iff,Option.map_eq_some_iff] at h
   obtain⟨x',hx,h',hh,args',ha,ks',hks,t',ht,rfl⟩:=h
   obtain⟨fn,us,cs,st,ds,o,hn,g1,g2,k1,k2,k3,k4⟩:=hu
   refine⟨fn,us,cs,st,ds,o,hn,by rw[←E.sb_eval hσ hx];exact g1,g2,by rw[←E.sb_eval hσ hh];exact k1,by rw[←sbAll_eval hσ ha];exact k2,k3,?_⟩
   cases o with
   | ret d=>exact⟨k4.1,paired ht hQ k4.2⟩
   | pan d=>obtain⟨kd,q1,q2⟩:=k4;exact⟨kd,by rw[←sbAll_eval hσ hks];exact q1,hQ.pan _ _ _ _ q2⟩
  | rfor x hE sl caps m l body rest=>
   simp only[tr,Option.bind_eq_some_iff,Option.map_eq_some_iff] at h
   obtain⟨x',hx,h',hh,caps',hc,body',hb,rest',hr,rfl⟩:=h
   obtain⟨fn,us,cs,st,cds,d,st',g1,g2,k1,k2,k3,k4,k5,k6⟩:=hu
   refine⟨fn,us,cs,st,cds,d,st',by rw[←E.sb_eval hσ hx];exact g1,g2,by rw[←E.sb_eval hσ hh];exact k1,by rw[←sbAll_eval hσ hc];exact k2,k3,k4,fun mm rec hY=>?_,pushed hr hQ k6⟩
   refine k5 mm rec fun st1 ds st2 n1 n2 n3 hden=>hY st1 ds st2 n1 n2 n3 ?_
   have e:(st1 :: ds).length=(List.replicate (m+1) true).length:=by simp[n3]
   have hs:=hσ.ents hl e
   rw[filtK_true (by simp[n3])] at hs
   rw[List.append_assoc] at hden ⊢
   refine ih (env:=env++([st1]++ds)) (env':=env'++([st1]++ds)) (by simpa[n3,Nat.add_comm,Nat.add_left_comm] using hb) (by simp[hl,n3,ents_length]) hs ⟨fun d hd=>(by cases hd),fun _ _ _ _ hd=>(by cases hd),fun l' kp hlk ds' hdl hd=>?_⟩ hden
   simp only[List.lookup] at hlk
   split at hlk
   ·rename_i e'
    have e':l'=l:=by simpa using e'
    cases hlk
    match ds',hdl with
    | [y],_=>
     simp only[filtK] at hd
     rw[hd]
   ·cases hlk

def shorten (n:Nat)(t:T):Option U:=tr 100000 n ((List.range n).map fun k=>.e (.sym k)) [] t

theorem shorten_ok {t:T}{u:U}{Q:Sig→Prop}(h:shorten env.length t=some u)(hu:denU P u env Q):den P t env Q:=
 tr_sound 100000 h (by simp) (fun k s hk=>by
  simp only[List.getElem?_map,Option.map_eq_some_iff] at hk
  obtain⟨j,h1,rfl⟩:=hk
  have:j=k:=by
   rw[List.getElem?_range (by
    have:=(List.getElem?_eq_some_iff.1 h1).1
    simpa using this)] at h1
   exact(Option.some.inj h1).symm
  subst this
  rfl) (SigOk.same rfl) hu

end
end Go.Am

/-
 Functions with their shorter texts.
-/
namespace Go.Am

def UOk (P:Program)(f:FuncId)(kn:Kn)(cf:StCfg)(ones:List Bool)(u:U):Prop:=
 ∃fn,P.funcs[f]? = some fn∧paramOnes P fn=ones∧(match kn with
  | .plain=>(compileFn P cf fn).bind (shorten (ones.length+1))
  | .defers keep=>(compileDefer P cf fn keep).bind (shorten (ones.length+1))
  | .recovers=>(compileR P cf fn).bind (shorten (ones.length+2)))=some u

section
variable {P:Program} {f:FuncId} {kn:Kn} {cf:StCfg} {ones:List Bool} {u:U} {ds bs bs':List D} {d:D} {o:Out}

theorem UOk.plain {fn:Func}(hf:P.funcs[f]? = some fn)(h1:paramOnes P fn=ones)(h2:(compileFn P cf fn).bind (shorten (ones.length+1))=some u):UOk P f .plain cf ones u:=⟨fn,hf,h1,h2⟩
theorem UOk.defers {fn:Func}{keep:List Nat}(hf:P.funcs[f]? = some fn)(h1:paramOnes P fn=ones)(h2:(compileDefer P cf fn keep).bind (shorten (ones.length+1))=some u):UOk P f (.defers keep) cf ones u:=⟨fn,hf,h1,h2⟩
theorem UOk.recovers {fn:Func}(hf:P.funcs[f]? = some fn)(h1:paramOnes P fn=ones)(h2:(compileR P cf fn).bind (shorten (ones.length+2))=some u):UOk P f .recovers cf ones u:=⟨fn,hf,h1,h2⟩

theorem UOk.readO (h:UOk P f .plain cf ones u)(hro:cf.ro=true)(hfit:argsFit ones ds=true)(hden:denU P u (ds++[.st bs]) (EndsIn o (.st bs))):FSpecO P f (.st bs) ds o:=by
 obtain⟨fn,hf,rfl,hc⟩:=h
 obtain⟨t,h1,h2⟩:=Option.bind_eq_some_iff.1 hc
 obtain⟨hl,_⟩:=argsFit_spec hfit
 exact fspecO hro hf h1 hfit (shorten_ok (by simpa[←hl] using h2) hden)

theorem UOk.writeO (h:UOk P f .plain cf ones u)(hfit:argsFit ones ds=true)(hden:denU P u (ds++[.st bs]) (EndsIn o (.st bs'))):FSpecWO P f (.st bs) ds o (.st bs'):=by
 obtain⟨fn,hf,rfl,hc⟩:=h
 obtain⟨t,h1,h2⟩:=Option.bind_eq_some_iff.1 hc
 obtain⟨hl,_⟩:=argsFit_spec hfit
 exact fspecWO hf h1 hfit (shorten_ok (by simpa[←hl] using h2) hden)

theorem UOk.R (h:UOk P f .plain cf ones u)(hro:cf.ro=true)(hfit:argsFit ones ds=true)(hden:denU P u (ds++[.st bs]) (fun s=>s=.ret (.tup [d,.st bs]))):FSpecR P f (.st bs) ds d:=h.readO hro hfit hden

theorem UOk.W (h:UOk P f .plain cf ones u)(hfit:argsFit ones ds=true)(hden:denU P u (ds++[.st bs]) (fun s=>s=.ret (.tup [d,.st bs']))):FSpecW P f (.st bs) ds d (.st bs'):=h.writeO hfit hden
end

/-! ## to write texts with -/

def ups:List (U→U)→U→U
 | [],u=>u
 | f :: r,u=>f (ups r u)

theorem ups_nil (u:U):ups [] u=u:=rfl
theorem ups_cons (f:U→U)(r:List (U→U))(u:U):ups (f :: r) u=f (ups r u):=rfl

abbrev ki (n:Int):E:=.const (.v (.int .i64 n))
abbrev kb (b:Bool):E:=.const (.v (.bool b))

def agcFrom (x:E):Nat→Nat→E
 | _,0=>.nil
 | k,n+1=>.cons (.cell k x) (agcFrom x (k+1) n)

def agc (n:Nat)(x:E):E:=agcFrom x 0 n

end Go.Am

/-
 Steps for proofs about the shorter texts.
-/
namespace Go.Am

/-! ## short names,for the blocks of steps -/

theorem sbc {α:Type}{a:α}{as bs:List α}:a :: as++bs=a :: (as++bs):=rfl
theorem sbn {α:Type}{as:List α}:[]++as=as:=rfl
theorem sb0:(!true)=false:=rfl
theorem sb1:(!false)=true:=rfl
theorem sb2 {p:Prop}[Decidable p]:(decide p=true)=p:=decide_eq_true_eq
theorem sb3 {p:Prop}[Decidable p]:(decide p=false)↔¬p:=decide_eq_false_iff_not
theorem sb4 (a b:Bool):((a&&b)=true)=(a=true∧b=true):=Bool.and_eq_true a b
theorem sb5 (a b:Bool):((a||b)=true)=(a=true∨b=true):=Bool.or_eq_true a b
theorem sb6 {a b:Bool}:(a||b)=false↔a=false∧b=false:=Bool.or_eq_false_iff
theorem sb7 {a:Bool}:(!a)=true↔a=false:=by cases a <;> simp
theorem sb8 {a:Bool}:(!a)=false↔a=true:=by cases a <;> simp
theorem sb9 {a b:Int}:¬a<b↔b≤a:=Int.not_lt
theorem sb10 {a b:Int}:¬a≤b↔b<a:=Int.not_le
theorem sb11 {α:Type}[BEq α][LawfulBEq α]{a b:α}:(a==b)=true↔a=b:=beq_iff_eq
theorem sb12 {α:Type}[BEq α][LawfulBEq α]{a b:α}:(a != b)=true↔a≠b:=bne_iff_ne
theorem sb13 {α:Type}[BEq α][LawfulBEq α]{a b:α}:(a==b)=false↔a≠b:=beq_eq_false_iff_ne
theorem sb14 {α:Type}[BEq α][LawfulBEq α]{a b:α}:(a != b)=false↔a=b:=bne_eq_false_iff_eq
theorem sb15 {a b:Bool}:(a&&b)=false↔a=false∨b=false:=Bool.and_eq_false_iff
theorem sb16 {p:Prop}[Decidable p]:¬¬p↔p:=Decidable.not_not
theorem sb17 (c f:Bool):(bif c then true else f)=(c||f):=Bool.cond_true_left c f
theorem sb18 (c t:Bool):(bif c then t else false)=(c&&t):=Bool.cond_false_right c t

theorem sbs:(((!true)=false)∧((!false)=true)∧(∀(p:Prop) [Decidable p],(decide p=true)=p)∧(∀(p:Prop) [Decidable p],(decide p=false)↔¬p)∧(∀a b:Bool,((a&&b)=true)=(a=true∧b=true))∧(∀a b:Bool,((a||b)=true)=(a=true∨b=true))∧(∀a b:Bool,(a||b)=false↔a=false∧b=false)∧(∀a:Bool,(!a)=true↔a=false)∧(∀a:Bool,(!a)=false↔a=true)∧(∀a b:Int,¬a<b↔b≤a)∧(∀a b:Int,¬a≤b↔b<a))∧((∀a b:Int,(a==b)=true↔a=b)∧(∀a b:Int,(a != b)=true↔a≠b)∧(∀a b:Int,(a==b)=false↔a≠b)∧(∀a b:Int,(a != b)=false↔a=b)∧(∀a b:Bool,(a==b)=true↔a=b)∧(∀a b:Bool,(a != b)=true↔a≠b)∧(∀a b:Bool,(a==b)=false↔a≠b)∧(∀a b:Bool,(a != b)=false↔a=b)∧(∀a b:Bool,(a&&b)=false↔a=false∨b=false)∧(∀(p:Prop) [Decidable p],¬¬p↔p)∧(∀c f:Bool,(bif c then true else f)=(c||f))∧(∀c t:Bool,(bif c then t else false)=(c&&t))∧(∀a b:Int,(a≠b)=¬(a=b))∧(∀a b:Bool,(a≠b)=¬(a=b))∧((false=true)=False)∧((true=false)=False)∧(∀p:Prop,(False∨p)=p)∧(∀p:Prop,(p∨False)=p)∧(∀p:Prop,(True∧p)=p)∧(∀p:Prop,(p∧True)=p)):=
 ⟨⟨rfl,rfl,fun _ _=>sb2,fun _ _=>sb3,sb4,sb5,fun _ _=>sb6,fun _=>sb7,fun _=>sb8,fun _ _=>sb9,fun _ _=>sb10⟩,fun _ _=>sb11,fun _ _=>sb12,fun _ _=>sb13,fun _ _=>sb14,fun _ _=>sb11,fun _ _=>sb12,fun _ _=>sb13,fun _ _=>sb14,fun _ _=>sb15,fun _ _=>sb16,sb17,sb18,fun _ _=>rfl,fun _ _=>rfl,by simp,by simp,false_or,or_false,true_and,and_true⟩

theorem sbe:(∀{α:Type} (a:α) (as bs:List α),a :: as++bs=a :: (as++bs))∧(∀{α:Type} (as:List α),[]++as=as):=⟨fun _ _ _=>rfl,fun _=>rfl⟩

/-! ## steps -/

def NrmD (P:Program)(u:U)(env:List D)(Q:Sig→Prop):Prop:=denU P u env Q

def KJ (P:Program)(n:Nat)(rest:U)(env:List D)(Q:Sig→Prop)(ds:List D):Prop:=ds.length=n∧denU P rest (env++ds) Q

def selD (p:Bool)(a b:D):D:=
 match a,b with
 | .v (.bool x),.v (.bool y)=>.v (.bool (bif p then x else y))
 | .v (.int .i64 x),.v (.int .i64 y)=>.v (.int .i64 (if p=true then x else y))
 | a,b=>bif p then a else b

theorem selD_true (a b:D):selD true a b=a:=by
 unfold selD;split <;> rfl
theorem selD_false (a b:D):selD false a b=b:=by
 unfold selD;split <;> simp

theorem zipSel {p:Bool}:∀{as bs:List D},as.length=bs.length→(p=true→List.zipWith (selD p) as bs=as)∧(p=false→List.zipWith (selD p) as bs=bs)
 | [],[],_=>⟨fun _=>rfl,fun _=>rfl⟩
 | a :: as,b :: bs,h=>by
  obtain⟨h1,h2⟩:=zipSel (p:=p) (as:=as) (bs:=bs) (by simpa using h)
  exact⟨fun e=>by rw[List.zipWith_cons_cons,h1 e,e,selD_true],fun e=>by rw[List.zipWith_cons_cons,h2 e,e,selD_false]⟩
 | [],_ :: _,h | _ :: _,[],h=>by simp at h

section
variable {P:Program} {u v a b rest body:U} {env env2:List D} {Q:Sig→Prop} {x y z g h:E} {d st h':D} {ds:List D} {args:List E} {rs:List Bool} {f:FuncId} {p q:Bool} {l n:Nat}

theorem nrm (he:env=env2)(k:denU P u env2 Q):NrmD P u env Q:=by subst he;exact k
theorem kj (hl:ds.length=n)(k:NrmD P rest (env++ds) Q):KJ P n rest env Q ds:=⟨hl,k⟩

theorem u_ev (hx:x.eval env=some d)(he:env++[d]=env2)(k:denU P u env2 Q):denU P (.ev x u) env Q:=by subst he;exact⟨d,hx,k⟩
theorem u_sel {dy dz:D}(hg:g.eval env=some (.v (.bool p)))(hy:y.eval env=some dy)(hz:z.eval env=some dz)(he:env++[selD p dy dz]=env2)(k:denU P u env2 Q):denU P (.ev (.ite g y z) u) env Q:=by
 subst he
 exact⟨_,by cases p <;> simp only[E.eval,hg,hy,hz,selD_true,selD_false],k⟩
theorem u_chk (hx:x.eval env=some d)(k:denU P u env Q):denU P (.chk x u) env Q:=⟨⟨d,hx⟩,k⟩
theorem u_call (hs:h.eval env=some st)(ha:evalAll env args=some ds)(hf:FSpecR P f st ds d)(hr:d.fits rs=true)(he:env++[d]=env2)(k:denU P u env2 Q):denU P (.call f h args rs u) env Q:=by subst he;exact⟨st,ds,d,hs,ha,hf,hr,k⟩
theorem u_wcall (hs:h.eval env=some st)(ha:evalAll env args=some ds)(hf:FSpecW P f st ds d h')(hr:d.fits rs=true)(he:env++[d,h']=env2)(k:denU P u env2 Q):denU P (.wcall f h args rs u) env Q:=by subst he;exact⟨st,ds,d,h',hs,ha,hf,hr,k⟩
theorem u_callv {us cs:List D}(hx:x.eval env=some (.fn f us cs))(hc:callable P f=true)(hs:h.eval env=some st)(ha:evalAll env args=some ds)(hf:FSpecR P f st (us++ds++cs) d)(hr:d.fits rs=true)(he:env++[d]=env2)(k:denU P u env2 Q):denU P (.callv x h args rs u) env Q:=by subst he;exact⟨f,us,cs,st,ds,d,hx,hc,hs,ha,hf,hr,k⟩

theorem u_or (hg:g.eval env=some (.v (.bool p)))(h1:p=false→denU P v env (fun s=>s=.ret (.v (.bool q))))(k:NrmD P u (env++[.v (.bool (p||q))]) Q):denU P (.chain true g v u) env Q:=⟨p,q,hg,h1,k⟩
theorem u_and (hg:g.eval env=some (.v (.bool p)))(h1:p=true→denU P v env (fun s=>s=.ret (.v (.bool q))))(k:NrmD P u (env++[.v (.bool (p&&q))]) Q):denU P (.chain false g v u) env Q:=⟨p,q,hg,h1,k⟩
theorem u_ite {c:Bool}(hg:g.eval env=some (.v (.bool c)))(k1:c=true→denU P a env Q)(k2:c=false→denU P b env Q):denU P (.ite g a b) env Q:=⟨c,hg,k1,k2⟩
theorem u_iteT {c:Bool}(hg:g.eval env=some (.v (.bool c)))(hc:c=true)(k:denU P a env Q):denU P (.ite g a b) env Q:=⟨c,hg,fun _=>k,fun e=>(by rw[hc] at e;cases e)⟩
theorem u_iteF {c:Bool}(hg:g.eval env=some (.v (.bool c)))(hc:c=false)(k:denU P b env Q):denU P (.ite g a b) env Q:=⟨c,hg,fun e=>(by rw[hc] at e;cases e),fun _=>k⟩
theorem u_join (k:denU P body env (catchL l (KJ P n rest env Q) Q)):denU P (.join l n body rest) env Q:=k

theorem u_phi {as bs:List E}{ds1 ds2:List D}(hg:g.eval env=some (.v (.bool p)))(h1:p=true→evalAll env as=some ds1)(h2:p=false→evalAll env bs=some ds2)(hl:ds1.length=ds2.length)(he:env++List.zipWith (selD p) ds1 ds2=env2)(k:denU P rest env2 Q):denU P (.phi g as bs rest) env Q:=by
 subst he
 exact⟨p,_,hg,fun e=>by rw[(zipSel hl).1 e];exact h1 e,fun e=>by rw[(zipSel hl).2 e];exact h2 e,k⟩

theorem u_jump {vals chks:List E}{cs:List D}(hc:evalAll env chks=some cs)(hv:evalAll env vals=some ds)(k:Q (.jump l ds)):denU P (.jump l vals chks) env Q:=⟨⟨cs,hc⟩,ds,hv,k⟩
theorem u_ret (hx:x.eval env=some d)(k:Q (.ret d)):denU P (.ret x) env Q:=⟨d,hx,k⟩
theorem u_pan {sl:List Nat}{ks:List E}(hx:x.eval env=some d)(hh:h.eval env=some st)(hk:evalAll env ks=some ds)(k:Q (.pan d st sl ds)):denU P (.pan x h sl ks) env Q:=⟨d,st,ds,hx,hh,hk,k⟩

theorem u_nilq {neg:Bool}{es:List D}(hx:x.eval env=some (.lst es))(k:∀b,(b=true→es=[])→NrmD P u (env++[.v (.bool (b != neg))]) Q):denU P (.nilq x neg u) env Q:=by
 cases es with
 | nil=>exact⟨_,_,hx,rfl,fun b _=>k b fun _=>rfl⟩
 | cons e es=>exact⟨_,_,hx,rfl,fun b hb=>k b fun h=>(by rw[h] at hb;simp at hb)⟩

theorem u_pick {ys:List D}(hx:x.eval env=some (.lst ys))(k:∀d st,.tup [d,st]∈ys→NrmD P u (env++[d,st]) Q):denU P (.pick x u) env Q:=⟨ys,hx,k⟩

theorem u_loop {inits:List E}(I:Nat→List D→Prop)(hi:evalAll env inits=some ds)(k:Nat)(h0:I k ds)(hb:∀k ds,I k ds→ds.length=inits.length∧∀R:List D→Prop,(∀k' ds',k'<k→I k' ds'→R ds')→NrmD P body (env++ds) (catchL l R Q)):denU P (.loop l inits body) env Q:=
 ⟨ds,hi,k+1,rounds_inv (fun _ _ _ hR h=>⟨h.1,denU_mono hR h.2⟩) I (fun k ds h R hR=>⟨(hb k ds h).1,(hb k ds h).2 R hR⟩) k ds h0⟩

theorem u_range {inits:List E} (f:Nat→List D) (J:Nat→Prop) (n:Nat) (h0:evalAll env inits=some (f 0)) (hl:∀i,(f i).length=inits.length) (j0:J 0)
  (hb:∀i,i<n→J i→∀R:List D→Prop,(J (i+1)→R (f (i+1)))→NrmD P body (env++f i) (catchL l R Q))
  (he:J n→∀R:List D→Prop,NrmD P body (env++f n) (catchL l R Q)):denU P (.loop l inits body) env Q:=by
 refine u_loop (fun k ds=>∃i,i≤n∧k=n-i∧ds=f i∧J i) h0 n ⟨0,Nat.zero_le _,rfl,rfl,j0⟩ ?_
 rintro k _ ⟨i,hi,rfl,rfl,hJ⟩
 refine⟨hl i,fun R hR=>?_⟩
 rcases Nat.lt_or_ge i n with h | h
 ·exact hb i h hJ R fun hJ'=>hR (n-(i+1)) _ (by omega) ⟨i+1,h,rfl,rfl,hJ'⟩
 ·have e:i=n:=by omega
  subst e
  exact he hJ R

/-! ### numbers -/

theorem ev_add {env:List D}{y z:E}{m k:Int}(hy:y.eval env=some (.v (.int .i64 m)))(hz:z.eval env=some (.v (.int .i64 k)))(hb:-9223372036854775808≤m+k∧m+k<9223372036854775808):(E.bin .add .int y z).eval env=some (.v (.int .i64 (m+k))):=by
 simp only[E.eval,hy,hz,Option.bind_some,D.bin,cmpI,arI,wrap64 hb,if_true,Option.map_some]
 first | done | rfl
theorem ev_sub {env:List D}{y z:E}{m k:Int}(hy:y.eval env=some (.v (.int .i64 m)))(hz:z.eval env=some (.v (.int .i64 k)))(hb:-9223372036854775808≤m-k∧m-k<9223372036854775808):(E.bin .sub .int y z).eval env=some (.v (.int .i64 (m-k))):=by
 simp only[E.eval,hy,hz,Option.bind_some,D.bin,cmpI,arI,wrap64 hb,if_true,Option.map_some]
 first | done | rfl
theorem ev_mul {env:List D}{y z:E}{m k:Int}(hy:y.eval env=some (.v (.int .i64 m)))(hz:z.eval env=some (.v (.int .i64 k)))(hb:-9223372036854775808≤m*k∧m*k<9223372036854775808):(E.bin .mul .int y z).eval env=some (.v (.int .i64 (m*k))):=by
 simp only[E.eval,hy,hz,Option.bind_some,D.bin,cmpI,arI,wrap64 hb,if_true,Option.map_some]
 first | done | rfl
theorem ev_inc {env:List D}{y:E}{i:Nat}(hy:y.eval env=some (.v (.int .i64 i)))(hb:i<4611686018427387904):(E.bin .add .int y (.const (.v (.int .i64 1)))).eval env=some (.v (.int .i64 (i+1:Nat))):=
 ev_add (k:=1) hy (by rfl) (by omega)
theorem ev_dec {env:List D}{y:E}{i:Nat}(hy:y.eval env=some (.v (.int .i64 (i+1:Nat))))(hb:i<4611686018427387904):(E.bin .sub .int y (.const (.v (.int .i64 1)))).eval env=some (.v (.int .i64 i)):=by
 have:=ev_sub (z:=.const (.v (.int .i64 1))) (k:=1) hy (by rfl) (by omega)
 rw[this]
 congr 3
 omega

theorem ev_pred {env:List D}{y:E}{i:Nat}(hy:y.eval env=some (.v (.int .i64 i)))(hb:1≤i∧i<4611686018427387904):(E.bin .sub .int y (.const (.v (.int .i64 1)))).eval env=some (.v (.int .i64 (i-1:Nat))):=by
 obtain⟨k,rfl⟩:∃k,i=k+1:=⟨i-1,by omega⟩
 exact ev_dec hy (by omega)

/-! ### ends -/
theorem retD {d d' st:D}(h:d=d'):Sig.ret (.tup [d,st])=Sig.ret (.tup [d',st]):=by rw[h]
theorem retB {x y:Bool}{st:D}(h:x=y):Sig.ret (.tup [.v (.bool x),st])=Sig.ret (.tup [.v (.bool y),st]):=by rw[h]
theorem retI {k:IntKind}{x y:Int}{st:D}(h:x=y):Sig.ret (.tup [.v (.int k x),st])=Sig.ret (.tup [.v (.int k y),st]):=by rw[h]
end

/-! ## lists as data -/
section
variable {α:Type} {enc:α→D} {xs:List α} {i:Nat} {a:α}

theorem lenL_map:D.lenL (.lst (xs.map enc))=some (.v (.int .i64 xs.length)):=by simp[D.lenL]

end
end Go.Am

/-
 The store: what is found in its blocks;loops over lists.
-/
namespace Go.Am

def SlOf {α:Type}(bs:List D)(e:TypeId)(sz:Nat)(enc:α→List D)(s:D)(xs:List α):Prop:=
 (xs=[]∧s=.snil)∨∃i,s=.sl i 0 xs.length∧bs[i]? = some (.blk e sz (xs.flatMap enc))

def D.sid:D→Option Nat
 | .sl i _ _=>some i
 | _=>none

section
variable {α:Type} {bs bs':List D} {e:TypeId} {sz:Nat} {enc:α→List D} {s:D} {xs:List α}

theorem SlOf.len (h:SlOf bs e sz enc s xs):D.lenL s=some (.v (.int .i64 xs.length)):=by
 rcases h with⟨rfl,rfl⟩ | ⟨i,rfl,_⟩ <;> rfl

theorem SlOf.get (h:SlOf bs e sz enc s xs){i:Nat}(hi:i<xs.length):∃b,s=.sl b 0 xs.length∧bs[b]? = some (.blk e sz (xs.flatMap enc)):=by
 rcases h with⟨rfl,_⟩ | h
 ·simp at hi
 ·exact h

theorem SlOf.keep (h:SlOf bs e sz enc s xs)(hk:∀i,s.sid=some i→bs'[i]? = bs[i]?):SlOf bs' e sz enc s xs:=by
 rcases h with h | ⟨i,rfl,h⟩
 ·exact .inl h
 ·exact .inr ⟨i,rfl,by rw[hk i rfl];exact h⟩

theorem SlOf.lt (h:SlOf bs e sz enc s xs){i:Nat}(hi:s.sid=some i):i<bs.length:=by
 rcases h with⟨_,rfl⟩ | ⟨j,rfl,h⟩
 ·cases hi
 ·cases hi
  exact(List.getElem?_eq_some_iff.1 h).1

theorem SlOf.blk (h:SlOf bs e sz enc s xs){i:Nat}(hi:s.sid=some i):bs[i]? = some (.blk e sz (xs.flatMap enc)):=by
 rcases h with⟨_,rfl⟩ | ⟨j,rfl,h⟩
 ·cases hi
 ·cases hi
  exact h

theorem SlOf.nil:SlOf bs e sz enc .snil ([]:List α):=.inl ⟨rfl,rfl⟩

theorem flat_drop (hsz:∀x,(enc x).length=sz):∀{xs:List α} {i:Nat} {x:α},xs[i]? = some x→∃r,(xs.flatMap enc).drop (i*sz)=enc x++r
 | [],i,x,h=>by simp at h
 | y :: ys,0,x,h=>by
  simp at h
  subst h
  exact⟨ys.flatMap enc,by simp⟩
 | y :: ys,i+1,x,h=>by
  obtain⟨r,hr⟩:=flat_drop hsz (xs:=ys) (i:=i) (x:=x) (by simpa using h)
  refine⟨r,?_⟩
  rw[List.flatMap_cons,List.drop_append,hsz y,show(i+1)*sz=sz+i*sz from by rw[Nat.add_mul];omega]
  rw[List.drop_eq_nil_of_le (by rw[hsz y];omega),Nat.add_sub_cancel_left,hr]
  rfl

theorem flat_length (hsz:∀x,(enc x).length=sz):∀{xs:List α},(xs.flatMap enc).length=xs.length*sz
 | []=>by simp
 | y :: ys=>by rw[List.flatMap_cons,List.length_append,flat_length hsz,hsz y,List.length_cons,Nat.add_mul];omega

theorem eaddr_sl {b n i:Nat}(hi:i<n):D.eaddr sz (.sl b 0 n) (.v (.int .i64 i))=some (.loc b (i*sz)):=by
 simp[D.eaddr,hi]

theorem ld_el {b i:Nat}{x:α}(hb:bs[b]? = some (.blk e sz (xs.flatMap enc)))(hsz:∀x,(enc x).length=sz)(hx:xs[i]? = some x):D.ld true sz (.st bs) (.loc b (i*sz))=some (.agg (enc x)):=by
 obtain⟨r,hr⟩:=flat_drop hsz hx
 have hl:=flat_length hsz (xs:=xs)
 have hi:=(List.getElem?_eq_some_iff.1 hx).1
 have h1:i*sz+sz≤(xs.flatMap enc).length:=by
  rw[hl,←Nat.succ_mul];exact Nat.mul_le_mul_right _ hi
 simp only[D.ld,D.cellsAt,hb,Option.bind_some,if_true,h1,hr,List.take_append,hsz x,Nat.sub_self,List.take_zero,List.append_nil]
 rw[List.take_of_length_le (by rw[hsz x];omega)]

theorem ld_elc {b i k:Nat}{x:α}{d:D}(hb:bs[b]? = some (.blk e sz (xs.flatMap enc)))(hsz:∀x,(enc x).length=sz)(hx:xs[i]? = some x)(hk:(enc x)[k]? = some d):D.ld false 1 (.st bs) (.loc b (i*sz+k))=some d:=by
 obtain⟨r,hr⟩:=flat_drop hsz hx
 simp only[D.ld,D.cellsAt,hb,Option.bind_some,Bool.false_eq_true,if_false]
 rw[←List.getElem?_drop,hr,List.getElem?_append_left (List.getElem?_eq_some_iff.1 hk).1]
 exact hk

theorem ld_el0 {b i:Nat}{x:α}{d:D}(hb:bs[b]? = some (.blk e sz (xs.flatMap enc)))(hsz:∀x,(enc x).length=sz)(hx:xs[i]? = some x)(hk:(enc x)[0]? = some d):D.ld false 1 (.st bs) (.loc b (i*sz))=some d:=ld_elc (k:=0) hb hsz hx hk

theorem ld_blk {j k:Nat}{cs:List D}{d:D}(hj:bs[j]? = some (.blk e sz cs))(hk:cs[k]? = some d):D.ld false 1 (.st bs) (.loc j k)=some d:=by
 simp only[D.ld,D.cellsAt,hj,Option.bind_some,Bool.false_eq_true,if_false,hk]

theorem ldN_blk {j k n:Nat}{cs:List D}(hj:bs[j]? = some (.blk e sz cs))(hk:k+n≤cs.length):D.ld true n (.st bs) (.loc j k)=some (.agg ((cs.drop k).take n)):=by
 simp only[D.ld,D.cellsAt,hj,Option.bind_some,if_true,hk]

end

section
variable {P:Program} {u:U} {Q:Sig→Prop} {env env2:List D} {x y z:E} {d dx dy dz:D}
theorem u_ld {g:Bool}{n:Nat}(hx:x.eval env=some dx)(hy:y.eval env=some dy)(h:D.ld g n dx dy=some d)(he:env++[d]=env2)(kk:denU P u env2 Q):denU P (.ev (.ld g n x y) u) env Q:=by
 subst he
 exact⟨d,by simp only[E.eval,hx,hy,Option.bind_some,h],kk⟩
theorem u_eaddr {n:Nat}(hx:x.eval env=some dx)(hy:y.eval env=some dy)(h:D.eaddr n dx dy=some d)(he:env++[d]=env2)(kk:denU P u env2 Q):denU P (.ev (.eaddr n x y) u) env Q:=by
 subst he
 exact⟨d,by simp only[E.eval,hx,hy,Option.bind_some,h],kk⟩
theorem u_lenL  (hx:x.eval env=some dx)(h:D.lenL dx=some d)(he:env++[d]=env2)(kk:denU P u env2 Q):denU P (.ev (.lenL x) u) env Q:=by
 subst he
 exact⟨d,by simp only[E.eval,hx,Option.bind_some,h],kk⟩
theorem u_idx  (hx:x.eval env=some dx)(hy:y.eval env=some dy)(h:D.idx dx dy=some d)(he:env++[d]=env2)(kk:denU P u env2 Q):denU P (.ev (.idx x y) u) env Q:=by
 subst he
 exact⟨d,by simp only[E.eval,hx,hy,Option.bind_some,h],kk⟩
theorem u_idxN {n:Nat}(hx:x.eval env=some dx)(hy:y.eval env=some dy)(h:D.idxN n dx dy=some d)(he:env++[d]=env2)(kk:denU P u env2 Q):denU P (.ev (.idxN n x y) u) env Q:=by
 subst he
 exact⟨d,by simp only[E.eval,hx,hy,Option.bind_some,h],kk⟩
theorem u_app {n m:Nat}(hx:x.eval env=some dx)(hy:y.eval env=some dy)(h:D.app n m dx dy=some d)(he:env++[d]=env2)(kk:denU P u env2 Q):denU P (.ev (.app n m x y) u) env Q:=by
 subst he
 exact⟨d,by simp only[E.eval,hx,hy,Option.bind_some,h],kk⟩
theorem u_subl {n:Nat}(hx:x.eval env=some dx)(hy:y.eval env=some dy)(hz:z.eval env=some dz)(h:D.sub n dx dy dz=some d)(he:env++[d]=env2)(kk:denU P u env2 Q):denU P (.ev (.sub n x y z) u) env Q:=by
 subst he
 exact⟨d,by simp only[E.eval,hx,hy,hz,Option.bind_some,h],kk⟩
theorem u_set {k:Nat}(hx:x.eval env=some dx)(hy:y.eval env=some dy)(hz:z.eval env=some dz)(h:D.set dx dy k dz=some d)(he:env++[d]=env2)(kk:denU P u env2 Q):denU P (.ev (.set x y k z) u) env Q:=by
 subst he
 exact⟨d,by simp only[E.eval,hx,hy,hz,Option.bind_some,h],kk⟩
theorem u_sto {n:Nat}(hx:x.eval env=some dx)(hy:y.eval env=some dy)(hz:z.eval env=some dz)(h:D.sto n dx dy dz=some d)(he:env++[d]=env2)(kk:denU P u env2 Q):denU P (.ev (.sto n x y z) u) env Q:=by
 subst he
 exact⟨d,by simp only[E.eval,hx,hy,hz,Option.bind_some,h],kk⟩
theorem u_apph {e n m:Nat}(hx:x.eval env=some dx)(hy:y.eval env=some dy)(hz:z.eval env=some dz)(h:D.apph e n m dx dy dz=some d)(he:env++[d]=env2)(kk:denU P u env2 Q):denU P (.ev (.apph e n m x y z) u) env Q:=by
 subst he
 exact⟨d,by simp only[E.eval,hx,hy,hz,Option.bind_some,h],kk⟩
theorem u_apps  (hx:x.eval env=some dx)(hy:y.eval env=some dy)(hz:z.eval env=some dz)(h:D.apps dx dy dz=some d)(he:env++[d]=env2)(kk:denU P u env2 Q):denU P (.ev (.apps x y z) u) env Q:=by
 subst he
 exact⟨d,by simp only[E.eval,hx,hy,hz,Option.bind_some,h],kk⟩
theorem u_rep {n:Nat}{d0:D}(hx:x.eval env=some dx)(h:D.rep n dx d0=some d)(he:env++[d]=env2)(kk:denU P u env2 Q):denU P (.ev (.rep n x d0) u) env Q:=by
 subst he
 exact⟨d,by simp only[E.eval,hx,Option.bind_some,h],kk⟩
theorem u_newb {e n:Nat}(hx:x.eval env=some dx)(hy:y.eval env=some dy)(h:D.newb e n dx dy=some d)(he:env++[d]=env2)(kk:denU P u env2 Q):denU P (.ev (.newb e n x y) u) env Q:=by
 subst he
 exact⟨d,by simp only[E.eval,hx,hy,Option.bind_some,h],kk⟩
theorem u_bin {o:BinOp}{k:Kd}(hx:x.eval env=some dx)(hy:y.eval env=some dy)(h:D.bin o k dx dy=some d)(he:env++[d]=env2)(kk:denU P u env2 Q):denU P (.ev (.bin o k x y) u) env Q:=by
 subst he
 exact⟨d,by simp only[E.eval,hx,hy,Option.bind_some,h],kk⟩
theorem u_frzv {g:Bool}(hx:x.eval env=some dx)(hy:y.eval env=some dy)(h:D.frzv g dx dy=some d)(he:env++[d]=env2)(kk:denU P u env2 Q):denU P (.ev (.frzv g x y) u) env Q:=by
 subst he
 exact⟨d,by simp only[E.eval,hx,hy,Option.bind_some,h],kk⟩
theorem u_frzh  (hx:x.eval env=some dx)(hy:y.eval env=some dy)(h:D.frzh dx dy=some d)(he:env++[d]=env2)(kk:denU P u env2 Q):denU P (.ev (.frzh x y) u) env Q:=by
 subst he
 exact⟨d,by simp only[E.eval,hx,hy,Option.bind_some,h],kk⟩
theorem u_newv {e n:Nat}(hx:x.eval env=some dx)(hy:y.eval env=some dy)(h:D.newv e n dx dy=some d)(he:env++[d]=env2)(kk:denU P u env2 Q):denU P (.ev (.newv e n x y) u) env Q:=by
 subst he
 exact⟨d,by simp only[E.eval,hx,hy,Option.bind_some,h],kk⟩
theorem u_fstsl  (hx:x.eval env=some dx)(hy:y.eval env=some dy)(h:D.fstsl dx dy=some d)(he:env++[d]=env2)(kk:denU P u env2 Q):denU P (.ev (.fstsl x y) u) env Q:=by
 subst he
 exact⟨d,by simp only[E.eval,hx,hy,Option.bind_some,h],kk⟩
theorem u_m4 {o:MOp}{w:E}{dw:D}(hx:x.eval env=some dx)(hy:y.eval env=some dy)(hz:z.eval env=some dz)(hw:w.eval env=some dw)(h:D.m4 o dx dy dz dw=some d)(he:env++[d]=env2)(kk:denU P u env2 Q):denU P (.ev (.m4 o x y z w) u) env Q:=by
 subst he
 exact⟨d,by simp only[E.eval,hx,hy,hz,hw,Option.bind_some,h],kk⟩
theorem u_mm {g:Bool}(hx:x.eval env=some dx)(hy:y.eval env=some dy)(h:D.mm g dx dy=some d)(he:env++[d]=env2)(kk:denU P u env2 Q):denU P (.ev (.mm g x y) u) env Q:=by
 subst he
 exact⟨d,by simp only[E.eval,hx,hy,Option.bind_some,h],kk⟩
theorem u_cells {i n:Nat}(hx:x.eval env=some dx)(h:D.part i n dx=some d)(he:env++[d]=env2)(kk:denU P u env2 Q):denU P (.ev (.cells i n x) u) env Q:=by
 subst he
 exact⟨d,by simp only[E.eval,hx,Option.bind_some,h],kk⟩

theorem e_apps (hx:x.eval env=some dx)(hy:y.eval env=some dy)(hz:z.eval env=some dz)(h:D.apps dx dy dz=some d):(E.apps x y z).eval env=some d:=by simp only[E.eval,hx,hy,hz,Option.bind_some,h]
theorem e_ld {g:Bool}{n:Nat}(hx:x.eval env=some dx)(hy:y.eval env=some dy)(h:D.ld g n dx dy=some d):(E.ld g n x y).eval env=some d:=by simp only[E.eval,hx,hy,Option.bind_some,h]
theorem u_stoa {n:Nat}{x1 x2 x3:E}{d1 d2 d3:D}(hx:x.eval env=some dx)(hy:y.eval env=some dy)(h1:x1.eval env=some d1)(h2:x2.eval env=some d2)(h3:x3.eval env=some d3)(ha:D.apps d1 d2 d3=some dz)(h:D.sto n dx dy dz=some d)(he:env++[d]=env2)(kk:denU P u env2 Q):denU P (.ev (.sto n x y (.apps x1 x2 x3)) u) env Q:=by
 subst he
 exact⟨d,by simp only[E.eval,hx,hy,h1,h2,h3,ha,Option.bind_some,h],kk⟩

theorem u_same (hx:x.eval env=some d)(hy:y.eval env=some d)(hs:D.same d d=true)(he:env++[d]=env2)(kk:denU P u env2 Q):denU P (.ev (.m4 .same x y .nil .nil) u) env Q:=by
 subst he
 exact⟨d,by simp only[E.eval,hx,hy,Option.bind_some,D.m4,hs,if_true],kk⟩

theorem u_add {m k:Int}(hx:x.eval env=some (.v (.int .i64 m)))(hy:y.eval env=some (.v (.int .i64 k)))(hb:-9223372036854775808≤m+k∧m+k<9223372036854775808)(he:env++[.v (.int .i64 (m+k))]=env2)(h:denU P u env2 Q):denU P (.ev (.bin .add .int x y) u) env Q:=by subst he;exact⟨_,ev_add hx hy hb,h⟩
theorem u_sub {m k:Int}(hx:x.eval env=some (.v (.int .i64 m)))(hy:y.eval env=some (.v (.int .i64 k)))(hb:-9223372036854775808≤m-k∧m-k<9223372036854775808)(he:env++[.v (.int .i64 (m-k))]=env2)(h:denU P u env2 Q):denU P (.ev (.bin .sub .int x y) u) env Q:=by subst he;exact⟨_,ev_sub hx hy hb,h⟩
theorem u_mul {m k:Int}(hx:x.eval env=some (.v (.int .i64 m)))(hy:y.eval env=some (.v (.int .i64 k)))(hb:-9223372036854775808≤m*k∧m*k<9223372036854775808)(he:env++[.v (.int .i64 (m*k))]=env2)(h:denU P u env2 Q):denU P (.ev (.bin .mul .int x y) u) env Q:=by subst he;exact⟨_,ev_mul hx hy hb,h⟩
theorem u_inc {i:Nat}(hx:x.eval env=some (.v (.int .i64 i)))(hb:i<4611686018427387904)(he:env++[.v (.int .i64 (i+1:Nat))]=env2)(h:denU P u env2 Q):denU P (.ev (.bin .add .int x (ki 1)) u) env Q:=by subst he;exact⟨_,ev_inc hx hb,h⟩
theorem u_pred {i:Nat}(hx:x.eval env=some (.v (.int .i64 i)))(hb:1≤i∧i<4611686018427387904)(he:env++[.v (.int .i64 (i-1:Nat))]=env2)(h:denU P u env2 Q):denU P (.ev (.bin .sub .int x (ki 1)) u) env Q:=by subst he;exact⟨_,ev_pred hx hb,h⟩
end

section
variable {α:Type} {enc:α→D} {xs ys:List α} {i:Nat} {a:α}

theorem eaddr_lst {sz:Nat}(h:xs[i]? = some a)(hc:(enc a).cells.length=sz):D.eaddr sz (.lst (xs.map enc)) (.v (.int .i64 i))=some (.ptr (enc a).cells):=by
 simp[D.eaddr,h,hc]

theorem eaddr_get {sz:Nat}(h:i<xs.length)(hc:(enc xs[i]).cells.length=sz):D.eaddr sz (.lst (xs.map enc)) (.v (.int .i64 i))=some (.ptr (enc xs[i]).cells):=eaddr_lst (List.getElem?_eq_getElem h) hc

theorem app_lst {sz bytes:Nat}(h:(xs.length+ys.length)*bytes≤140737488355328)(h':xs.length+ys.length≤maxLen)(hsz:∀a,(enc a).cells.length=sz):D.app sz bytes (.lst (xs.map enc)) (.lst (ys.map enc))=some (.lst ((xs++ys).map enc)):=by
 have h1:∀zs:List α,allCells sz (zs.map enc)=true:=fun zs=>by simp[allCells,hsz]
 simp only[D.app,h1,List.length_map,and_true]
 rw[if_pos ⟨h,h'⟩,List.map_append]

theorem app1_lst {sz bytes:Nat}(h:(xs.length+1)*bytes≤140737488355328)(h':xs.length+1≤maxLen)(hsz:∀a,(enc a).cells.length=sz):D.app sz bytes (.lst (xs.map enc)) (.lst [enc a])=some (.lst ((xs++[a]).map enc)):=
 app_lst (ys:=[a]) h h' hsz

end

section
variable {P:Program} {body:U} {env:List D} {Q:Sig→Prop} {l:Nat}

theorem u_list {α S:Type} {inits:List E} (xs:List α) (enc:S→Nat→List D) (G:List α→S→Prop) (s0:S) (h0:evalAll env inits=some (enc s0 0)) (hl:∀s i,(enc s i).length=inits.length) (g0:G xs s0)
  (hb:∀i x s,xs[i]? = some x→i<xs.length→G (x :: xs.drop (i+1)) s→∀R:List D→Prop,(∀s',G (xs.drop (i+1)) s'→R (enc s' (i+1)))→NrmD P body (env++enc s i) (catchL l R Q))
  (he:∀s,G [] s→∀R:List D→Prop,NrmD P body (env++enc s xs.length) (catchL l R Q)):denU P (.loop l inits body) env Q:=by
 refine u_loop (fun k ds=>∃i s,i≤xs.length∧k=xs.length-i∧ds=enc s i∧G (xs.drop i) s) h0 xs.length ⟨0,s0,Nat.zero_le _,rfl,rfl,g0⟩ ?_
 rintro k _ ⟨i,s,hi,rfl,rfl,hG⟩
 refine⟨hl s i,fun R hR=>?_⟩
 rcases Nat.lt_or_ge i xs.length with h | h
 ·refine hb i xs[i] s (List.getElem?_eq_getElem h) h (by rw[←List.drop_eq_getElem_cons h];exact hG) R fun s' hs=>hR (xs.length-(i+1)) _ (by omega) ⟨i+1,s',h,rfl,rfl,hs⟩
 ·have e:i=xs.length:=by omega
  subst e
  exact he s (by simpa using hG) R

end
end Go.Am

/-
 The store: what becomes of it.
-/
namespace Go.Am

theorem one_cells {d:D}(h:d.one=true):d.cells=[d]:=by
 cases d <;> first | rfl | simp[D.one] at h

section
variable {α:Type} {bs:List D} {e:TypeId} {sz:Nat} {enc:α→List D} {s:D} {xs:List α}

theorem sto_blk {i k:Nat}{cs:List D}{d:D}(hb:bs[i]? = some (.blk e sz cs))(hk:k<cs.length)(hd:d.one=true):D.sto 1 (.st bs) (.loc i k) d=some (.st (bs.set i (.blk e sz (cs.set k d)))):=by
 simp only[D.sto,D.cellsAt,hb,Option.bind_some,one_cells hd,List.length_cons,List.length_nil,List.all_cons,hd,List.all_nil,Bool.and_self,true_and,and_true]
 rw[if_pos (by omega)]
 have:cs.set k d=cs.take k++[d]++cs.drop (k+1):=by rw[List.set_eq_take_append_cons_drop,if_pos hk];simp
 rw[this]

theorem flat_set (hsz:∀x,(enc x).length=sz){o:Nat}(ho:o<sz){d:D}{x':α}:∀{xs:List α} {i:Nat} {x:α},xs[i]? = some x→enc x'=(enc x).set o d→(xs.flatMap enc).set (i*sz+o) d=(xs.set i x').flatMap enc
 | [],i,x,h,_=>by simp at h
 | y :: ys,0,x,h,he=>by
  simp at h
  subst h
  simp only[List.flatMap_cons,List.set_cons_zero,Nat.zero_mul,Nat.zero_add]
  rw[List.set_append_left _ _ (by rw[hsz];exact ho),he]
 | y :: ys,i+1,x,h,he=>by
  simp only[List.flatMap_cons,List.set_cons_succ]
  rw[List.set_append_right _ _ (by rw[hsz,Nat.add_mul];omega),hsz,show(i+1)*sz+o-sz=i*sz+o from by rw[Nat.add_mul];omega,flat_set hsz ho (xs:=ys) (by simpa using h) he]

theorem sto_el {b i o:Nat}{x x':α}{d:D}(hb:bs[b]? = some (.blk e sz (xs.flatMap enc)))(hsz:∀x,(enc x).length=sz)(hx:xs[i]? = some x)(ho:o<sz)(hd:d.one=true)(he:enc x'=(enc x).set o d):D.sto 1 (.st bs) (.loc b (i*sz+o)) d=some (.st (bs.set b (.blk e sz ((xs.set i x').flatMap enc)))):=by
 rw[sto_blk hb _ hd,flat_set hsz ho hx he]
 rw[flat_length hsz]
 have hi:=(List.getElem?_eq_some_iff.1 hx).1
 have:(i+1)*sz≤xs.length*sz:=Nat.mul_le_mul_right _ hi
 rw[Nat.add_mul] at this
 omega

theorem SlOf.append (h:SlOf bs e sz enc s xs){bytes:Nat}{x:α}{y:D}(hsz:∀x,(enc x).length=sz)(hy:y.cells=enc x)(ho:(enc x).all (·.one)=true)(hb:(xs.length+1)*bytes≤140737488355328)(hm:xs.length+1≤maxLen) :
  ∃bs1,D.apph e sz bytes (.st bs) s (.lst [y])=some (.st bs1)∧D.apps (.st bs) s (.lst [y])=some (.sl bs.length 0 (xs.length+1))∧bs1[bs.length]? = some (.blk e sz ((xs++[x]).flatMap enc))∧bs1.length=bs.length+1∧∀k,k<bs.length→s.sid≠some k→bs1[k]? = bs[k]?:=by
 have hac:allCells sz [y]=true:=by simp[allCells,hy,hsz]
 have hone:((cellsL [y]).all (·.one))=true:=by simpa[cellsL,hy] using ho
 rcases h with⟨rfl,rfl⟩ | ⟨i,rfl,hi⟩
 ·refine⟨bs++[.blk e sz (cellsL [y])],?_,rfl,?_,by simp,fun k hk _=>by rw[List.getElem?_append_left hk]⟩
  ·simp only[D.apph,D.asL,hac,hone,List.cons_ne_nil,if_false,List.length_cons,List.length_nil]
   rw[if_pos (by refine⟨by simpa using hb,by simpa using hm,?_⟩;simp)]
  ·simp[cellsL,hy]
 ·have hil:=(List.getElem?_eq_some_iff.1 hi).1
  refine⟨(bs.set i (.tup []))++[.blk e sz (xs.flatMap enc++cellsL [y])],?_,rfl,?_,by simp,fun k hk hne=>?_⟩
  ·simp only[D.apph,D.asL,D.cellsAt,hi,Option.bind_some,hac,hone,List.cons_ne_nil,if_false,List.length_cons,List.length_nil]
   rw[if_pos (by refine⟨?_,?_,?_,flat_length hsz,by simpa using hb,by simpa using hm,?_⟩ <;> simp)]
  ·rw[List.getElem?_append_right (by simp)]
   simp[cellsL,hy]
  ·rw[List.getElem?_append_left (by simpa using hk)]
   rw[List.getElem?_set_ne (fun e'=>hne (by rw[e'];rfl))]

end

/-! ## maps -/
section
variable {pre:List D} {kd:Kd} {kvs:List D} {k u:D}
theorem m4_put (h:D.mlook kd k kvs=some none):D.m4 (.put kd) (.st (pre++[.mblk kvs])) (.mp pre.length) k u=some (.st (pre++[.mblk (kvs++[.tup [k,u]])])):=by
 simp[D.m4,D.mput,h]
theorem m4_get {x d:D}{i:Nat}(h:D.mlook kd k kvs=some (some (i,x)))(h1:x.one=true):D.m4 (.get kd false) (.st (pre++[.mblk kvs])) (.mp pre.length) k d=some x:=by
 simp[D.m4,D.entries,h,h1]
end

/-! ## steps of the store -/

structure Stp (bs:List D)(F:Nat→Prop)(bs':List D)(F':Nat→Prop):Prop where
 len:bs.length≤bs'.length
 old:∀k,k<bs.length→¬F k→bs'[k]? = bs[k]?
 new:∀k,F' k→F k∨bs.length≤k

theorem Stp.refl (bs:List D)(F:Nat→Prop):Stp bs F bs F:=⟨Nat.le_refl _,fun _ _ _=>rfl,fun _ h=>.inl h⟩

theorem Stp.trans {bs bs1 bs2:List D}{F F1 F2:Nat→Prop}(h:Stp bs F bs1 F1)(h':Stp bs1 F1 bs2 F2):Stp bs F bs2 F2:=by
 refine⟨Nat.le_trans h.len h'.len,fun k hk hf=>?_,fun k hk=>?_⟩
 ·rw[h'.old k (Nat.lt_of_lt_of_le hk h.len) (fun h1=>(h.new k h1).elim hf fun h2=>absurd hk (by omega)),h.old k hk hf]
 ·rcases h'.new k hk with h1 | h1
  ·exact h.new k h1
  ·exact .inr (Nat.le_trans h.len h1)

end Go.Am
