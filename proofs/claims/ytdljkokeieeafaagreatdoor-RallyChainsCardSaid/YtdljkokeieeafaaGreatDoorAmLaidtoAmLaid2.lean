/-
  Several texts, one behind the other.
-/
import Derived.Test.YtdljkokeieeafaaGreatDoorAmFntoAmTabK
import Derived.Lib.LaidTab
set_option linter.unusedSimpArgs false
set_option linter.unusedVariables false
/-
 A law whose calls read a table of the library: the store begins with it.
-/
namespace Go.Am
noncomputable section
open Go.RowKit Go.ChangeShapes Go.WideShapes

section
variable {H:Type} {enc:TypeId×Value→H}

theorem returns_shaped {a:Assume} {C:Checked} {os:Os} {f:FuncId} {fn:Func} {s:ChangeSpec} {conds:List PathCond} {apart fresh handsOn again:Bool} {X:World→Array Value→Prop}
  (hX:∀(w w':World) (args:Array Value),w.heap=w'.heap→X w args→X w' args)
  (own:ownKnob C.prog.godebug=none) (started:os.Started) (noInit:C.prog.inits.idxOf? f=none) (hfn:C.prog.funcs[f]? = some fn)
  (witness:∃(w:World) (tape:Tape) (i:Input),w.os=os∧(w.forCall tape i).Shaped C.prog∧i.vars=[]∧Input.okWide C.prog (w.forCall tape i) .any w.heap.size f i ∧
   ((s.pre enc C.prog fn conds apart (w.forCall tape i).memory i.args∧X (w.forCall tape i).memory i.args)∧sizedMet enc C.prog fn (OpenSpec.ofChange s) apart (w.forCall tape i).memory i.args)∧a.holds C.prog (lone (Frame.enter C.prog f i.args .normal) [] (w.forCall tape i)))
  (contract:∀(W:World) (base:Nat) (args:Array Value) (ds gs:List (DataW H)) (before:List MemPlace),W.ShapedOpen C.prog →
   (∀(j:Nat) t v,fn.params[j]? = some t→args[j]? = some v→Value.okWide C.prog W .any base t v) →
   DataW.Whole enc C.prog fn.params.toList s.vars apart W args.toList ds gs before→X W args →
   Calls C.prog f args W fun e W'=>∃v,e=.returned v∧s.post enc C.prog fn apart fresh handsOn again W args v W') :
  ReturnsInHanded a C os f .any (fun w args=>(s.pre enc C.prog fn conds apart w args∧X w args)∧sizedMet enc C.prog fn (OpenSpec.ofChange s) apart w args) (s.post enc C.prog fn apart fresh handsOn again):=by
 refine returnsInHanded_of_calls own started noInit witness ?_
 intro w tape i _ hsh _ hok hpre hholds
 obtain⟨_,_,_,fn',hfn',_,_,_,_,hval⟩:=hok
 have e:fn'=fn:=Option.some.inj (hfn'.symm.trans hfn)
 subst e
 obtain⟨⟨⟨ds,gs,before,hw,hc⟩,hx⟩,hz⟩:=hpre
 have hw':=DataW.Whole.of_heap (w':=w.forCall tape i) (by rfl) hw
 refine(contract (w.forCall tape i) w.heap.size i.args ds gs before hsh hval hw' (hX _ _ _ (by rfl) hx)).mono fun e W' ⟨v,he,hp⟩=>?_
 subst he
 exact ChangeSpec.post_blind hp

variable {P:Program} {W:World}

theorem tab_block {name:String}{k:IntKind}{zs:List Int}{g:Nat}{t:TypeId}{zero:Array Value}(hg:P.globalNamed name=some g)(hlt:g<P.globals.size)(h0:((begin P (fun _ _=>0) default).world.heap[g]?).bind Obj.row? = some (zero,t))(hsh:W.ShapedOpen P)(htab:Lib.TabIs P W name k zs) :
  W.heap[g]? = some (.cells (zs.map fun z=>Value.int k z).toArray t (0,0)):=by
 obtain⟨cs,h1,_,_⟩:=hsh.1 g zero t hlt h0
 unfold Lib.TabIs World.var? at htab
 rw[hg] at htab
 simp only[Option.bind_some,h1,Option.some.injEq] at htab
 rw[h1,htab]

end
end
end Go.Am

/-
 A law whose calls read a table of the library,and whose arguments are texts,or lists of texts.
-/
namespace Go.Am
noncomputable section
open Go.RowKit Go.ChangeShapes Go.WideShapes

def TextD (x:D):Prop:=(∃v,x=.v v)∨∃es,x=.lst es∧∀e,e∈es→∀c,c∈e.cells→∃s,c=.v (.string s)

theorem RdD.texts {W:World}{S S':Sets}{v:Value}{x:D}{g:Nat}{t:TypeId}{vs:List Value}(hg:W.heap[g]? = some (.cells vs.toArray t (0,0)))(hvs:∀v,v∈vs→∃n,v=.int .u8 n)(hS:∀b o,S b o→b≠g→S' b o)(h:RdD W S v x)(hx:TextD x):RdD W S' v x:=by
 rcases hx with⟨u,rfl⟩ | ⟨es,rfl,hes⟩
 ·obtain⟨rfl,hp⟩:=h.v_inv
  exact .v hp
 ·cases h with
  | nil=>exact .nil
  | emp hm=>exact .emp hm
  | lst hl hc hm hz ho hS1 hw hr=>
   have hstr:∀(i:Nat) (e:D) (j:Nat) (d:D),es[i]? = some e→e.cells[j]? = some d→∃s,d=.v (.string s):=fun i e j d h1 h2=>hes e (List.mem_of_getElem? h1) d (List.mem_of_getElem? h2)
   refine .lst hl hc hm hz ho (fun i e j d h1 h2=>hS _ _ (hS1 i e j d h1 h2) fun hb=>?_) hw fun i e j d h1 h2=>?_
   ·obtain⟨s,rfl⟩:=hstr i e j d h1 h2
    have h3:=hw i e j _ h1 h2
    have h4:=(hr i e j _ h1 h2).v_inv.1
    subst hb
    rw[h4] at h3
    unfold World.cell? at h3
    rw[hg] at h3
    simp only[Option.bind_some] at h3
    have h5:Value.string s∈vs:=by
     have:=List.mem_of_getElem? (l:=vs) (by simpa using h3)
     exact this
    obtain⟨n,hn⟩:=hvs _ h5
    cases hn
   ·obtain⟨s,rfl⟩:=hstr i e j d h1 h2
    obtain⟨h4,h5⟩:=(hr i e j _ h1 h2).v_inv
    rw[h4]
    exact .v h5

section
variable {H:Type} {enc:TypeId×Value→H} {P:Program} {W:World}

theorem law_contractT {f:FuncId} {fn:Func} {s:ChangeSpec} {tb:TypeId} {n g:Nat} {t:TypeId} {vs:List Value} {shs:List Sh} (hheap:W.heap[g]? = some (.cells vs.toArray t (0,0))) (hpl:vs.all plain=true) (hvs:∀v,v∈vs→∃n,v=.int .u8 n) (hlaid:laidOutB P=true) (hread:(fn.params.toList.all fun t=>P.readableRec t&&decide (t<P.types.size))=true) (hvars:s.vars=[]) (hres:fn.resultTypes=#[tb]) (htb:P.underlying tb=some .bool)
  (hshape:fn.params.toList.mapM (shOf P n)=some shs) (hfn:∀ds:List (DataW H),ds.length=fn.params.toList.length→s.fn H ds={ results:=[.lit (.bool true)],args:=ds }) (hsc:∀dd:List D,ArgsSh shs dd→∀x,x∈dd→TextD x) (hlaw:∀dd:List D,ArgsSh shs dd→∃r,FSpecWO P f (.st [.glb g t vs]) dd (.ret (.v (.bool true))) (.st (.glb g t vs :: r)))
  (base:Nat) (args:Array Value) (ds gs:List (DataW H)) (before:List MemPlace) (hval:∀(j:Nat) t v,fn.params[j]? = some t→args[j]? = some v→Value.okWide P W .any base t v) (hW:DataW.Whole enc P fn.params.toList s.vars false W args.toList ds gs before) :
  Calls P f args W fun e W'=>∃v,e=.returned v∧s.post enc P fn false true false false W args v W':=by
 have hW':=hW
 obtain⟨p,q,hA,hV,rfl,hfz,hnd⟩:=hW
 rw[hvars] at hV
 obtain⟨rfl,rfl⟩:=trodVars_none hV
 obtain⟨h1,h1',xs,h2,h3,h4⟩:=args_rd (fun j t v ht hv=>hval j t v (by simpa using ht) (by simpa using hv)) hA hshape
 obtain⟨r,hspec⟩:=hlaw xs h3
 have hno:=hsc xs h3
 have hlt:∀x,x∈p→x.block<W.heap.size:=fun x hx=>by simpa using hW'.lt x (by simp[hx])
 have hgl:g<W.heap.size:=(Array.getElem?_eq_some_iff.1 hheap).1
 let S:Sets:={ mem:=fun b _=>b<W.heap.size∧b≠g,loc:=fun _=>g,n:=1,cap:=fun _=>0 }
 have hst:StOk W S (fun b=>b=g) [.glb g t vs]:=by
  refine⟨rfl,fun i e sz cs hi=>?_,fun b off hb hs=>hs.2 hb,fun i kvs hi=>?_,fun i j x y hi hj _ _ _=>?_,fun i z hi hz=>?_⟩
  ·cases i <;> simp at hi
  ·cases i <;> simp at hi
  ·have:=(List.getElem?_eq_some_iff.1 hi).1
   have:=(List.getElem?_eq_some_iff.1 hj).1
   simp at *
   omega
  ·cases i with
   | zero=>simp at hi;subst hi;exact⟨rfl,⟨rfl,hheap,hpl⟩,fun _ h=>h.2 rfl⟩
   | succ i=>simp at hi
 refine(hspec W S (fun b=>b=g) [.glb g t vs] args rfl hst (fun l rec hl=>by cases hl) (fun b hb=>hb ▸ hgl) (fun _ _ h=>h.1) (by simpa using h2.symm) (fun i v x hv hx=>?_)).mono ?_
 ·exact(h4 i v x (by simpa using hv) hx).texts hheap hvs (fun b o hb hne=>⟨hb,hne⟩) (hno x (List.mem_of_getElem? hx))
 rintro e W' ⟨v,S',foot',bs',⟨rfl,hr⟩,hbs,hst',_,_,hos,htp,hout,hsz,hold,_,_,_⟩
 cases hbs
 have hv:=hr.v_eq
 subst hv
 obtain⟨_,⟨hloc',hh',_⟩,_⟩:=hst'.its 0 _ rfl rfl
 rw[hloc'] at hh'
 have hb:Below W.heap.size W W':=⟨hos,htp.tape,hout,hsz,fun k hk=>by
  by_cases hkg:k=g
  ·rw[hkg,hh',hheap]
  ·exact hold k hk hkg⟩
 refine⟨_,rfl,ds,[],p++[],[],p,[],hW',?_,?_,?_,hb.frame _,fun h=>by cases h⟩
 ·rw[hfn _ (by simpa using h1'),hres]
  exact trodAll_mk1 (shut_bool htb true)
 ·rw[hfn _ (by simpa using h1')]
  simp only[List.append_nil]
  exact trodAll_below hlaid hb (fun t ht=>by
   have:=List.all_eq_true.1 hread t ht
   simpa using this) hlt hA
 ·rw[hfn _ (by simpa using h1'),hvars]
  rfl

end
end
end Go.Am
