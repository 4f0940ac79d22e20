/-
  Several texts, one behind the other.
-/
import Derived.Test.YtjnipnanfjglpaaGreatDoorAmFntoAmTabK
import Derived.Lib.LaidTab
set_option linter.unusedSimpArgs false
set_option linter.unusedVariables false
namespace Go.Am
section
noncomputable section
open Go.RowKit Go.ChangeShapes Go.WideShapes

section
variable {H:Type} {enc:TypeId×Value→H}

theorem xN {a:Assume} {C:Checked} {os:Os} {f:FuncId} {fn:Func} {s:ChangeSpec} {conds:List PathCond} {apart fresh handsOn again:Bool} {X:World→Array Value→Prop}
  (hX:∀(w w':World) (args:Array Value),w.heap=w'.heap→X w args→X w' args)
  (own:ownKnob C.prog.godebug=none) (started:os.Started) (noInit:C.prog.inits.idxOf? f=none) (hfn:C.prog.funcs[f]? = some fn)
  (witness:∃(w:World) (tape:Tape) (i:Input),w.os=os∧(w.forCall tape i).Shaped C.prog∧i.vars=[]∧Input.okWide C.prog (w.forCall tape i) .any w.heap.size f i ∧
   ((s.pre enc C.prog fn conds apart (w.forCall tape i).memory i.args∧X (w.forCall tape i).memory i.args)∧sizedMet enc C.prog fn (OpenSpec.ofChange s) apart (w.forCall tape i).memory i.args)∧a.holds C.prog (lone (Frame.enter C.prog f i.args .normal) [] (w.forCall tape i)))
  (contract:∀(W:World) (base:Nat) (args:Array Value) (ds gs:List (DataW H)) (before:List MemPlace),W.ShapedOpen C.prog →
   (∀(j:Nat) t v,fn.params[j]? = some t→args[j]? = some v→Value.okWide C.prog W .any base t v) →
   DataW.Whole enc C.prog fn.params.toList s.vars apart W args.toList ds gs before→X W args →
   Calls C.prog f args W fun e W'=>∃v,e=.returned v∧s.post enc C.prog fn apart fresh handsOn again W args v W') :
  ReturnsInHanded a C os f .any (fun w args=>(s.pre enc C.prog fn conds apart w args∧X w args)∧sizedMet enc C.prog fn (OpenSpec.ofChange s) apart w args) (s.post enc C.prog fn apart fresh handsOn again):=by
 refine returnsInHanded_of_calls own started noInit witness ?_
 intro w tape i _ hsh _ hok hpre hholds
 obtain⟨_,_,_,fn',ad_,_,_,_,_,hval⟩:=hok
 have e:fn'=fn:=Option.some.inj (ad_.symm.trans hfn)
 subst e
 obtain⟨⟨⟨ds,gs,before,hw,hc⟩,hx⟩,hz⟩:=hpre
 have hw':=DataW.Whole.of_heap (w':=w.forCall tape i) (by rfl) hw
 refine(contract (w.forCall tape i) w.heap.size i.args ds gs before hsh hval hw' (hX _ _ _ (by rfl) hx)).mono fun e W' ⟨v,he,hp⟩=>?_
 subst he
 exact ChangeSpec.post_blind hp

variable {P:Program} {W:World}

theorem Jq {name:String}{k:IntKind}{zs:List Int}{g:Nat}{t:TypeId}{zero:Array Value}(hg:P.globalNamed name=some g)(hlt:g<P.globals.size)(h0:((begin P (fun _ _=>0) default).world.heap[g]?).bind Obj.row? = some (zero,t))(hsh:W.ShapedOpen P)(PM:Lib.TabIs P W name k zs) :
  W.heap[g]? = some (.cells (zs.map fun z=>Value.int k z).toArray t (0,0)):=by
 obtain⟨cs,h1,_,_⟩:=hsh.1 g zero t hlt h0
 unfold Lib.TabIs World.var? at PM
 rw[hg] at PM
 simp only[A0d,h1,A0u] at PM
 rw[h1,PM]

end
end
end

section
noncomputable section
open Go.RowKit Go.ChangeShapes Go.WideShapes

inductive FJ:D→Prop
 | v {x:Value} (h:∀n,x≠.int .u8 n):FJ (.v x)
 | agg {cs:List D} (h:∀c,c∈cs→FJ c):FJ (.agg cs)
 | a_ {es:List D} (h:∀e,e∈es→∀c,c∈e.cells→FJ c):FJ (.a_ es)

theorem FJ.val {W:World}{S:Sets}{v:Value}{x:D}(h:aZ W S v x)(hx:FJ x):∀n,v≠.int .u8 n:=by
 intro n e
 subst e
 cases h with
 | v hp=>cases hx with | v h=>exact h n rfl

theorem aZ.noB {W:World}{S S':Sets}{v:Value}{x:D}{g:Nat}{t:TypeId}{vs:List Value}(hg:W.heap[g]? = some (.cells vs.toArray t (0,0)))(hvs:∀v,v∈vs→∃n,v=.int .u8 n)(hS:∀b o,S b o→b≠g→S' b o)(h:aZ W S v x)(hx:FJ x):aZ W S' v x:=by
 induction h with
 | v hp=>exact .v hp
 | nil=>exact .nil
 | emp hm=>exact .emp hm
 | agg hl ho _ ih=>
  cases hx with
  | agg hc=>exact .agg hl ho fun i v d h1 h2=>ih i v d h1 h2 (hc d (B0i h2))
 | a_ hl hc hm hz ho jF hw hr ih=>
  cases hx with
  | a_ iJ=>
   have hn:∀{i:Nat} {e:D} {j:Nat} {d:D},_→_→FJ d:=fun {i e j d} (h1:_[i]? = some e) (h2:e.cells[j]? = some d)=>iJ e (B0i h1) d (B0i h2)
   refine .a_ hl hc hm hz ho (fun i e j d h1 h2=>hS _ _ (jF i e j d h1 h2) fun hb=>?_) hw fun i e j d h1 h2=>ih i e j d h1 h2 (hn h1 h2)
   have h3:=hw i e j _ h1 h2
   have h4:=FJ.val (hr i e j _ h1 h2) (hn h1 h2)
   subst hb
   unfold World.cell? at h3
   rw[hg] at h3
   simp only at h3
   have h5:=B0i (l:=vs) (by simpa using h3)
   obtain⟨n,hn⟩:=hvs _ h5
   exact h4 n hn
 | _=>cases hx

section
variable {H:Type} {enc:TypeId×Value→H} {P:Program} {W:World}

theorem AF {f:FuncId} {fn:Func} {s:ChangeSpec} {tb:TypeId} {n g:Nat} {t:TypeId} {vs:List Value} {FA:List Sh} (oX:W.heap[g]? = some (.cells vs.toArray t (0,0))) (qA:vs.all plain=true) (hvs:∀v,v∈vs→∃n,v=.int .u8 n) (hlaid:laidOutB P=true) (hread:(fn.params.toList.all fun t=>P.readableRec t&&decide (t<P.types.size))=true) (hvars:s.vars=[]) (hres:fn.resultTypes=#[tb]) (htb:P.underlying tb=some .bool)
  (yW:fn.params.toList.mapM (sE P n)=some FA) (hfn:∀ds:List (DataW H),ds.length=fn.params.toList.length→s.fn H ds={ results:=[.lit (.bool true)],args:=ds }) (hsc:∀dd:List D,qo FA dd→∀x,x∈dd→FJ x) (M_:∀dd:List D,qo FA dd→∃r,bC P f (.st [.nL g t vs]) dd (.ret (.v (.bool true))) (.st (.nL g t vs :: r)))
  (base:Nat) (args:Array Value) (ds gs:List (DataW H)) (before:List MemPlace) (hval:∀(j:Nat) t v,fn.params[j]? = some t→args[j]? = some v→Value.okWide P W .any base t v) (hW:DataW.Whole enc P fn.params.toList s.vars false W args.toList ds gs before) :
  Calls P f args W fun e W'=>∃v,e=.returned v∧s.post enc P fn false true false false W args v W':=by
 have RD:=hW
 obtain⟨p,q,hA,hV,rfl,hfz,hnd⟩:=hW
 rw[hvars] at hV
 obtain⟨rfl,rfl⟩:=trodVars_none hV
 obtain⟨h1,h1',xs,h2,h3,h4⟩:=w_ (fun j t v ht hv=>hval j t v (by simpa using ht) (by simpa using hv)) hA yW
 obtain⟨r,hspec⟩:=M_ xs h3
 have hno:=hsc xs h3
 have hlt:∀x,x∈p→x.block<W.heap.size:=fun x hx=>by simpa using RD.lt x (by simp[hx])
 have I6:g<W.heap.size:=(A0h.1 oX).1
 let S:Sets:={ mem:=fun b _=>b<W.heap.size∧b≠g,loc:=fun _=>g,n:=1,cap:=fun _=>0 }
 have hst:ck W S (fun b=>b=g) [.nL g t vs]:=by
  refine⟨rfl,fun i e sz cs hi=>?_,fun b off hb hs=>hs.2 hb,fun i bH hi=>?_,fun i j x y hi hj _ _ _=>?_,fun i z hi hz=>?_⟩
  ·cases i <;> simp at hi
  ·cases i <;> simp at hi
  ·have:=(A0a.1 hi).1
   have:=(A0a.1 hj).1
   simp at *
   omega
  ·cases i with
   | zero=>simp at hi;subst hi;exact⟨rfl,⟨rfl,oX,qA⟩,fun _ h=>h.2 rfl⟩
   | succ i=>simp at hi
 refine(hspec W S (fun b=>b=g) [.nL g t vs] args rfl hst (fun l rec hl=>by cases hl) (fun b hb=>hb ▸ I6) (fun _ _ h=>h.1) (by simpa using h2.symm) (fun i v x hv hx=>?_)).mono ?_
 ·exact(h4 i v x (by simpa using hv) hx).noB oX hvs (fun b o hb hne=>⟨hb,hne⟩) (hno x (B0i hx))
 rintro e W' ⟨v,S',bf,bs',⟨rfl,hr⟩,fX,cL,_,_,hos,Ey,hout,hsz,hold,_,_,_⟩
 cases fX
 have hv:=hr.v_eq
 subst hv
 obtain⟨_,⟨oW,Kg,_⟩,_⟩:=cL.pV 0 _ rfl rfl
 rw[oW] at Kg
 have hb:Below W.heap.size W W':=⟨hos,Ey.tape,hout,hsz,fun k hk=>by
  by_cases X6:k=g
  ·rw[X6,Kg,oX]
  ·exact hold k hk X6⟩
 refine⟨_,rfl,ds,[],p++[],[],p,[],RD,?_,?_,?_,hb.frame _,fun h=>by cases h⟩
 ·rw[hfn _ (by simpa using h1'),hres]
  exact trodAll_mk1 (shut_bool htb true)
 ·rw[hfn _ (by simpa using h1')]
  simp only[List.append_nil]
  exact j5 hlaid hb (fun t ht=>by
   have:=A0z.1 hread t ht
   simpa using this) hlt hA
 ·rw[hfn _ (by simpa using h1'),hvars]
  rfl

end
end
end
end Go.Am
