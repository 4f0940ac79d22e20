/- Texts. -/
import Derived.Test.YtjnipnanfjglpaaGreatDoorAmSoundtoAmUT
import Derived.Lib.LaidTab
set_option linter.unusedSimpArgs false
set_option linter.unusedVariables false
namespace Go.Am
section
noncomputable section
open Go.RowKit Go.ChangeShapes Go.WideShapes
section
variable {H:Type} {enc:TypeId×Value→H}
theorem B3 {a:Assume} {C:Checked} {os:Os} {f:FuncId} {fn:Func} {s:ChangeSpec} {conds:List PathCond} {apart fresh handsOn again:Bool} {X:World→Array Value→Prop}
  (hX:∀(w w':World) (args:Array Value),w.heap=w'.heap→X w args→X w' args)
  (own:ownKnob C.prog.godebug=none) (started:os.Started) (abo:C.prog.inits.idxOf? f=none) (vH:C.prog.funcs[f]? = some fn)
  (witness:∃(w:World) (tape:Tape) (i:Input),w.os=os∧(w.forCall tape i).Shaped C.prog∧i.vars=[]∧Input.okWide C.prog (w.forCall tape i) .any w.heap.size f i ∧
   ((s.pre enc C.prog fn conds apart (w.forCall tape i).memory i.args∧X (w.forCall tape i).memory i.args)∧sizedMet enc C.prog fn (OpenSpec.ofChange s) apart (w.forCall tape i).memory i.args)∧a.holds C.prog (lone (Frame.enter C.prog f i.args .normal) [] (w.forCall tape i)))
  (VP:∀(W:World) (base:Nat) (args:Array Value) (ds gs:List (DataW H)) (before:List MemPlace),W.ShapedOpen C.prog →
   (∀(j:Nat) t v,fn.params[j]? = some t→args[j]? = some v→Value.okWide C.prog W .any base t v) →
   DataW.Whole enc C.prog fn.params.toList s.vars apart W args.toList ds gs before→X W args →
   Calls C.prog f args W fun e W'=>∃v,e=.returned v∧s.post enc C.prog fn apart fresh handsOn again W args v W') :
  ReturnsInHanded a C os f .any (fun w args=>(s.pre enc C.prog fn conds apart w args∧X w args)∧sizedMet enc C.prog fn (OpenSpec.ofChange s) apart w args) (s.post enc C.prog fn apart fresh handsOn again):=by
 refine returnsInHanded_of_calls own started abo witness ?_;intro w tape i _ hsh _ eE gm UM;obtain⟨_,_,_,fn',aoq,_,_,_,_,fB⟩:=eE;have e:fn'=fn:=B0M (aoq.symm.trans vH);subst e;obtain⟨⟨⟨ds,gs,before,hw,hc⟩,hx⟩,hz⟩:=gm;have hw':=DataW.Whole.of_heap (w':=w.forCall tape i) (by rfl) hw;refine(VP (w.forCall tape i) w.heap.size i.args ds gs before hsh fB hw' (hX _ _ _ (by rfl) hx)).mono fun e W' ⟨v,he,hp⟩=>?_;subst he;exact ChangeSpec.post_blind hp
variable {P:Program} {W:World}
theorem Pz {name:String}{k:IntKind}{zs:List Int}{g:Nat}{t:TypeId}{zero:Array Value}(hg:P.globalNamed name=some g)(hlt:g<P.globals.size)(h0:((begin P (fun _ _=>0) default).world.heap[g]?).bind Obj.row? = some (zero,t))(hsh:W.ShapedOpen P)(X4:Lib.TabIs P W name k zs) :
  W.heap[g]? = some (.cells (zs.map fun z=>Value.int k z).toArray t (0,0)):=by
 obtain⟨cs,h1,_,_⟩:=hsh.1 g zero t hlt h0;unfold Lib.TabIs World.var? at X4;rw[hg] at X4;simp only[A0d,h1,A0x] at X4;rw[h1,X4]
end
end
end
section
noncomputable section
open Go.RowKit Go.ChangeShapes Go.WideShapes
inductive Rr:D→Prop
 | v {x:Value} (h:∀n,x≠.int .u8 n):Rr (.v x)
 | agg {cs:List D} (h:∀c,c∈cs→Rr c):Rr (.agg cs)
 | bk {es:List D} (h:∀e,e∈es→∀c,c∈e.cells→Rr c):Rr (.bk es)
theorem Rr.val {W:World}{S:Sets}{v:Value}{x:D}(h:bA W S v x)(hx:Rr x):∀n,v≠.int .u8 n:=by
 intro n e;subst e;cases h with
 | v hp=>cases hx with | v h=>exact h n rfl
theorem bA.noB {W:World}{S S':Sets}{v:Value}{x:D}{g:Nat}{t:TypeId}{vs:List Value}(hg:W.heap[g]? = some (.cells vs.toArray t (0,0)))(C2:∀v,v∈vs→∃n,v=.int .u8 n)(hS:∀b o,S b o→b≠g→S' b o)(h:bA W S v x)(hx:Rr x):bA W S' v x:=by
 induction h with
 | v hp=>exact .v hp
 | nil=>exact .nil
 | emp hm=>exact .emp hm
 | agg hl ho _ ih=>
  cases hx with
  | agg hc=>exact .agg hl ho fun i v d h1 h2=>ih i v d h1 h2 (hc d (A0I h2))
 | bk hl hc hm hz ho tq hw hr ih=>
  cases hx with
  | bk kS=>
   have hn:∀{i:Nat} {e:D} {j:Nat} {d:D},_→_→Rr d:=fun {i e j d} (h1:_[i]? = some e) (h2:e.cells[j]? = some d)=>kS e (A0I h1) d (A0I h2);refine .bk hl hc hm hz ho (fun i e j d h1 h2=>hS _ _ (tq i e j d h1 h2) fun hb=>?_) hw fun i e j d h1 h2=>ih i e j d h1 h2 (hn h1 h2);have h3:=hw i e j _ h1 h2;have h4:=Rr.val (hr i e j _ h1 h2) (hn h1 h2);subst hb;unfold World.cell? at h3;rw[hg] at h3;simp only at h3;have h5:=A0I (l:=vs) (by simpa using h3);obtain⟨n,hn⟩:=C2 _ h5;exact h4 n hn
 | _=>cases hx
section
variable {H:Type} {enc:TypeId×Value→H} {P:Program} {W:World}
theorem Ew {f:FuncId} {fn:Func} {s:ChangeSpec} {tb:TypeId} {n g:Nat} {t:TypeId} {vs:List Value} {Lb:List Sh} (oc:W.heap[g]? = some (.cells vs.toArray t (0,0))) (mR:vs.all plain=true) (C2:∀v,v∈vs→∃n,v=.int .u8 n) (JT:laidOutB P=true) (Af:(fn.params.toList.all fun t=>P.readableRec t&&decide (t<P.types.size))=true) (Ad:s.vars=[]) (Ho:fn.resultTypes=#[tb]) (xA:P.underlying tb=some .bool)
  (C4:fn.params.toList.mapM (wE P n)=some Lb) (vH:∀ds:List (DataW H),ds.length=fn.params.toList.length→s.fn H ds={ results:=[.lit (.bool true)],args:=ds }) (Z0:∀dd:List D,tQ Lb dd→∀x,x∈dd→Rr x) (UC:∀dd:List D,tQ Lb dd→∃r,bu P f (.st [.qF g t vs]) dd (.ret (.v (.bool true))) (.st (.qF g t vs :: r)))
  (base:Nat) (args:Array Value) (ds gs:List (DataW H)) (before:List MemPlace) (fB:∀(j:Nat) t v,fn.params[j]? = some t→args[j]? = some v→Value.okWide P W .any base t v) (hW:DataW.Whole enc P fn.params.toList s.vars false W args.toList ds gs before) :
  Calls P f args W fun e W'=>∃v,e=.returned v∧s.post enc P fn false true false false W args v W':=by
 have hW':=hW;obtain⟨p,q,hA,hV,rfl,hfz,oJ⟩:=hW;rw[Ad] at hV;obtain⟨rfl,rfl⟩:=trodVars_none hV;obtain⟨h1,wi,xs,h2,h3,h4⟩:=By (fun j t v ht hv=>fB j t v (by simpa using ht) (by simpa using hv)) hA C4;obtain⟨r,gz⟩:=UC xs h3;have uS:=Z0 xs h3;have hlt:∀x,x∈p→x.block<W.heap.size:=fun x hx=>by simpa using hW'.lt x (by simp[hx])
 have Yh:g<W.heap.size:=(A0l.1 oc).1
 let S:Sets:={ mem:=fun b _=>b<W.heap.size∧b≠g,loc:=fun _=>g,n:=1,cap:=fun _=>0 }
 have hst:cI W S (fun b=>b=g) [.qF g t vs]:=by
  refine⟨rfl,fun i e sz cs hi=>?_,fun b off hb hs=>hs.2 hb,fun i bU hi=>?_,fun i j x y hi hj _ _ _=>?_,fun i z hi hz=>?_⟩
  ·cases i <;> simp at hi
  ·cases i <;> simp at hi
  ·have:=(A0c.1 hi).1;have:=(A0c.1 hj).1;simp at *;omega
  ·cases i with
   | zero=>simp at hi;subst hi;exact⟨rfl,⟨rfl,oc,mR⟩,fun _ h=>h.2 rfl⟩
   | succ i=>simp at hi
 refine(gz W S (fun b=>b=g) [.qF g t vs] args rfl hst (fun l rec hl=>by cases hl) (fun b hb=>hb ▸ Yh) (fun _ _ h=>h.1) (by simpa using h2.symm) (fun i v x hv hx=>?_)).mono ?_
 ·exact(h4 i v x (by simpa using hv) hx).noB oc C2 (fun b o hb bQ=>⟨hb,bQ⟩) (uS x (A0I hx))
 rintro e W' ⟨v,S',bJ,bs',⟨rfl,hr⟩,jc,dP,_,_,nZ,MK,fZ,bV,hold,_,_,_⟩
 cases jc;have hv:=hr.v_eq;subst hv;obtain⟨_,⟨Ai,QE,_⟩,_⟩:=dP.s7 0 _ rfl rfl;rw[Ai] at QE;have hb:Below W.heap.size W W':=⟨nZ,MK.tape,fZ,bV,fun k hk=>by
  by_cases hkg:k=g
  ·rw[hkg,QE,oc]
  ·exact hold k hk hkg⟩
 refine⟨_,rfl,ds,[],p++[],[],p,[],hW',?_,?_,?_,hb.frame _,fun h=>by cases h⟩
 ·rw[vH _ (by simpa using wi),Ho];exact trodAll_mk1 (shut_bool xA true)
 ·rw[vH _ (by simpa using wi)];simp only[B0F];exact l9 JT hb (fun t ht=>by
   have:=A0C.1 Af t ht;simpa using this) hlt hA
 ·rw[vH _ (by simpa using wi),Ad];rfl
end
end
end
end Go.Am
