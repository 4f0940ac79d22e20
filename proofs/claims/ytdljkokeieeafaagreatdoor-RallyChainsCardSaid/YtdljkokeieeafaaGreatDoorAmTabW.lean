/-
 What calls of writers do at given stores,reckoned by the kernel one by one.
-/
import Derived.Test.YtdljkokeieeafaaGreatDoorAmFntoAmTabK
set_option linter.unusedSimpArgs false
set_option linter.unusedVariables false
namespace Go.Am
noncomputable section

structure WFact where
 f:FuncId
 bs:List D
 ds:List D
 d:D
 bs':List D

def WFact.ok (P:Program)(x:WFact):Prop:=FSpecWO P x.f (.st x.bs) x.ds (.ret x.d) (.st x.bs')

def WFactsOk (P:Program):List WFact→Prop
 | []=>True
 | x :: r=>x.ok P∧WFactsOk P r

def wfactAt (f:FuncId)(bs ds:List D):List WFact→Option WFact
 | []=>none
 | x :: r=>if x.f=f then(if D.sames x.ds ds=true then(if D.sames x.bs bs=true then some x else wfactAt f bs ds r) else wfactAt f bs ds r) else wfactAt f bs ds r

theorem wfactAt_ok {P:Program}{f:FuncId}{bs ds:List D}{y:WFact}:∀{l:List WFact},WFactsOk P l→wfactAt f bs ds l=some y→FSpecWO P f (.st bs) ds (.ret y.d) (.st y.bs')
 | [],_,h=>by simp[wfactAt] at h
 | x :: r,hl,h=>by
  unfold wfactAt at h
  split at h
  ·rename_i hf
   split at h
   ·rename_i hd
    split at h
    ·rename_i hb
     cases h
     have:=hl.1
     unfold WFact.ok at this
     rw[hf,D.sames_eq hd,D.sames_eq hb] at this
     exact this
    ·exact wfactAt_ok hl.2 h
   ·exact wfactAt_ok hl.2 h
  ·exact wfactAt_ok hl.2 h

def wfactOrc (l:List WFact):Orc where
 R:=fun _ _ _=>none
 W:=fun f st ds=>match st with
  | .st bs=>(wfactAt f bs ds l).map fun y=>(.ret y.d,.st y.bs')
  | _=>none
 F:=fun _ _ _ _=>none
 I:=fun _ _ _ _ _=>none

theorem wfactOrc_ok {P:Program}{l:List WFact}(h:WFactsOk P l):OrcOk P (wfactOrc l):=by
 refine⟨fun _ _ _ _ h=>(by cases h),fun f st ds r h' hr=>?_,fun _ _ _ _ _ h=>(by cases h),fun _ _ _ _ _ _ _ h=>(by cases h)⟩
 simp only[wfactOrc] at hr
 split at hr
 ·obtain⟨y,hy,he⟩:=Option.map_eq_some_iff.1 hr
  cases he
  exact wfactAt_ok h hy
 ·cases hr

def Out.isRetW (d:D)(bs:List D):Option (Out×D)→Bool
 | some (.ret d',.st bs')=>D.same d' d&&D.sames bs' bs
 | _=>false

theorem Out.isRetW_eq {d:D}{bs:List D}{x:Option (Out×D)}(h:Out.isRetW d bs x=true):x=some (.ret d,.st bs):=by
 unfold Out.isRetW at h
 split at h
 ·simp only[Bool.and_eq_true] at h
  rw[D.same_eq h.1,D.sames_eq h.2]
 ·cases h

theorem wfact_of {P:Program}{o:Orc}{b0:List D}(ho:OrcOk P o)(x:WFact)(n m:Nat){tb:Tab}(ht:∀e,e∈tb→EntOk P e)(h:Out.isRetW x.d x.bs' ((runOrcB P tb n b0 o m).W x.f (.st x.bs) x.ds)=true):x.ok P:=
 (runOrcB_ok (n:=n) ht ho m).W x.f (.st x.bs) x.ds _ _ (Out.isRetW_eq h)

end
end Go.Am
