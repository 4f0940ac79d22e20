/-
 What calls of writers do at given stores,reckoned by the kernel one by one.
-/
import Derived.Test.YtcofohnmkmknbaaGreatDoorAmFntoAmTabK
set_option linter.unusedSimpArgs false
set_option linter.unusedVariables false
namespace Go.Am
noncomputable section

structure Qhk where
 f:FuncId
 bs:List D
 ds:List D
 d:D
 bs':List D

def Qhk.ok (P:Program)(x:Qhk):Prop:=eN P x.f (.st x.bs) x.ds (.ret x.d) (.st x.bs')

def WO (P:Program):List Qhk→Prop
 | []=>True
 | x :: r=>x.ok P∧WO P r

def Qjw (f:FuncId)(bs ds:List D):List Qhk→Option Qhk
 | []=>none
 | x :: r=>if x.f=f then(if D.jJ x.ds ds=true then(if D.jJ x.bs bs=true then some x else Qjw f bs ds r) else Qjw f bs ds r) else Qjw f bs ds r

theorem ke {P:Program}{f:FuncId}{bs ds:List D}{y:Qhk}:∀{l:List Qhk},WO P l→Qjw f bs ds l=some y→eN P f (.st bs) ds (.ret y.d) (.st y.bs')
 | [],_,h=>by simp[Qjw] at h
 | x :: r,hl,h=>by
  unfold Qjw at h
  split at h
  ·rename_i hf
   split at h
   ·rename_i hd
    split at h
    ·rename_i hb
     cases h
     have:=hl.1
     unfold Qhk.ok at this
     rw[hf,D.gb hd,D.gb hb] at this
     exact this
    ·exact ke hl.2 h
   ·exact ke hl.2 h
  ·exact ke hl.2 h

def ak8 (l:List Qhk):JA where
 R:=fun _ _ _=>none
 W:=fun f st ds=>match st with
  | .st bs=>(Qjw f bs ds l).map fun y=>(.ret y.d,.st y.bs')
  | _=>none
 F:=fun _ _ _ _=>none
 I:=fun _ _ _ _ _=>none

theorem ak6 {P:Program}{l:List Qhk}(h:WO P l):qL P (ak8 l):=by
 refine⟨fun _ _ _ _ h=>(by cases h),fun f st ds r h' hr=>?_,fun _ _ _ _ _ h=>(by cases h),fun _ _ _ _ _ _ _ h=>(by cases h)⟩
 simp only[ak8] at hr
 split at hr
 ·obtain⟨y,hy,he⟩:=Option.map_eq_some_iff.1 hr
  cases he
  exact ke h hy
 ·cases hr

def Out.an4 (d:D)(bs:List D):Option (Out×D)→Bool
 | some (.ret d',.st bs')=>D.same d' d&&D.jJ bs' bs
 | _=>false

theorem Out.ao7 {d:D}{bs:List D}{x:Option (Out×D)}(h:Out.an4 d bs x=true):x=some (.ret d,.st bs):=by
 unfold Out.an4 at h
 split at h
 ·simp only[Bool.and_eq_true] at h
  rw[D.dU h.1,D.gb h.2]
 ·cases h

theorem Qjy {P:Program}{o:JA}{b0:List D}(ho:qL P o)(x:Qhk)(n m:Nat){tb:Pc}(ht:∀e,e∈tb→aV P e)(h:Out.an4 x.d x.bs' ((mu P tb n b0 o m).W x.f (.st x.bs) x.ds)=true):x.ok P:=
 (w_ (n:=n) ht ho m).W x.f (.st x.bs) x.ds _ _ (Out.ao7 h)

end
end Go.Am
