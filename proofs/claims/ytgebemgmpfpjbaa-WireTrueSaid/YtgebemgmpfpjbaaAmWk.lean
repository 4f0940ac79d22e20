/-
 A function's contract where the store's dead blocks are not told.
-/
import Derived.Test.YtgebemgmpfpjbaaAmOpentoAmSt2
set_option linter.unusedSimpArgs false
set_option linter.unusedVariables false
namespace Go.Am

def Wk (bs bs':List D):Prop:=bs'.length=bs.length∧∀(i:Nat) (x:D),bs'[i]? = some x→x.live=true→bs[i]? = some x

theorem StOk.weak {w:World}{S:Sets}{foot:Nat→Prop}{bs bs':List D}(h:StOk w S foot bs)(hw:Wk bs bs'):StOk w S foot bs' where
 n:=h.n.trans hw.1.symm
 cells i e sz cs hi:=h.cells i e sz cs (hw.2 i _ hi rfl)
 nos:=h.nos
 maps i kvs hi:=h.maps i kvs (hw.2 i _ hi rfl)
 inj i j x y hi hj hx hy:=h.inj i j x y (hw.2 i x hi hx) (hw.2 j y hj hy) hx hy
 its i m n seen hi:=h.its i m n seen (hw.2 i _ hi rfl)

theorem Wk.refl (bs:List D):Wk bs bs:=⟨rfl,fun _ _ h _=>h⟩

theorem UOk.Wk {P:Program}{f:FuncId}{cf:StCfg}{ones:List Bool}{u:U}{ds bs bs':List D}{d:D}(h:UOk P f .plain cf ones u)(hfit:argsFit ones ds=true)(hden:denU P u (ds++[.st bs]) (fun s=>∃bs1,s=.ret (.tup [d,.st bs1])∧Go.Am.Wk bs1 bs')):FSpecW P f (.st bs) ds d (.st bs'):=by
 obtain⟨fn,hf,rfl,hc⟩:=h
 obtain⟨t,h1,h2⟩:=Option.bind_eq_some_iff.1 hc
 obtain⟨hl,_⟩:=argsFit_spec hfit
 have hd:=shorten_ok (by simpa[←hl] using h2) hden
 intro w S foot bs0 vs hb hst hhold hfl hS hvl hrd
 cases hb
 refine(calls_of_den (Qd:=fun d' st=>d'=d∧∃bs1,st=.st bs1∧Go.Am.Wk bs1 bs') (Qp:=fun _ _=>False) (may:=foot) hf h1 hfit (den_mono (fun s hs=>?_) hd) hst hhold hfl hS hvl hrd (fun _ h=>.inr h) fun _ h=>h).mono ?_
 ·obtain⟨bs1,rfl,hw⟩:=hs
  exact⟨rfl,bs1,rfl,hw⟩
 ·rintro e w' ⟨o',v,S',foot',bs2,hq,hends,hl⟩
  cases o' with
  | pan x=>exact hq.elim
  | ret x=>
   obtain⟨rfl,bs1,e1,hw⟩:=hq
   cases e1
   exact⟨v,S',foot',bs',hends,rfl,hl.st.weak hw,fun b o hs=>World.cell?_of_block (a:=⟨b,o,none⟩) (hl.old b (hS b o hs) fun hf=>hst.nos b o hf hs),hl.le,hl.os,hl.tape,hl.output,hl.size,hl.old,hl.ft,hl.new,hl.lt⟩

end Go.Am
