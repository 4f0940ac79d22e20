/-
  The chapter's examples, part by part.
-/
import Derived.Test.YtcofohnmkmknbaaGreatDoorAmTabW
import Derived.Test.YtcofohnmkmknbaaGreatDoorRbTab1toRbTab6
import Derived.Test.YtcofohnmkmknbaaGreatDoorRbKnS
import Derived.Test.YtcofohnmkmknbaaGreatDoorRbCA
import Derived.Test.YtcofohnmkmknbaaGreatDoorRbCB
import Derived.Test.YtcofohnmkmknbaaGreatDoorRbCktoRbD
set_option linter.unusedSimpArgs false
set_option linter.unusedVariables false
namespace Go.Am.Rb
open Go.Proofs
set_option maxRecDepth 100000
noncomputable def aoH : Pc := [aup, aF9, e51, e76, e28, e60, e72, aBs, e61, axq, axp, e24, aAB, aF3, e67, e85, aqC, e47, e48, axr, aGa, ag5, ag4, axE, ag2, e50, e62, aF2, e66, ag9, agR, e77, aFX, axB, aph, e35, aF8, e73, aGb, e84, e95, aF7, axn, aui, ag0, aBu, aqD, agY, aqz, aBr, akX, aFY, azu, azt, e31, e59, e71]
theorem arf:∀ e, e ∈ aoH → aV Tryz.prog e:=o1' ar1<|o1' aET<|o1' ayk<|o1' ajt<|o1' axa<|o1' azg<|o1' ajx<|o1' az6<|o1' ayc<|o1' avr<|o1' avq<|o1' aiw<|o1' ayK<|o1' aEN<|o1' ajC<|o1' ajn<|o1' aov<|o1' ajM<|o1' ajL<|o1' avs<|o1' aEV<|o1' aek<|o1' aej<|o1' avF<|o1' aeh<|o1' ayl<|o1' ayb<|o1' aEM<|o1' ajD<|o1' aeo<|o1' ad7<|o1' ajs<|o1' aEH<|o1' avC<|o1' alG<|o1' ajQ<|o1' aES<|o1' ajw<|o1' aEW<|o1' ajo<|o1' au5<|o1' aER<|o1' avo<|o1' arV<|o1' aef<|o1' aAa<|o1' aoy<|o1' aed<|o1' aoh<|o1' az5<|o1' Qoq<|o1' aEI<|o1' aw_<|o1' aw9<|o1' ad5<|o1' aye<|o1' ajy<|o0'
def ap7 : Qhk := ⟨35, auU, [.loc 1 0, .v (.string ⟨#[116, 97, 107, 101, 32, 49, 32, 49, 32, 54, 51, 51, 32, 52, 48, 48, 48, 48, 48]⟩)], i 0, ayf⟩
theorem arh : (ap7 : Qhk).ok Tryz.prog := Qjy (b0 := b0) (EI (b0 := b0) (l := [fCk, fCA, fCB, fD9, amE, amC, amx, amw, amr, amm, ami, amg]) ⟨Qoj, ah1, ahJ, ahH, Qnv, Qnw, Qnk, z2, Qnj, zE, Qnx, Qnz, trivial⟩) ap7 200 40 arf (by kernel_rfl)

end Go.Am.Rb
