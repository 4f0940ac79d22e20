/-
  The chapter's examples, part by part.
-/
import Derived.Test.YtcofohnmkmknbaaGreatDoorAmFntoAmTabK
import Derived.Test.YtcofohnmkmknbaaGreatDoorRbCktoRbD
import Derived.Test.YtcofohnmkmknbaaGreatDoorRbTab1toRbTab6
set_option linter.unusedSimpArgs false
set_option linter.unusedVariables false
namespace Go.Am.Rb
open Go.Proofs
set_option maxRecDepth 100000
def fCB : Fact := ⟨13, [.agg [i 2, i 60, i 1, i 0, i 600, i 1, i 1, i 2, .bq [i 1000], .bq [.agg [i 1, i 0]], .bq [.agg [i 1, i 0, i 30, b false], .agg [i 2, i 0, i 0, b false], .agg [i 1, i 0, i 60, b false]], i 1, i 10000, i 60000, i 15, i 30, .bq [i 10000, i 60000], b false, i 0, i 1, i 100, i 1, .bq [i 10, i 6], .bq [i 3], i 1, .bq [.agg [i 1, i 0, i 0, i 1000]], i 30, i 60, i 0, i 0], .v (.string ⟨#[108, 105, 110, 101, 32, 49, 32, 49, 32, 54, 51, 51, 32, 51, 48, 48, 48, 48, 48, 10, 111, 112, 101, 110, 32, 48, 48, 10, 106, 117, 109, 112, 32, 49, 10, 112, 111, 115, 116, 32, 57, 32, 49]⟩)], .bh [.v (.string ⟨#[101, 114, 114, 111, 114, 32, 50, 10, 101, 114, 114, 111, 114, 32, 51, 10, 101, 114, 114, 111, 114, 32, 51, 10, 101, 114, 114, 111, 114, 32, 50, 10]⟩), i 0]⟩
noncomputable def asR : Pc := [aup, anl, Qny, e28, e72, e16, e54, e56, e57, e61, e24, aAB, e49, e85, e25, e37, e38, e39, e41, e68, e69, e70, ag8, e47, e48, axr, ag5, ag4, axE, ag2, e62, e63, e64, e65, e81, e83, e66, ag9, agR, auq, e77, e78, axB, e35, e34, e73, e18, e19, e55, e84, e86, e94, ag3, ag0, aBu, e79, aBr, azu, azt, e31, e36, e17, e6, e13, e59, e71]
theorem aw6:∀ e, e ∈ asR → aV Tryz.prog e:=o1' ar1<|o1' SP<|o1' Qij<|o1' axa<|o1' ajx<|o1' ayq<|o1' ajJ<|o1' ajH<|o1' ajG<|o1' ayc<|o1' aiw<|o1' ayK<|o1' aym<|o1' ajn<|o1' anS<|o1' ate<|o1' avc<|o1' WQ<|o1' aq0<|o1' ajB<|o1' ajA<|o1' ajz<|o1' aen<|o1' ajM<|o1' ajL<|o1' avs<|o1' aek<|o1' aej<|o1' avF<|o1' aeh<|o1' ayb<|o1' aA8<|o1' ajF<|o1' ajE<|o1' anQ<|o1' ajp<|o1' ajD<|o1' aeo<|o1' ad7<|o1' ar3<|o1' ajs<|o1' ajr<|o1' avC<|o1' ajQ<|o1' ajR<|o1' ajw<|o1' ajV<|o1' ajU<|o1' ajI<|o1' ajo<|o1' aEE<|o1' au9<|o1' aei<|o1' aef<|o1' aAa<|o1' aEF<|o1' az5<|o1' aw_<|o1' aw9<|o1' ad5<|o1' apu<|o1' ajW<|o1' ok6<|o1' ays<|o1' aye<|o1' ajy<|o0'
theorem ahJ : (fCB : Fact).ok Tryz.prog b0 := nM (l := []) trivial (EI (b0 := b0) (l := [fCk]) ⟨Qoj, trivial⟩) fCB 200 40 (by kernel_rfl) cj (by kernel_rfl) aw6 (by kernel_rfl)

end Go.Am.Rb
