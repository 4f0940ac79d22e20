/-
  Several texts, one behind the other.
-/
import Derived.Test.YtcofohnmkmknbaaGreatDoorAmTabW
import Derived.Test.YtcofohnmkmknbaaGreatDoorRbTab1toRbTab6
import Derived.Test.YtcofohnmkmknbaaGreatDoorRbKnS
import Derived.Test.YtcofohnmkmknbaaGreatDoorRbCA
import Derived.Test.YtcofohnmkmknbaaGreatDoorRbCB
import Derived.Test.YtcofohnmkmknbaaGreatDoorRbCktoRbD
set_option linter.unusedSimpArgs false
set_option linter.unusedVariables false
set_option maxRecDepth 100000
namespace Go.Am.Rb
section
open Go.Proofs
noncomputable def aoN : Pc := [aup, anl, Qny, e76, e28, e60, e72, aBs, e61, e85, ag5, ag4, axE, ag2, ag9, agR, auq, aC5, axz, auo, aC4, axB, axt, e35, e73, e84, e89, ag3, axD, aBt, axA, axy, e59, e71]
theorem aru:∀ e, e ∈ aoN → aV Tryz.prog e:=o1' ar1<|o1' SP<|o1' Qij<|o1' ajt<|o1' axa<|o1' azg<|o1' ajx<|o1' az6<|o1' ayc<|o1' ajn<|o1' aek<|o1' aej<|o1' avF<|o1' aeh<|o1' aeo<|o1' ad7<|o1' ar3<|o1' aBE<|o1' avA<|o1' ar0<|o1' aBD<|o1' avC<|o1' avu<|o1' ajQ<|o1' ajw<|o1' ajo<|o1' ajl<|o1' aei<|o1' avE<|o1' az7<|o1' avB<|o1' avz<|o1' aye<|o1' ajy<|o0'
def aqa : Qhk := ⟨35, ayg, [.loc 1 0, .v (.string ⟨#[112, 97, 115, 115, 32, 48, 32, 48, 32, 49, 32, 48, 32, 49, 48, 48, 48, 32, 50, 48, 48, 48]⟩)], i 0, auX⟩
theorem arv : (aqa : Qhk).ok Tryz.prog := Qjy (b0 := b0) (EI (b0 := b0) (l := [fCk, fCA, fCB, fD9, amE, amC, amx, amw, amr, amm, ami, amg]) ⟨Qoj, ah1, ahJ, ahH, Qnv, Qnw, Qnk, z2, Qnj, zE, Qnx, Qnz, trivial⟩) aqa 200 40 aru (by kernel_rfl)
end

section
open Go.Proofs
noncomputable def aoM : Pc := [aup, anl, Qny, e76, e28, e60, e72, aBs, e61, e85, ag5, ag4, axE, ag2, ag9, agR, auq, aC5, axz, auo, aC4, axB, axt, e35, e73, e84, e89, ag3, axD, aBt, axA, axy, e59, e71]
theorem ars:∀ e, e ∈ aoM → aV Tryz.prog e:=o1' ar1<|o1' SP<|o1' Qij<|o1' ajt<|o1' axa<|o1' azg<|o1' ajx<|o1' az6<|o1' ayc<|o1' ajn<|o1' aek<|o1' aej<|o1' avF<|o1' aeh<|o1' aeo<|o1' ad7<|o1' ar3<|o1' aBE<|o1' avA<|o1' ar0<|o1' aBD<|o1' avC<|o1' avu<|o1' ajQ<|o1' ajw<|o1' ajo<|o1' ajl<|o1' aei<|o1' avE<|o1' az7<|o1' avB<|o1' avz<|o1' aye<|o1' ajy<|o0'
def ap_ : Qhk := ⟨35, auX, [.loc 1 0, .v (.string ⟨#[112, 97, 115, 115, 32, 48, 32, 49, 32, 49, 32, 49, 32, 51, 48, 49, 48, 48, 48, 32, 51, 48, 50, 48, 48, 48]⟩)], i 0, auW⟩
theorem art : (ap_ : Qhk).ok Tryz.prog := Qjy (b0 := b0) (EI (b0 := b0) (l := [fCk, fCA, fCB, fD9, amE, amC, amx, amw, amr, amm, ami, amg]) ⟨Qoj, ah1, ahJ, ahH, Qnv, Qnw, Qnk, z2, Qnj, zE, Qnx, Qnz, trivial⟩) ap_ 200 40 ars (by kernel_rfl)
end

section
open Go.Proofs
noncomputable def aoJ : Pc := [aup, e76, e28, e60, e72, e24, aAB, e85, e47, e48, axr, ag5, ag4, axE, ag2, e62, e66, ag9, agR, e77, axB, e35, e73, e84, e93, ag0, aGc, azu, azt, e31, e59, e71]
theorem ark:∀ e, e ∈ aoJ → aV Tryz.prog e:=o1' ar1<|o1' ajt<|o1' axa<|o1' azg<|o1' ajx<|o1' aiw<|o1' ayK<|o1' ajn<|o1' ajM<|o1' ajL<|o1' avs<|o1' aek<|o1' aej<|o1' avF<|o1' aeh<|o1' ayb<|o1' ajD<|o1' aeo<|o1' ad7<|o1' ajs<|o1' avC<|o1' ajQ<|o1' ajw<|o1' ajo<|o1' ava<|o1' aef<|o1' aEX<|o1' aw_<|o1' aw9<|o1' ad5<|o1' aye<|o1' ajy<|o0'
def ap9 : Qhk := ⟨35, auW, [.loc 1 0, .v (.string ⟨#[108, 101, 103, 32, 49, 32, 48, 32, 54, 48, 48]⟩)], i 0, auV⟩
theorem arp : (ap9 : Qhk).ok Tryz.prog := Qjy (b0 := b0) (EI (b0 := b0) (l := [fCk, fCA, fCB, fD9, amE, amC, amx, amw, amr, amm, ami, amg]) ⟨Qoj, ah1, ahJ, ahH, Qnv, Qnw, Qnk, z2, Qnj, zE, Qnx, Qnz, trivial⟩) ap9 200 40 ark (by kernel_rfl)
end

section
open Go.Proofs
noncomputable def aoI : Pc := [aup, e76, e28, e60, e72, e24, aAB, e85, e47, e48, axr, ag5, ag4, axE, ag2, e62, e66, ag9, agR, e77, axB, e35, e73, e84, e94, ag0, aBu, aBr, azu, azt, e31, e59, e71]
theorem ari:∀ e, e ∈ aoI → aV Tryz.prog e:=o1' ar1<|o1' ajt<|o1' axa<|o1' azg<|o1' ajx<|o1' aiw<|o1' ayK<|o1' ajn<|o1' ajM<|o1' ajL<|o1' avs<|o1' aek<|o1' aej<|o1' avF<|o1' aeh<|o1' ayb<|o1' ajD<|o1' aeo<|o1' ad7<|o1' ajs<|o1' avC<|o1' ajQ<|o1' ajw<|o1' ajo<|o1' au9<|o1' aef<|o1' aAa<|o1' az5<|o1' aw_<|o1' aw9<|o1' ad5<|o1' aye<|o1' ajy<|o0'
def ap8 : Qhk := ⟨35, auV, [.loc 1 0, .v (.string ⟨#[108, 105, 110, 101, 32, 49, 32, 48, 32, 54, 51, 48, 32, 48]⟩)], i 0, auU⟩
theorem arj : (ap8 : Qhk).ok Tryz.prog := Qjy (b0 := b0) (EI (b0 := b0) (l := [fCk, fCA, fCB, fD9, amE, amC, amx, amw, amr, amm, ami, amg]) ⟨Qoj, ah1, ahJ, ahH, Qnv, Qnw, Qnk, z2, Qnj, zE, Qnx, Qnz, trivial⟩) ap8 200 40 ari (by kernel_rfl)
end
end Go.Am.Rb
