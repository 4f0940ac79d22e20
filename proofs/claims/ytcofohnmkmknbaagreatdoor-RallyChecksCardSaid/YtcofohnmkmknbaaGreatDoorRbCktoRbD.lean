/-
  Several texts, one behind the other.
-/
import Derived.Test.YtcofohnmkmknbaaGreatDoorAmFntoAmTabK
import Derived.Test.YtcofohnmkmknbaaGreatDoorRbTab1toRbTab6
set_option linter.unusedSimpArgs false
set_option linter.unusedVariables false
set_option maxRecDepth 100000
namespace Go.Am.Rb
section
open Go.Proofs
def fCk : Fact := ⟨8, [.agg [i 2, i 60, i 1, i 0, i 600, i 1, i 1, i 2, .bq [i 1000], .bq [.agg [i 1, i 0]], .bq [.agg [i 1, i 0, i 30, b false], .agg [i 2, i 0, i 0, b false], .agg [i 1, i 0, i 60, b false]], i 1, i 10000, i 60000, i 15, i 30, .bq [i 10000, i 60000], b false, i 0, i 1, i 100, i 1, .bq [i 10, i 6], .bq [i 3], i 1, .bq [.agg [i 1, i 0, i 0, i 1000]], i 30, i 60, i 0, i 0]], i 0⟩
noncomputable def asQ : Pc := [Qny, e8, e61, e24, e49, e25, e26, e27, e37, e41, e47, e48, e52, e62, e63, e64, e65, e66, e77, e78, e18, e36, e17]
theorem aw5:∀ e, e ∈ asQ → aV Tryz.prog e:=o1' Qij<|o1' ok8<|o1' ayc<|o1' aiw<|o1' aym<|o1' anS<|o1' ayo<|o1' aHB<|o1' ate<|o1' aq0<|o1' ajM<|o1' ajL<|o1' ayj<|o1' ayb<|o1' aA8<|o1' ajF<|o1' ajE<|o1' ajD<|o1' ajs<|o1' ajr<|o1' ajV<|o1' apu<|o1' ajW<|o0'
theorem Qoj : (fCk : Fact).ok Tryz.prog b0 := nM (l := []) trivial (EI (b0 := b0) (l := []) trivial) fCk 200 40 (by kernel_rfl) cj (by kernel_rfl) aw5 (by kernel_rfl)
end

section
open Go.Proofs
def fD0:Fact:=⟨75,[.v (.int .u64 8108276829773519859)],.v (.string ⟨#[55,48,56,54,54,50,100,49,51,51,50,101,53,98,102,51]⟩)⟩
noncomputable def asN:Pc:=[e75,ahb,aha,auY,arF,auP,auO,auN]
theorem aw3:∀e,e∈asN→aV Tryz.prog e:=o1' aju<|o1' aes<|o1' aer<|o1' asX<|o1' apB<|o1' asW<|o1' asU<|o1' asS<|o0'
theorem aw4:(fD0:Fact).ok Tryz.prog b0:=nM (l:=[]) trivial (EI (b0:=b0) (l:=[]) trivial) fD0 200 40 (by kernel_rfl) cj (by kernel_rfl) aw3 (by kernel_rfl)

def fD1:Fact:=⟨74,[.v (.string ⟨#[55,48,56,54,54,50,100,49,51,51,50,101,53,98,102,51]⟩),i 16,i 64],.bh [.v (.int .u64 8108276829773519859),.v .nilIface]⟩
noncomputable def asM:Pc:=[e74,ahd,agW]
theorem aw1:∀e,e∈asM→aV Tryz.prog e:=o1' ajv<|o1' aeu<|o1' aeb<|o0'
theorem aw2:(fD1:Fact).ok Tryz.prog b0:=nM (l:=[]) trivial (EI (b0:=b0) (l:=[]) trivial) fD1 200 40 (by kernel_rfl) cj (by kernel_rfl) aw1 (by kernel_rfl)

def fD2:Fact:=⟨75,[.v (.int .u64 7781724543687022825)],.v (.string ⟨#[54,98,102,101,51,100,51,101,51,101,54,55,53,56,101,57]⟩)⟩
noncomputable def asK:Pc:=[e75,ahb,aha,auY,arF,auP,auO,auN]
theorem awZ:∀e,e∈asK→aV Tryz.prog e:=o1' aju<|o1' aes<|o1' aer<|o1' asX<|o1' apB<|o1' asW<|o1' asU<|o1' asS<|o0'
theorem aw0:(fD2:Fact).ok Tryz.prog b0:=nM (l:=[]) trivial (EI (b0:=b0) (l:=[]) trivial) fD2 200 40 (by kernel_rfl) cj (by kernel_rfl) awZ (by kernel_rfl)

def fD3:Fact:=⟨74,[.v (.string ⟨#[54,98,102,101,51,100,51,101,51,101,54,55,53,56,101,57]⟩),i 16,i 64],.bh [.v (.int .u64 7781724543687022825),.v .nilIface]⟩
noncomputable def asJ:Pc:=[e74,ahd,agW]
theorem awX:∀e,e∈asJ→aV Tryz.prog e:=o1' ajv<|o1' aeu<|o1' aeb<|o0'
theorem awY:(fD3:Fact).ok Tryz.prog b0:=nM (l:=[]) trivial (EI (b0:=b0) (l:=[]) trivial) fD3 200 40 (by kernel_rfl) cj (by kernel_rfl) awX (by kernel_rfl)

def fD4:Fact:=⟨75,[.v (.int .u64 16712264241649192636)],.v (.string ⟨#[101,55,101,100,101,51,99,56,52,98,102,54,56,101,98,99]⟩)⟩
noncomputable def asI:Pc:=[e75,ahb,aha,auY,arF,auP,auO,auN]
theorem awV:∀e,e∈asI→aV Tryz.prog e:=o1' aju<|o1' aes<|o1' aer<|o1' asX<|o1' apB<|o1' asW<|o1' asU<|o1' asS<|o0'
theorem awW:(fD4:Fact).ok Tryz.prog b0:=nM (l:=[]) trivial (EI (b0:=b0) (l:=[]) trivial) fD4 200 40 (by kernel_rfl) cj (by kernel_rfl) awV (by kernel_rfl)

def fD5:Fact:=⟨74,[.v (.string ⟨#[101,55,101,100,101,51,99,56,52,98,102,54,56,101,98,99]⟩),i 16,i 64],.bh [.v (.int .u64 16712264241649192636),.v .nilIface]⟩
noncomputable def asH:Pc:=[e74,ahd,agW]
theorem awT:∀e,e∈asH→aV Tryz.prog e:=o1' ajv<|o1' aeu<|o1' aeb<|o0'
theorem awU:(fD5:Fact).ok Tryz.prog b0:=nM (l:=[]) trivial (EI (b0:=b0) (l:=[]) trivial) fD5 200 40 (by kernel_rfl) cj (by kernel_rfl) awT (by kernel_rfl)

def fD6:Fact:=⟨75,[.v (.int .u64 4959412553891267694)],.v (.string ⟨#[52,52,100,51,53,102,55,49,49,49,52,100,52,52,54,101]⟩)⟩
noncomputable def asF:Pc:=[e75,ahb,aha,auY,arF,auP,auO,auN]
theorem awR:∀e,e∈asF→aV Tryz.prog e:=o1' aju<|o1' aes<|o1' aer<|o1' asX<|o1' apB<|o1' asW<|o1' asU<|o1' asS<|o0'
theorem awS:(fD6:Fact).ok Tryz.prog b0:=nM (l:=[]) trivial (EI (b0:=b0) (l:=[]) trivial) fD6 200 40 (by kernel_rfl) cj (by kernel_rfl) awR (by kernel_rfl)

def fD7:Fact:=⟨74,[.v (.string ⟨#[52,52,100,51,53,102,55,49,49,49,52,100,52,52,54,101]⟩),i 16,i 64],.bh [.v (.int .u64 4959412553891267694),.v .nilIface]⟩
noncomputable def asE:Pc:=[e74,ahd,agW]
theorem awP:∀e,e∈asE→aV Tryz.prog e:=o1' ajv<|o1' aeu<|o1' aeb<|o0'
theorem awQ:(fD7:Fact).ok Tryz.prog b0:=nM (l:=[]) trivial (EI (b0:=b0) (l:=[]) trivial) fD7 200 40 (by kernel_rfl) cj (by kernel_rfl) awP (by kernel_rfl)

def fD8:Fact:=⟨75,[.v (.int .u64 12211649411119444726)],.v (.string ⟨#[97,57,55,56,55,101,55,48,55,55,54,49,102,50,102,54]⟩)⟩
noncomputable def asC:Pc:=[e75,ahb,aha,auY,arF,auP,auO,auN]
theorem awN:∀e,e∈asC→aV Tryz.prog e:=o1' aju<|o1' aes<|o1' aer<|o1' asX<|o1' apB<|o1' asW<|o1' asU<|o1' asS<|o0'
theorem awO:(fD8:Fact).ok Tryz.prog b0:=nM (l:=[]) trivial (EI (b0:=b0) (l:=[]) trivial) fD8 200 40 (by kernel_rfl) cj (by kernel_rfl) awN (by kernel_rfl)

def fD9:Fact:=⟨75,[.v (.int .u64 6940297852680411550)],.v (.string ⟨#[54,48,53,48,101,52,50,48,51,48,54,99,49,57,57,101]⟩)⟩
noncomputable def asA:Pc:=[e75,ahb,aha,auY,arF,auP,auO,auN]
theorem awM:∀e,e∈asA→aV Tryz.prog e:=o1' aju<|o1' aes<|o1' aer<|o1' asX<|o1' apB<|o1' asW<|o1' asU<|o1' asS<|o0'
theorem ahH:(fD9:Fact).ok Tryz.prog b0:=nM (l:=[]) trivial (EI (b0:=b0) (l:=[]) trivial) fD9 200 40 (by kernel_rfl) cj (by kernel_rfl) awM (by kernel_rfl)

def amE:Fact:=⟨74,[.v (.string ⟨#[54,48,53,48,101,52,50,48,51,48,54,99,49,57,57,101]⟩),i 16,i 64],.bh [.v (.int .u64 6940297852680411550),.v .nilIface]⟩
noncomputable def aqi:Pc:=[e74,ahd,agW]
theorem at3:∀e,e∈aqi→aV Tryz.prog e:=o1' ajv<|o1' aeu<|o1' aeb<|o0'
theorem Qnv:(amE:Fact).ok Tryz.prog b0:=nM (l:=[]) trivial (EI (b0:=b0) (l:=[]) trivial) amE 200 40 (by kernel_rfl) cj (by kernel_rfl) at3 (by kernel_rfl)

def amC:Fact:=⟨75,[.v (.int .u64 4538693560232973553)],.v (.string ⟨#[51,101,102,99,97,100,98,101,102,97,48,97,49,52,102,49]⟩)⟩
noncomputable def aqh:Pc:=[e75,ahb,aha,auY,arF,auP,auO,auN]
theorem at2:∀e,e∈aqh→aV Tryz.prog e:=o1' aju<|o1' aes<|o1' aer<|o1' asX<|o1' apB<|o1' asW<|o1' asU<|o1' asS<|o0'
theorem Qnw:(amC:Fact).ok Tryz.prog b0:=nM (l:=[]) trivial (EI (b0:=b0) (l:=[]) trivial) amC 200 40 (by kernel_rfl) cj (by kernel_rfl) at2 (by kernel_rfl)

def amx:Fact:=⟨74,[.v (.string ⟨#[51,101,102,99,97,100,98,101,102,97,48,97,49,52,102,49]⟩),i 16,i 64],.bh [.v (.int .u64 4538693560232973553),.v .nilIface]⟩
noncomputable def aqg:Pc:=[e74,ahd,agW]
theorem at1:∀e,e∈aqg→aV Tryz.prog e:=o1' ajv<|o1' aeu<|o1' aeb<|o0'
theorem Qnk:(amx:Fact).ok Tryz.prog b0:=nM (l:=[]) trivial (EI (b0:=b0) (l:=[]) trivial) amx 200 40 (by kernel_rfl) cj (by kernel_rfl) at1 (by kernel_rfl)

def amw:Fact:=⟨75,[.v (.int .u64 11743569974391322174)],.v (.string ⟨#[97,50,102,57,56,97,97,98,101,101,56,57,98,54,51,101]⟩)⟩
noncomputable def aqf:Pc:=[e75,ahb,aha,auY,arF,auP,auO,auN]
theorem at0:∀e,e∈aqf→aV Tryz.prog e:=o1' aju<|o1' aes<|o1' aer<|o1' asX<|o1' apB<|o1' asW<|o1' asU<|o1' asS<|o0'
theorem z2:(amw:Fact).ok Tryz.prog b0:=nM (l:=[]) trivial (EI (b0:=b0) (l:=[]) trivial) amw 200 40 (by kernel_rfl) cj (by kernel_rfl) at0 (by kernel_rfl)

def amr:Fact:=⟨74,[.v (.string ⟨#[97,50,102,57,56,97,97,98,101,101,56,57,98,54,51,101]⟩),i 16,i 64],.bh [.v (.int .u64 11743569974391322174),.v .nilIface]⟩
noncomputable def aqe:Pc:=[e74,ahd,agW]
theorem atZ:∀e,e∈aqe→aV Tryz.prog e:=o1' ajv<|o1' aeu<|o1' aeb<|o0'
theorem Qnj:(amr:Fact).ok Tryz.prog b0:=nM (l:=[]) trivial (EI (b0:=b0) (l:=[]) trivial) amr 200 40 (by kernel_rfl) cj (by kernel_rfl) atZ (by kernel_rfl)

def amm:Fact:=⟨75,[.v (.int .u64 435281720423157270)],.v (.string ⟨#[48,54,48,97,54,101,54,98,50,51,48,98,48,101,49,54]⟩)⟩
noncomputable def aqd:Pc:=[e75,ahb,aha,auY,arF,auP,auO,auN]
theorem atY:∀e,e∈aqd→aV Tryz.prog e:=o1' aju<|o1' aes<|o1' aer<|o1' asX<|o1' apB<|o1' asW<|o1' asU<|o1' asS<|o0'
theorem zE:(amm:Fact).ok Tryz.prog b0:=nM (l:=[]) trivial (EI (b0:=b0) (l:=[]) trivial) amm 200 40 (by kernel_rfl) cj (by kernel_rfl) atY (by kernel_rfl)

def ami:Fact:=⟨74,[.v (.string ⟨#[48,54,48,97,54,101,54,98,50,51,48,98,48,101,49,54]⟩),i 16,i 64],.bh [.v (.int .u64 435281720423157270),.v .nilIface]⟩
noncomputable def aqc:Pc:=[e74,ahd,agW]
theorem atX:∀e,e∈aqc→aV Tryz.prog e:=o1' ajv<|o1' aeu<|o1' aeb<|o0'
theorem Qnx:(ami:Fact).ok Tryz.prog b0:=nM (l:=[]) trivial (EI (b0:=b0) (l:=[]) trivial) ami 200 40 (by kernel_rfl) cj (by kernel_rfl) atX (by kernel_rfl)

def amg:Fact:=⟨75,[.v (.int .u64 8242974928023518781)],.v (.string ⟨#[55,50,54,52,101,101,48,54,49,100,52,97,102,101,51,100]⟩)⟩
noncomputable def aqb:Pc:=[e75,ahb,aha,auY,arF,auP,auO,auN]
theorem atW:∀e,e∈aqb→aV Tryz.prog e:=o1' aju<|o1' aes<|o1' aer<|o1' asX<|o1' apB<|o1' asW<|o1' asU<|o1' asS<|o0'
theorem Qnz:(amg:Fact).ok Tryz.prog b0:=nM (l:=[]) trivial (EI (b0:=b0) (l:=[]) trivial) amg 200 40 (by kernel_rfl) cj (by kernel_rfl) atW (by kernel_rfl)
end
end Go.Am.Rb
