/-
 The functions that the statements' examples reach, as texts.
-/
import Derived.Test.YtnenlnmfoocpdaaAmEvaltoAmSt2
import Derived.Test.YtnenlnmfoocpdaaAmSeqtoAmLaw
import Derived.Test.YtnenlnmfoocpdaaProg
import Derived.KernelRfl
set_option linter.unusedSimpArgs false
set_option linter.unusedVariables false
namespace Go.Am.Ap
open Go.Proofs

abbrev y0 : E := .sym 0
abbrev y1 : E := .sym 1
abbrev y2 : E := .sym 2
abbrev y3 : E := .sym 3
abbrev y4 : E := .sym 4
abbrev y5 : E := .sym 5
abbrev y6 : E := .sym 6
abbrev y7 : E := .sym 7
abbrev y8 : E := .sym 8
abbrev y9 : E := .sym 9
abbrev y10 : E := .sym 10
abbrev y11 : E := .sym 11
abbrev y12 : E := .sym 12
abbrev y13 : E := .sym 13
abbrev y14 : E := .sym 14
abbrev y15 : E := .sym 15
abbrev y16 : E := .sym 16
abbrev y17 : E := .sym 17
abbrev y18 : E := .sym 18
abbrev y19 : E := .sym 19
abbrev y20 : E := .sym 20
abbrev y21 : E := .sym 21
abbrev y22 : E := .sym 22
abbrev y23 : E := .sym 23
abbrev y24 : E := .sym 24
abbrev y25 : E := .sym 25
abbrev y26 : E := .sym 26
abbrev y27 : E := .sym 27
abbrev y28 : E := .sym 28
abbrev y29 : E := .sym 29
abbrev y30 : E := .sym 30
abbrev y31 : E := .sym 31
abbrev y32 : E := .sym 32
abbrev y33 : E := .sym 33
abbrev y34 : E := .sym 34
abbrev y35 : E := .sym 35
abbrev y36 : E := .sym 36
abbrev y37 : E := .sym 37
abbrev y38 : E := .sym 38
abbrev y39 : E := .sym 39
abbrev y40 : E := .sym 40
abbrev y41 : E := .sym 41
abbrev y42 : E := .sym 42
abbrev y43 : E := .sym 43
abbrev y44 : E := .sym 44
abbrev y45 : E := .sym 45
abbrev y46 : E := .sym 46
abbrev y47 : E := .sym 47
abbrev y48 : E := .sym 48
abbrev y49 : E := .sym 49
abbrev y50 : E := .sym 50
abbrev y51 : E := .sym 51
abbrev y52 : E := .sym 52
abbrev y53 : E := .sym 53
abbrev y54 : E := .sym 54
abbrev y55 : E := .sym 55
abbrev y56 : E := .sym 56
abbrev y57 : E := .sym 57
abbrev y58 : E := .sym 58
abbrev y59 : E := .sym 59
abbrev y60 : E := .sym 60
abbrev y61 : E := .sym 61
abbrev y62 : E := .sym 62
abbrev y63 : E := .sym 63
abbrev y64 : E := .sym 64
abbrev y65 : E := .sym 65
abbrev y66 : E := .sym 66
abbrev y67 : E := .sym 67
abbrev y68 : E := .sym 68
abbrev y69 : E := .sym 69
abbrev y70 : E := .sym 70
abbrev y71 : E := .sym 71
abbrev y72 : E := .sym 72
abbrev y73 : E := .sym 73
abbrev y74 : E := .sym 74
abbrev y75 : E := .sym 75
abbrev y76 : E := .sym 76
abbrev y77 : E := .sym 77
abbrev y78 : E := .sym 78
abbrev y79 : E := .sym 79
abbrev y80 : E := .sym 80
abbrev y81 : E := .sym 81
abbrev y82 : E := .sym 82
abbrev y83 : E := .sym 83
abbrev y84 : E := .sym 84
abbrev y85 : E := .sym 85
abbrev y86 : E := .sym 86
abbrev y87 : E := .sym 87
abbrev y88 : E := .sym 88
abbrev y89 : E := .sym 89
abbrev y90 : E := .sym 90
abbrev y91 : E := .sym 91
abbrev y92 : E := .sym 92
abbrev y93 : E := .sym 93
abbrev y94 : E := .sym 94
abbrev y95 : E := .sym 95
abbrev y96 : E := .sym 96
abbrev y97 : E := .sym 97
abbrev y98 : E := .sym 98
abbrev y99 : E := .sym 99

abbrev zI : E := .const (.agg [(.v (.int .i64 0))])
abbrev zB : E := .const (.agg [(.v (.bool false))])
abbrev zL : E := .const (.agg [(.lst [])])

def WRA : List Nat := [26,65,42,30,24,32,49,51,101]
def WRS : List Nat := [92,108,122,128,129,131,132]
def PAN : List Nat := [96,64,65,66,67,68,69,98,99,100,1000066]

noncomputable def t16 : T := (wrapBinds [(.call [] 44 y0 [] [false]),
 (.wcall [] 24 y0 [y1] [true, true]),
 (.ev (.bin .neq .int (.tget 1 (.tget 0 y2)) (ki 0))),
 (.ev (.guard y3 false (.tget 0 (.tget 0 y2)))),
 (.ev (.guard y3 false (.bin .eql .ptr y4 (.const (.v (.pointer none)))))),
 (.ev (.ite y3 (kb true) y5))]
 (.ite y6 (.ret (.tcons (kb false) (.tcons (.tget 1 y2) .tnil))) (wrapBinds [(.ev (.cons (.scal (ki 1)) (.cons (.scal (ki 110)) (.cons (.scal (ki 1)) (.cons zI (.cons zI (.cons zI (.cons zI (.cons zI (.cons zL (.cons zI (.cons zB (.cons zI .nil))))))))))))),
 (.wcall [] 26 (.tget 1 y2) [(.tget 0 (.tget 0 y2)), y7] [true, true]),
 (.ev (.cons (.scal (ki 2)) (.cons (.scal (ki 140)) (.cons (.scal (ki 1)) (.cons zI (.cons (.scal (ki 1)) (.cons (.scal (ki 2)) (.cons (.scal (ki 5)) (.cons (.scal (ki 90)) (.cons zL (.cons (.scal (ki 500)) (.cons zB (.cons zI .nil))))))))))))),
 (.wcall [] 26 (.tget 1 y8) [(.tget 0 (.tget 0 y2)), y9] [true, true]),
 (.ev (.cons (.scal (ki 3)) (.cons (.scal (ki 150)) (.cons zI (.cons zI (.cons zI (.cons zI (.cons zI (.cons zI (.cons zL (.cons zI (.cons (.scal (kb true)) (.cons (.scal (ki 6000)) .nil))))))))))))),
 (.wcall [] 26 (.tget 1 y10) [(.tget 0 (.tget 0 y2)), y11] [true, true]),
 (.ev (.cons (.scal (ki 3)) (.cons (.scal (ki 150)) (.cons zI (.cons zI (.cons zI (.cons zI (.cons zI (.cons zI (.cons zL (.cons zI (.cons (.scal (kb true)) (.cons (.scal (ki 3000)) .nil))))))))))))),
 (.wcall [] 26 (.tget 1 y12) [(.tget 0 (.tget 0 y2)), y13] [true, true]),
 (.wcall [] 32 (.tget 1 y14) [(.tget 0 (.tget 0 y2)), (ki 2), (ki 150)] [true, true, true]),
 (.wcall [] 32 (.tget 1 y15) [(.tget 0 (.tget 0 y2)), (ki 2), (ki 211)] [true, true, true]),
 (.ev (.lcons (.scal (ki 1)) (.lcons (.scal (ki 1)) (.lcons (.scal (ki 1)) (.const (.lst [])))))),
 (.call [] 17 (.tget 1 y16) [(ki 10), y17] [true, true]),
 (.ev (.bin .neq .int (.tget 1 (.tget 0 y8)) (ki 0))),
 (.ev (.guard y19 false (.tget 1 (.tget 0 y10)))),
 (.ev (.guard y19 false (.bin .neq .int y20 (ki 0)))),
 (.ev (.ite y19 (kb true) y21)),
 (.ev (.guard y22 false (.tget 1 (.tget 0 y12)))),
 (.ev (.guard y22 false (.bin .neq .int y23 (ki 7)))),
 (.ev (.ite y22 (kb true) y24)),
 (.ev (.guard y25 false (.tget 1 (.tget 0 y14)))),
 (.ev (.guard y25 false (.bin .neq .int y26 (ki 0)))),
 (.ev (.ite y25 (kb true) y27)),
 (.ev (.guard y28 false (.tget 2 (.tget 0 y15)))),
 (.ev (.guard y28 false (.bin .neq .int y29 (ki 0)))),
 (.ev (.ite y28 (kb true) y30)),
 (.ev (.guard y31 false (.tget 2 (.tget 0 y16)))),
 (.ev (.guard y31 false (.bin .neq .int y32 (ki 0)))),
 (.ev (.ite y31 (kb true) y33)),
 (.ev (.guard y34 false (.tget 1 y18))),
 (.ev (.guard y34 false (.bin .neq .int y35 (ki 0)))),
 (.ev (.ite y34 (kb true) y36))]
 (.ite y37 (.ret (.tcons (kb false) (.tcons (.tget 1 y16) .tnil))) (wrapBinds [(.ev (.bin .eql .int (.tget 0 (.tget 0 y10)) (ki 0))),
 (.ev (.guard y38 true (.tget 0 (.tget 0 y15)))),
 (.ev (.guard y38 true (.bin .eql .int y39 (ki 3000)))),
 (.ev (.ite y38 y40 (kb false))),
 (.ev (.guard y41 true (.tget 1 (.tget 0 y15)))),
 (.ev (.ite y41 y42 (kb false))),
 (.ev (.guard y43 true (.tget 0 (.tget 0 y16)))),
 (.ev (.guard y43 true (.bin .eql .int y44 (ki 3000)))),
 (.ev (.ite y43 y45 (kb false))),
 (.ev (.guard y46 true (.tget 1 (.tget 0 y16)))),
 (.ev (.guard y46 true (.un .not y47))),
 (.ev (.ite y46 y48 (kb false))),
 (.ev (.guard y49 true (.tget 0 y18))),
 (.ev (.guard y49 true (.lcons (.scal (ki 4)) (.lcons (.scal (ki 3)) (.lcons (.scal (ki 3)) (.const (.lst []))))))),
 (.call [(y49, true)] 19 (.tget 1 y16) [y50, y51] [true]),
 (.ev (.ite y49 y52 (kb false)))]
 (.ret (.tcons y53 (.tcons (.tget 1 y16) .tnil))))))))
noncomputable def e16 : Entry := { f := 16, kn := .plain, cf := (autoCfg false WRA PAN [] [] Try.f16), own := true, ones := [], t := t16 }
theorem ok16 : EntOk Try.prog e16 := EntOk.ofPlain Try.func16 (by kernel_rfl) (by kernel_rfl)

noncomputable def t24 : T := (wrapBinds [(.ev (.aggN 6 y0)),
 (.call [] 41 y1 [(agc 6 y2)] [true]),
 (.ev (.bin .neq .int y3 (ki 0)))]
 (.ite y4 (.ret (.tcons (.tcons (.const (.v (.pointer none))) (.tcons y3 .tnil)) (.tcons y1 .tnil))) (wrapBinds [(.call [] 56 y1 [(.cell 1 y2)] [true]),
 (.ev (.cons (.aggN 6 (.cons (.cell 0 y2) (.cons y5 (.cons (.cell 2 y2) (.cons (.cell 3 y2) (.cons (.cell 4 y2) (.cons (.cell 5 y2) .nil))))))) (.cons (.scal (kb true)) (.cons (.const (.agg [.snil])) (.cons (.const (.agg [.snil])) .nil))))),
 (.ev (.newb 99 9 y1 (.aggN 9 y6)))]
 (.ret (.tcons (.tcons (.fstid y1) (.tcons (ki 0) .tnil)) (.tcons y7 .tnil))))))
noncomputable def e24 : Entry := { f := 24, kn := .plain, cf := { autoCfg false WRA PAN [16] [] Try.f24 with nils := true }, own := false, ones := [false], t := t24 }
theorem ok24 : EntOk Try.prog e24 := EntOk.ofPlain Try.func24 (by kernel_rfl) (by kernel_rfl)

noncomputable def t26 : T := (wrapBinds [(.ev (.aggN 12 y1)),
 (.ev (.newb 3 1 y2 zI)),
 (.ev (.newb 24 1 y4 zI)),
 (.call [] 61 y5 [y0] [true]),
 (.ev (.un .not y6))]
 (.ite y7 (wrapBinds [(.ev (.sto 1 y5 (.fstid y2) (ki 0))),
 (.ev (.sto 1 y8 (.fstid y4) (ki 1)))]
 (.ret (.tcons (.tcons (.ld false 1 y9 (.fstid y2)) (.tcons (.ld false 1 y9 (.fstid y4)) .tnil)) (.tcons y9 .tnil)))) (wrapBinds [(.call [] 62 y5 [y0, (agc 12 y3)] [true]),
 (.ev (.un .not y8)),
 (.ev (.guard y9 false (.nn y0))),
 (.ev (.guard y9 false (.padd 7 y10))),
 (.ev (.guard y9 false (.ld false 1 y5 y11))),
 (.ev (.guard y9 false (.lenL y12))),
 (.ev (.guard y9 false (.bin .gtr .int y13 (ki 0)))),
 (.ev (.guard y9 false (.guard y14 true (.cell 1 y3)))),
 (.ev (.guard y9 false (.guard y14 true (.nn y0)))),
 (.ev (.guard y9 false (.guard y14 true (.padd 7 y16)))),
 (.ev (.guard y9 false (.guard y14 true (.ld false 1 y5 y17)))),
 (.ev (.guard y9 false (.guard y14 true (.nn y0)))),
 (.ev (.guard y9 false (.guard y14 true (.padd 7 y19)))),
 (.ev (.guard y9 false (.guard y14 true (.ld false 1 y5 y20)))),
 (.ev (.guard y9 false (.guard y14 true (.lenL y21)))),
 (.ev (.guard y9 false (.guard y14 true (.bin .sub .int y22 (ki 1))))),
 (.ev (.guard y9 false (.guard y14 true (.eaddr 12 y18 y23)))),
 (.ev (.guard y9 false (.guard y14 true (.padd 1 y24)))),
 (.ev (.guard y9 false (.guard y14 true (.ld false 1 y5 y25)))),
 (.ev (.guard y9 false (.guard y14 true (.bin .lss .int y15 y26)))),
 (.ev (.guard y9 false (.ite y14 y27 (kb false)))),
 (.ev (.ite y9 (kb true) y28))]
 (.ite y29 (wrapBinds [(.ev (.sto 1 y5 (.fstid y2) (ki 0))),
 (.ev (.sto 1 y30 (.fstid y4) (ki 2)))]
 (.ret (.tcons (.tcons (.ld false 1 y31 (.fstid y2)) (.tcons (.ld false 1 y31 (.fstid y4)) .tnil)) (.tcons y31 .tnil)))) (wrapBinds [(.ev (.nn y0)),
 (.ev (.padd 7 y30)),
 (.ev (.ld false 1 y5 y31)),
 (.ev (.lenL y32)),
 (.ev (.bin .geq .int y33 (ki 2000)))]
 (.ite y34 (wrapBinds [(.ev (.sto 1 y5 (.fstid y2) (ki 0))),
 (.ev (.sto 1 y35 (.fstid y4) (ki 4)))]
 (.ret (.tcons (.tcons (.ld false 1 y36 (.fstid y2)) (.tcons (.ld false 1 y36 (.fstid y4)) .tnil)) (.tcons y36 .tnil)))) (.dfr 63 [4, 5] [(.fstid y2), (.fstid y4)] (.tcons (.ld false 1 y2 y0) (.tcons (.ld false 1 y2 y1) .tnil)) (wrapBinds [(.ev (.m4 .newm y5 .nil .nil .nil)),
 (.ev (.mkfn 64 (.tcons y0 .tnil) .tnil)),
 (.ev (.m4 (.put .int) y35 (.m4 .fstm y5 .nil .nil .nil) (ki 1) y36)),
 (.ev (.mkfn 65 (.tcons y0 .tnil) .tnil)),
 (.ev (.m4 (.put .int) y37 (.m4 .fstm y5 .nil .nil .nil) (ki 2) y38)),
 (.ev (.mkfn 66 (.tcons y0 .tnil) .tnil)),
 (.ev (.m4 (.put .int) y39 (.m4 .fstm y5 .nil .nil .nil) (ki 3) y40)),
 (.ev (.mkfn 67 (.tcons y0 .tnil) .tnil)),
 (.ev (.m4 (.put .int) y41 (.m4 .fstm y5 .nil .nil .nil) (ki 4) y42)),
 (.ev (.mkfn 68 (.tcons y0 .tnil) .tnil)),
 (.ev (.m4 (.put .int) y43 (.m4 .fstm y5 .nil .nil .nil) (ki 5) y44)),
 (.ev (.mkfn 69 (.tcons y0 .tnil) .tnil)),
 (.ev (.m4 (.put .int) y45 (.m4 .fstm y5 .nil .nil .nil) (ki 6) y46)),
 (.ev (.m4 (.get .int false) y47 (.m4 .fstm y5 .nil .nil .nil) (.cell 0 y3) (.const (.v .nilFunc))))]
 (.wpcallv y48 y47 [(agc 12 y3)] [true] [4, 5] [(.fstid y2), (.fstid y4)] (wrapBinds [(.ev (.sto 1 (.tget 1 y49) (.fstid y2) (.tget 0 y49))),
 (.call [] 70 y50 [(.cell 8 y3)] [true]),
 (.ev (.ld false 1 y50 (.fstid y2))),
 (.ev (.bin .geq .int y52 (ki 0)))]
 (.join 0 1 (.ite y53 (wrapBinds [(.ev (.nn y0)),
 (.ev (.padd 8 y54)),
 (.ev (.ld false 1 y50 y55)),
 (.ev (.ld false 1 y50 (.fstid y2))),
 (.ev (.nn y0)),
 (.ev (.padd 8 y58)),
 (.ev (.ld false 1 y50 y59)),
 (.ev (.ld false 1 y50 (.fstid y2))),
 (.ev (.eaddr 2 y60 y61)),
 (.ev (.padd 1 y62)),
 (.ev (.ld false 1 y50 y63)),
 (.ev (.nn y0)),
 (.ev (.padd 7 y65)),
 (.ev (.ld false 1 y50 y66)),
 (.ev (.lenL y67)),
 (.ev (.lcons (.scal y68) (.const (.lst [])))),
 (.ev (.apph 3 1 8 y50 y64 y69)),
 (.ev (.eaddr 2 y56 y57)),
 (.ev (.padd 1 y71)),
 (.ev (.sto 1 y70 y72 (.apps y50 y64 y69))),
 (.ev (.m4 .same (.ld false 1 y50 y55) (.ld false 1 y70 y55) .nil .nil)),
 (.ev (.m4 .same (.ld false 1 y50 (.fstid y2)) (.ld false 1 y70 (.fstid y2)) .nil .nil))]
 (.jump 0 [y73])) (.jump 0 [y50])) (wrapBinds [(.ev (.nn y0)),
 (.ev (.padd 7 y55)),
 (.ev (.ld false 1 y54 y56)),
 (.ev (.lcons (.aggN 12 (.cons (.cell 0 y3) (.cons (.cell 1 y3) (.cons (.cell 2 y3) (.cons (.cell 3 y3) (.cons (.cell 4 y3) (.cons (.cell 5 y3) (.cons (.cell 6 y3) (.cons (.cell 7 y3) (.cons y51 (.cons (.cell 9 y3) (.cons (.cell 10 y3) (.cons (.cell 11 y3) .nil))))))))))))) (.const (.lst [])))),
 (.ev (.apph 43 12 112 y54 y57 y58)),
 (.ev (.nn y0)),
 (.ev (.padd 7 y60)),
 (.ev (.sto 1 y59 y61 (.apps y54 y57 y58))),
 (.ev (.ld false 1 y62 (.fstid y2))),
 (.ev (.sto 1 y62 (.fstid y2) y63)),
 (.ev (.sto 1 y64 (.fstid y4) (ki 0)))]
 (.ret (.tcons (.tcons (.fstid y2) (.tcons (.fstid y4) .tnil)) (.tcons y65 .tnil)))))))))))))))
noncomputable def e26 : Entry := { f := 26, kn := (.defers [4,5]), cf := (autoCfg false WRA PAN [] [] Try.f26), own := false, ones := [true, false], t := t26 }
theorem ok26 : EntOk Try.prog e26 := EntOk.ofDefers Try.func26 (by kernel_rfl) (by kernel_rfl)

noncomputable def t63 : T := (wrapBinds [(.ev (.m4 (.ifnil true) y3 .nil .nil .nil))]
 (.join 0 1 (.ite y4 (wrapBinds [(.ev (.m4 (.tassert 109) y3 zI .nil .nil)),
 (.ev (.aggN 1 (.tget 0 y5))),
 (.ev (.un .not (.tget 1 y5)))]
 (.join 1 0 (.ite y7 (.pan (.m4 .isifc y3 .nil .nil .nil) y2 [] []) (.jump 1 [])) (wrapBinds [(.ev (.sto 1 y2 y0 (ki 0))),
 (.ev (.sto 1 y8 y1 (.cell 0 y6)))]
 (.jump 0 [y9])))) (.jump 0 [y2])) (.ret (.tcons .tnil (.tcons y5 .tnil)))))
noncomputable def e63 : Entry := { f := 63, kn := .recovers, cf := (autoCfg false WRA PAN [] [] Try.f63), own := false, ones := [true, true], t := t63 }
theorem ok63 : EntOk Try.prog e63 := EntOk.ofRecovers Try.func63 (by kernel_rfl) (by kernel_rfl)

noncomputable def t65 : T := (wrapBinds [(.ev (.aggN 12 y1)),
 (.call [] 97 y2 [y0, (.cell 2 y3)] [true]),
 (.ev (.nn y0)),
 (.ev (.padd 0 y5)),
 (.ev (.ld true 6 y2 y6)),
 (.call [] 81 y2 [y7, (.cell 6 y3), (.cell 7 y3)] [true, true]),
 (.ev (.bin .lss .int y4 (ki 0))),
 (.ev (.guard y9 false (.tget 1 y8))),
 (.ev (.guard y9 false (.un .not y10))),
 (.ev (.ite y9 (kb true) y11))]
 (.pcall 96 y2 [y12, (ki 5)] [] [] [] (wrapBinds [(.ev (.bin .sub .int (.cell 1 y3) y4)),
 (.ev (.nn y0)),
 (.ev (.padd 0 y15)),
 (.ev (.padd 2 y16)),
 (.ev (.ld false 1 y2 y17)),
 (.ev (.bin .gtr .int y14 y18))]
 (.pcall 96 y2 [y19, (ki 8)] [] [] [] (wrapBinds [(.ev (.nn y0)),
 (.ev (.padd 0 y21)),
 (.ev (.padd 4 y22)),
 (.ev (.ld false 1 y2 y23)),
 (.ev (.bin .neq .int (.cell 9 y3) y24))]
 (.pcall 96 y2 [y25, (ki 7)] [] [] [] (wrapBinds [(.ev (.nn y0)),
 (.ev (.padd 8 y27)),
 (.ev (.ld false 1 y2 y28)),
 (.ev (.nn y0)),
 (.ev (.padd 7 y30)),
 (.ev (.ld false 1 y2 y31)),
 (.ev (.lenL y32)),
 (.ev (.cons (.scal y33) (.cons (.const (.agg [.snil])) .nil))),
 (.ev (.lcons (.aggN 2 y34) (.const (.lst [])))),
 (.ev (.apph 115 2 32 y2 y29 y35)),
 (.ev (.nn y0)),
 (.ev (.padd 8 y37)),
 (.ev (.sto 1 y36 y38 (.apps y2 y29 y35))),
 (.ev (.nn y0)),
 (.ev (.padd 8 y40)),
 (.ev (.ld false 1 y39 y41)),
 (.ev (.lenL y42)),
 (.ev (.bin .sub .int y43 (ki 1)))]
 (.ret (.tcons y44 (.tcons y39 .tnil))))))))))
noncomputable def e65 : Entry := { f := 65, kn := .plain, cf := { autoCfg false WRA PAN [] [] Try.f65 with nils := true }, own := false, ones := [true, false], t := t65 }
theorem ok65 : EntOk Try.prog e65 := EntOk.ofPlain Try.func65 (by kernel_rfl) (by kernel_rfl)

noncomputable def t32 : T := (wrapBinds [(.ev (.mkptr (.cons (.scal y0) .nil))),
 (.ev (.mkptr (.cons (.scal y2) .nil))),
 (.ev (.ld false 1 y3 y4)),
 (.ev (.ld false 1 y3 y5)),
 (.call [] 74 y3 [y6, y1, y7] [true]),
 (.ev (.bin .neq .int y8 (ki 0)))]
 (.ite y9 (.ret (.tcons (.tcons (ki 0) (.tcons (kb false) (.tcons y8 .tnil))) (.tcons y3 .tnil))) (wrapBinds [(.ev (.newb 4 1 y3 zB)),
 (.ev (.sto 1 y10 (.fstid y3) (kb false))),
 (.ev (.ld false 1 y11 y4)),
 (.ev (.ld false 1 y11 y5)),
 (.call [] 75 y11 [y12, y1, y13] [true]),
 (.ev (.lenL y14))]
 (.join 0 4 (.loop 1 [(ki 0), (ki 0), y11] (wrapBinds [(.ev (.bin .lss .int y17 y15))]
 (.ite y19 (.join 2 37 (wrapBinds [(.ev (.eaddr 2 y14 y17)),
 (.ev (.ld true 2 y18 y20)),
 (.ev (.aggN 2 y21)),
 (.ev (.ld false 1 y18 y4)),
 (.ev (.ld false 1 y18 y5)),
 (.call [] 76 y18 [y23, (agc 2 y22), y24] [true, true]),
 (.ev (.ld false 1 y18 y4)),
 (.ev (.ld false 1 y18 y5)),
 (.call [] 76 y18 [y26, (agc 2 y22), y27] [true, true])]
 (.join 3 1 (.ite (.tget 1 y28) (wrapBinds [(.ev (.bin .add .int y16 (.tget 0 y25)))]
 (.jump 3 [y29])) (.jump 3 [y16])) (wrapBinds [(.ev (.ld false 1 y18 y4)),
 (.ev (.ld false 1 y18 y5)),
 (.call [] 73 y18 [y30, (agc 2 y22), y31] [true]),
 (.ev (.ld false 1 y18 (.fstid y3))),
 (.ev (.guard y33 false (.bin .eql .int y32 (ki 1)))),
 (.ev (.ite y33 (kb true) y34)),
 (.ev (.guard y35 false (.bin .eql .int y32 (ki 3)))),
 (.ev (.ite y35 (kb true) y36)),
 (.ev (.guard y37 false (.bin .eql .int y32 (ki 4)))),
 (.ev (.ite y37 (kb true) y38)),
 (.ev (.sto 1 y18 (.fstid y3) y39))]
 (.jump 2 [y29, (.tget 0 y25), (.tget 1 y25), (.tget 0 y28), (.tget 1 y28), y32, y20, y21, (.tcons (.tget 0 y25) (.tcons (.tget 1 y25) .tnil)), y23, (agc 2 y22), y24, (.tcons (.tget 0 y25) (.tcons (.tget 1 y25) .tnil)), (.tget 0 y25), (.tget 1 y25), (.tcons (.tget 0 y28) (.tcons (.tget 1 y28) .tnil)), y26, (agc 2 y22), y27, (.tcons (.tget 0 y28) (.tcons (.tget 1 y28) .tnil)), (.tget 0 y28), (.tget 1 y28), (.tget 1 y28), y30, (agc 2 y22), y31, y32, y33, y33, y35, y35, y37, y37, y39, (.cell 0 y22), (.cell 1 y22), y40])))) (wrapBinds [(.ev (.bin .add .int y17 (ki 1)))]
 (.jump 1 [y20, y57, y56]))) (.jump 0 [y16, y17, y19, y18])))) (wrapBinds [(.ev (.ld false 1 y19 y4)),
 (.ev (.ld false 1 y19 y5)),
 (.call [] 77 y19 [y20, y21] [true])]
 (.join 0 1 (.rfor y22 y19 [0, 1, 2, 3, 5, 6, 7, 8, 9, 10, 11, 21, 22, 23, 24, 25, 26, 28, 29, 30, 31, 32, 33, 34, 73, 74, 75] [y0, y1, y2, y4, y5, (ki 0), (kb false), (ki 0), y8, y16, (.fstid y3), y6, y1, y7, y8, y8, y9, y12, y1, y13, y14, y15, y17, y18, y20, y21, y22] 2 1 (wrapBinds [(.ev (.newb 43 12 y23 (.const (.agg [(.v (.int .i64 0)), (.v (.int .i64 0)), (.v (.int .i64 0)), (.v (.int .i64 0)), (.v (.int .i64 0)), (.v (.int .i64 0)), (.v (.int .i64 0)), (.v (.int .i64 0)), (.lst []), (.v (.int .i64 0)), (.v (.bool false)), (.v (.int .i64 0))])))),
 (.ev (.sto 12 y26 (.fstid y23) y25))]
 (.join 2 4 (wrapBinds [(.ev (.ld false 1 y27 (.fstid y3))),
 (.ev (.guard y28 false (.padd 0 (.fstid y23)))),
 (.ev (.guard y28 false (.ld false 1 y27 y29))),
 (.ev (.guard y28 false (.bin .eql .int y30 (ki 1)))),
 (.ev (.guard y28 false (.guard y31 true (.ld false 1 y27 y5)))),
 (.ev (.guard y28 false (.guard y31 true (.padd 1 (.fstid y23))))),
 (.ev (.guard y28 false (.guard y31 true (.ld false 1 y27 y33)))),
 (.ev (.guard y28 false (.guard y31 true (.bin .sub .int y32 y34)))),
 (.ev (.guard y28 false (.guard y31 true (.ld false 1 y27 y4)))),
 (.ev (.guard y28 false (.guard y31 true (.nn y36)))),
 (.ev (.guard y28 false (.guard y31 true (.padd 0 y37)))),
 (.ev (.guard y28 false (.guard y31 true (.padd 2 y38)))),
 (.ev (.guard y28 false (.guard y31 true (.ld false 1 y27 y39)))),
 (.ev (.guard y28 false (.guard y31 true (.bin .leq .int y35 y40)))),
 (.ev (.guard y28 false (.ite y31 y41 (kb false)))),
 (.ev (.ite y28 (kb true) y42)),
 (.ev (.sto 1 y27 (.fstid y3) y43))]
 (.jump 2 [y28, y28, y43, y44])) (.jump 1 [y31]))) (.jump 0 [y23])) (wrapBinds [(.ev (.ld false 1 y23 (.fstid y3)))]
 (.ret (.tcons (.tcons y16 (.tcons y24 (.tcons (ki 0) .tnil))) (.tcons y23 .tnil))))))))))
noncomputable def e32 : Entry := { f := 32, kn := .plain, cf := (autoCfg false WRA PAN [] [] Try.f32), own := false, ones := [true, true, true], t := t32 }
theorem ok32 : EntOk Try.prog e32 := EntOk.ofPlain Try.func32 (by kernel_rfl) (by kernel_rfl)

noncomputable def t101 : T := (wrapBinds [(.ev (.ld false 1 y3 y1)),
 (.ev (.nn y4)),
 (.ev (.padd 7 y5)),
 (.ev (.ld false 1 y3 y6)),
 (.ev (.lenL y7))]
 (.join 0 3 (.loop 1 [(ki 0), y3] (wrapBinds [(.ev (.bin .lss .int y9 y8))]
 (.ite y11 (.join 2 20 (wrapBinds [(.ev (.eaddr 12 y7 y9)),
 (.ev (.ld true 12 y10 y12)),
 (.ev (.aggN 12 y13)),
 (.ev (.ld false 1 y10 y2)),
 (.ev (.bin .gtr .int (.cell 1 y14) y15)),
 (.wcallv [(y16, false)] y0 y10 [y9, (agc 12 y14)] [true]),
 (.ev (.guard y16 false (.un .not (.tget 0 y17)))),
 (.ev (.ite y16 (kb true) y18))]
 (.ite y19 (.ret (.tcons .tnil (.tcons (.tget 1 y17) .tnil))) (.jump 2 [y12, y13, (.cell 1 y14), y15, y16, y16, y19, (.cell 0 y14), (.cell 1 y14), (.cell 2 y14), (.cell 3 y14), (.cell 4 y14), (.cell 5 y14), (.cell 6 y14), (.cell 7 y14), (.cell 8 y14), (.cell 9 y14), (.cell 10 y14), (.cell 11 y14), (.tget 1 y17)]))) (wrapBinds [(.ev (.bin .add .int y9 (ki 1)))]
 (.jump 1 [y32, y31]))) (.jump 0 [y9, y11, y10])))) (.ret (.tcons .tnil (.tcons y11 .tnil)))))
noncomputable def e101 : Entry := { f := 101, kn := .plain, cf := (autoCfg false (1000024 :: WRA) PAN [] [] Try.f101), own := false, ones := [true, true, true], t := t101 }
theorem ok101 : EntOk Try.prog e101 := EntOk.ofPlain Try.func101 (by kernel_rfl) (by kernel_rfl)

noncomputable def t54 : T := (wrapBinds [(.ev (.lenL y1))]
 (.join 0 3 (.loop 1 [(ki 0), (ki 0)] (wrapBinds [(.ev (.bin .lss .int y5 y3))]
 (.ite y6 (.join 2 6 (wrapBinds [(.ev (.eaddr 1 y1 y5)),
 (.ev (.ld false 1 y2 y7)),
 (.ev (.bin .add .int y4 y8))]
 (.jump 2 [y9, y8, y7, y8, y8, y9])) (wrapBinds [(.ev (.bin .add .int y5 (ki 1)))]
 (.jump 1 [y7, y13]))) (.jump 0 [y4, y5, y6])))) (wrapBinds [(.ev (.lenL y1)),
 (.ev (.rep 8 y7 (.v (.int .i64 0)))),
 (.ev (.lenL y1)),
 (.ev (.rep 8 y9 (.v (.int .i64 0)))),
 (.ev (.lenL y1))]
 (.join 0 5 (.loop 1 [y0, (ki 0), y8, y10] (wrapBinds [(.ev (.bin .lss .int y13 y11))]
 (.ite y16 (.join 2 14 (wrapBinds [(.ev (.eaddr 1 y1 y13)),
 (.ev (.ld false 1 y2 y17)),
 (.ev (.bin .mul .int y0 y18)),
 (.ev (.bin .quo .int y19 y4)),
 (.ev (.bin .mul .int y0 y18)),
 (.ev (.bin .rem .int y21 y4)),
 (.ev (.idx y14 y13)),
 (.ev (.set y14 y13 0 y20)),
 (.ev (.idx y15 y13)),
 (.ev (.set y15 y13 0 y22)),
 (.ev (.idx y24 y13)),
 (.ev (.cell 0 (.idx y24 y13))),
 (.ev (.bin .sub .int y12 y28))]
 (.jump 2 [y29, y18, y17, y18, y18, y19, y20, y18, y21, y22, y28, y29, y24, y26])) (wrapBinds [(.ev (.bin .add .int y13 (ki 1)))]
 (.jump 1 [y17, y31, y29, y30]))) (.jump 0 [y12, y13, y16, y14, y15])))) (wrapBinds [(.wcall [] 92 y2 [y16, (.const (.fn 93 [] []))] [true]),
 (.ev (.sub 1 (.tget 0 y17) (ki 0) y12)),
 (.ev (.lenL y18))]
 (.join 0 3 (.loop 1 [(ki 0), y15] (wrapBinds [(.ev (.bin .lss .int y20 y19))]
 (.ite y22 (.join 2 7 (wrapBinds [(.ev (.eaddr 1 y18 y20)),
 (.ev (.ld false 1 (.tget 1 y17) y23)),
 (.ev (.idx y21 y24)),
 (.ev (.cell 0 (.idx y21 y24))),
 (.ev (.bin .add .int y26 (ki 1))),
 (.ev (.idx y21 y24)),
 (.ev (.set y21 y24 0 y27))]
 (.jump 2 [y24, y23, y24, y24, y26, y27, y29])) (wrapBinds [(.ev (.bin .add .int y20 (ki 1)))]
 (.jump 1 [y30, y29]))) (.jump 0 [y20, y22, y21])))) (.ret (.tcons y22 (.tcons (.tget 1 y17) .tnil)))))))))
noncomputable def e54 : Entry := { f := 54, kn := .plain, cf := (autoCfg false WRS PAN [] [(15,30)] Try.f54), own := true, ones := [true, true], t := t54 }
theorem ok54 : EntOk Try.prog e54 := EntOk.ofPlain Try.func54 (by kernel_rfl) (by kernel_rfl)

noncomputable def t92 : T := (wrapBinds [(.ev (.mkptr (.cons (.scal y0) .nil))),
 (.ev (.mkptr (.cons (.scal y1) .nil))),
 (.ev (.ld false 1 y2 y3)),
 (.ev (.lenL y5)),
 (.ev (.newv 3 1 y2 (.rep 8 y6 (.v (.int .i64 0))))),
 (.ev (.lenL (.fstsl y2 (.rep 8 y6 (.v (.int .i64 0))))))]
 (.join 0 3 (.loop 1 [(ki 0), y7] (wrapBinds [(.ev (.bin .lss .int y9 y8))]
 (.ite y11 (.join 2 2 (wrapBinds [(.ev (.eaddr 1 (.fstsl y2 (.rep 8 y6 (.v (.int .i64 0)))) y9)),
 (.ev (.sto 1 y10 y12 y9))]
 (.jump 2 [y12, y13])) (wrapBinds [(.ev (.bin .add .int y9 (ki 1)))]
 (.jump 1 [y14, y13]))) (.jump 0 [y9, y11, y10])))) (wrapBinds [(.ev (.mkfn 109 .tnil (.tcons y4 (.tcons y3 .tnil)))),
 (.wcall [] 108 y11 [(.fstsl y2 (.rep 8 y6 (.v (.int .i64 0)))), y12] [])]
 (.ret (.tcons (.fstsl y2 (.rep 8 y6 (.v (.int .i64 0)))) (.tcons (.tget 1 y13) .tnil))))))
noncomputable def e92 : Entry := { f := 92, kn := .plain, cf := (autoCfg false WRS PAN [9] [] Try.f92), own := false, ones := [true, true], t := t92 }
theorem ok92 : EntOk Try.prog e92 := EntOk.ofPlain Try.func92 (by kernel_rfl) (by kernel_rfl)

noncomputable def t108 : T := (wrapBinds [(.ev (.lenL y0)),
 (.wcall [] 122 y2 [y0, y3, y1] [])]
 (.ret (.tcons .tnil (.tcons (.tget 1 y4) .tnil))))
noncomputable def e108 : Entry := { f := 108, kn := .plain, cf := (autoCfg false WRS PAN [] [] Try.f108), own := false, ones := [true, true], t := t108 }
theorem ok108 : EntOk Try.prog e108 := EntOk.ofPlain Try.func108 (by kernel_rfl) (by kernel_rfl)

noncomputable def t122 : T := (.join 0 5 (.loop 1 [(ki 0), (ki 20), y3] (wrapBinds [(.ev (.bin .leq .int y5 y1))]
 (.ite y7 (.join 2 3 (wrapBinds [(.wcall [] 128 y6 [y0, y4, y5, y2] []),
 (.ev (.bin .add .int y5 (ki 20)))]
 (.jump 2 [y9, y9, (.tget 1 y8)])) (.jump 1 [y5, y8, y10])) (.jump 0 [y4, y5, y5, y7, y6])))) (wrapBinds [(.wcall [] 128 y8 [y0, y4, y1, y2] [])]
 (.join 0 6 (.loop 1 [(ki 20), y4, y5, (.tget 1 y9)] (wrapBinds [(.ev (.bin .lss .int y10 y1))]
 (.ite y14 (.join 2 13 (wrapBinds [(.ev (.bin .mul .int (ki 2) y10))]
 (.join 3 5 (.loop 4 [(ki 0), y15, y13] (wrapBinds [(.ev (.bin .leq .int y17 y1))]
 (.ite y19 (.join 5 5 (wrapBinds [(.ev (.bin .add .int y16 y10)),
 (.wcall [] 129 y18 [y0, y16, y20, y17, y2] []),
 (.ev (.bin .mul .int (ki 2) y10)),
 (.ev (.bin .add .int y17 y22))]
 (.jump 5 [y23, y20, y22, y23, (.tget 1 y21)])) (.jump 4 [y17, y20, y24])) (.jump 3 [y16, y17, y17, y19, y18])))) (wrapBinds [(.ev (.bin .add .int y16 y10)),
 (.ev (.bin .lss .int y21 y1))]
 (.join 3 1 (.ite y22 (wrapBinds [(.wcall [] 129 y20 [y0, y16, y21, y1, y2] [])]
 (.jump 3 [(.tget 1 y23)])) (.jump 3 [y20])) (wrapBinds [(.ev (.bin .mul .int y10 (ki 2)))]
 (.jump 2 [y24, y16, y17, y21, y15, y18, y19, y16, y21, y21, y22, y24, y23])))))) (.jump 1 [y15, y16, y17, y27])) (.jump 0 [y10, y11, y12, y10, y14, y13])))) (.ret (.tcons .tnil (.tcons y15 .tnil))))))
noncomputable def e122 : Entry := { f := 122, kn := .plain, cf := (autoCfg false WRS PAN [] [] Try.f122), own := false, ones := [true, true, true], t := t122 }
theorem ok122 : EntOk Try.prog e122 := EntOk.ofPlain Try.func122 (by kernel_rfl) (by kernel_rfl)

noncomputable def t128 : T := (wrapBinds [(.ev (.bin .add .int y1 (ki 1)))]
 (.join 0 4 (.loop 1 [y5, y4] (wrapBinds [(.ev (.bin .lss .int y6 y2))]
 (.ite y8 (.join 2 6 (.join 3 6 (.loop 4 [y6, y7] (wrapBinds [(.ev (.bin .gtr .int y9 y1)),
 (.ev (.guard y11 true (.eaddr 1 y0 y9))),
 (.ev (.guard y11 true (.ld false 1 y10 y12))),
 (.ev (.guard y11 true (.bin .sub .int y9 (ki 1)))),
 (.ev (.guard y11 true (.eaddr 1 y0 y14))),
 (.ev (.guard y11 true (.ld false 1 y10 y15))),
 (.callv [(y11, true)] y3 y10 [y13, y16] [true]),
 (.ev (.guard y11 true (.bin .lss .int y17 (ki 0)))),
 (.ev (.ite y11 y18 (kb false)))]
 (.ite y19 (.join 5 9 (wrapBinds [(.ev (.bin .sub .int y9 (ki 1))),
 (.ev (.bin .sub .int y9 (ki 1))),
 (.ev (.eaddr 1 y0 y21)),
 (.ev (.ld false 1 y10 y22)),
 (.ev (.eaddr 1 y0 y9)),
 (.ev (.ld false 1 y10 y24)),
 (.ev (.eaddr 1 y0 y9)),
 (.ev (.sto 1 y10 y26 y23)),
 (.ev (.eaddr 1 y0 y20)),
 (.ev (.sto 1 y27 y28 y25))]
 (.jump 5 [y20, y21, y22, y23, y24, y25, y26, y28, y29])) (wrapBinds [(.ev (.bin .sub .int y9 (ki 1)))]
 (.jump 4 [y29, y28]))) (.jump 3 [y9, y9, y11, y11, y19, y10])))) (.jump 2 [y9, y10, y11, y12, y13, y14])) (wrapBinds [(.ev (.bin .add .int y6 (ki 1)))]
 (.jump 1 [y15, y14]))) (.jump 0 [y6, y6, y8, y7])))) (.ret (.tcons .tnil (.tcons y9 .tnil)))))
noncomputable def e128 : Entry := { f := 128, kn := .plain, cf := (autoCfg false WRS PAN [] [] Try.f128), own := false, ones := [true, true, true, true], t := t128 }
theorem ok128 : EntOk Try.prog e128 := EntOk.ofPlain Try.func128 (by kernel_rfl) (by kernel_rfl)

noncomputable def t129 : T := (wrapBinds [(.ev (.bin .sub .int y2 y1)),
 (.ev (.bin .eql .int y6 (ki 1)))]
 (.ite y7 (.join 0 5 (.loop 1 [y2, y3] (wrapBinds [(.ev (.bin .lss .int y8 y9))]
 (.ite y10 (.join 2 14 (wrapBinds [(.ev (.bin .add .int y8 y9)),
 (.ev (.conv .u64 y11)),
 (.ev (.bin .shr .int y12 (.const (.v (.int .u64 1))))),
 (.ev (.conv .i64 y13)),
 (.ev (.eaddr 1 y0 y14)),
 (.ev (.ld false 1 y5 y15)),
 (.ev (.eaddr 1 y0 y1)),
 (.ev (.ld false 1 y5 y17)),
 (.callv [] y4 y5 [y16, y18] [true]),
 (.ev (.bin .lss .int y19 (ki 0)))]
 (.join 3 2 (.ite y20 (wrapBinds [(.ev (.bin .add .int y14 (ki 1)))]
 (.jump 3 [y21, y9])) (.jump 3 [y8, y14])) (.jump 2 [y21, y22, y14, y11, y12, y13, y14, y14, y15, y16, y17, y18, y19, y20]))) (.jump 1 [y11, y12])) (.jump 0 [y8, y9, y8, y9, y10])))) (.join 0 5 (.loop 1 [y1, y5] (wrapBinds [(.ev (.bin .sub .int y8 (ki 1))),
 (.ev (.bin .lss .int y13 y15))]
 (.ite y16 (.join 2 9 (wrapBinds [(.ev (.bin .add .int y13 (ki 1))),
 (.ev (.bin .add .int y13 (ki 1))),
 (.ev (.eaddr 1 y0 y18)),
 (.ev (.ld false 1 y14 y19)),
 (.ev (.eaddr 1 y0 y13)),
 (.ev (.ld false 1 y14 y21)),
 (.ev (.eaddr 1 y0 y13)),
 (.ev (.sto 1 y14 y23 y20)),
 (.ev (.eaddr 1 y0 y17)),
 (.ev (.sto 1 y24 y25 y22))]
 (.jump 2 [y17, y18, y19, y20, y21, y22, y23, y25, y26])) (wrapBinds [(.ev (.bin .add .int y13 (ki 1)))]
 (.jump 1 [y26, y25]))) (.jump 0 [y13, y13, y15, y16, y14])))) (.ret (.tcons .tnil (.tcons y17 .tnil))))) (wrapBinds [(.ev (.bin .sub .int y3 y2)),
 (.ev (.bin .eql .int y8 (ki 1)))]
 (.ite y9 (.join 0 5 (.loop 1 [y1, y2] (wrapBinds [(.ev (.bin .lss .int y10 y11))]
 (.ite y12 (.join 2 15 (wrapBinds [(.ev (.bin .add .int y10 y11)),
 (.ev (.conv .u64 y13)),
 (.ev (.bin .shr .int y14 (.const (.v (.int .u64 1))))),
 (.ev (.conv .i64 y15)),
 (.ev (.eaddr 1 y0 y2)),
 (.ev (.ld false 1 y5 y17)),
 (.ev (.eaddr 1 y0 y16)),
 (.ev (.ld false 1 y5 y19)),
 (.callv [] y4 y5 [y18, y20] [true]),
 (.ev (.bin .lss .int y21 (ki 0))),
 (.ev (.un .not y22))]
 (.join 3 2 (.ite y23 (wrapBinds [(.ev (.bin .add .int y16 (ki 1)))]
 (.jump 3 [y24, y11])) (.jump 3 [y10, y16])) (.jump 2 [y24, y25, y16, y13, y14, y15, y16, y17, y18, y16, y19, y20, y21, y22, y23]))) (.jump 1 [y13, y14])) (.jump 0 [y10, y11, y10, y11, y12])))) (.join 0 4 (.loop 1 [y2, y5] (wrapBinds [(.ev (.bin .gtr .int y15 y10))]
 (.ite y17 (.join 2 9 (wrapBinds [(.ev (.bin .sub .int y15 (ki 1))),
 (.ev (.bin .sub .int y15 (ki 1))),
 (.ev (.eaddr 1 y0 y19)),
 (.ev (.ld false 1 y16 y20)),
 (.ev (.eaddr 1 y0 y15)),
 (.ev (.ld false 1 y16 y22)),
 (.ev (.eaddr 1 y0 y15)),
 (.ev (.sto 1 y16 y24 y21)),
 (.ev (.eaddr 1 y0 y18)),
 (.ev (.sto 1 y25 y26 y23))]
 (.jump 2 [y18, y19, y20, y21, y22, y23, y24, y26, y27])) (wrapBinds [(.ev (.bin .sub .int y15 (ki 1)))]
 (.jump 1 [y27, y26]))) (.jump 0 [y15, y15, y17, y16])))) (.ret (.tcons .tnil (.tcons y18 .tnil))))) (wrapBinds [(.ev (.bin .add .int y1 y3)),
 (.ev (.conv .u64 y10)),
 (.ev (.bin .shr .int y11 (.const (.v (.int .u64 1))))),
 (.ev (.conv .i64 y12)),
 (.ev (.bin .add .int y13 y2)),
 (.ev (.bin .gtr .int y2 y13))]
 (.join 0 2 (.ite y15 (wrapBinds [(.ev (.bin .sub .int y14 y3))]
 (.jump 0 [y16, y13])) (.jump 0 [y1, y2])) (wrapBinds [(.ev (.bin .sub .int y14 (ki 1)))]
 (.join 0 5 (.loop 1 [y16, y17] (wrapBinds [(.ev (.bin .lss .int y19 y20))]
 (.ite y21 (.join 2 17 (wrapBinds [(.ev (.bin .add .int y19 y20)),
 (.ev (.conv .u64 y22)),
 (.ev (.bin .shr .int y23 (.const (.v (.int .u64 1))))),
 (.ev (.conv .i64 y24)),
 (.ev (.bin .sub .int y18 y25)),
 (.ev (.eaddr 1 y0 y26)),
 (.ev (.ld false 1 y5 y27)),
 (.ev (.eaddr 1 y0 y25)),
 (.ev (.ld false 1 y5 y29)),
 (.callv [] y4 y5 [y28, y30] [true]),
 (.ev (.bin .lss .int y31 (ki 0))),
 (.ev (.un .not y32))]
 (.join 3 2 (.ite y33 (wrapBinds [(.ev (.bin .add .int y25 (ki 1)))]
 (.jump 3 [y34, y20])) (.jump 3 [y19, y25])) (.jump 2 [y34, y35, y25, y22, y23, y24, y25, y25, y26, y27, y28, y25, y29, y30, y31, y32, y33]))) (.jump 1 [y22, y23])) (.jump 0 [y19, y20, y19, y20, y21])))) (wrapBinds [(.ev (.bin .sub .int y14 y19)),
 (.ev (.bin .lss .int y19 y2)),
 (.ev (.guard y25 true (.bin .lss .int y2 y24))),
 (.ev (.ite y25 y26 (kb false)))]
 (.join 0 1 (.ite y27 (wrapBinds [(.wcall [] 131 y5 [y0, y19, y2, y24, y4] [])]
 (.jump 0 [(.tget 1 y28)])) (.jump 0 [y5])) (wrapBinds [(.ev (.bin .lss .int y1 y19)),
 (.ev (.guard y29 true (.bin .lss .int y19 y13))),
 (.ev (.ite y29 y30 (kb false)))]
 (.join 0 1 (.ite y31 (wrapBinds [(.wcall [] 129 y28 [y0, y1, y19, y13, y4] [])]
 (.jump 0 [(.tget 1 y32)])) (.jump 0 [y28])) (wrapBinds [(.ev (.bin .lss .int y13 y24)),
 (.ev (.guard y33 true (.bin .lss .int y24 y3))),
 (.ev (.ite y33 y34 (kb false)))]
 (.join 0 1 (.ite y35 (wrapBinds [(.wcall [] 129 y32 [y0, y13, y24, y3, y4] [])]
 (.jump 0 [(.tget 1 y36)])) (.jump 0 [y32])) (.ret (.tcons .tnil (.tcons y36 .tnil)))))))))))))))))
noncomputable def e129 : Entry := { f := 129, kn := .plain, cf := (autoCfg false WRS PAN [] [] Try.f129), own := false, ones := [true, true, true, true, true], t := t129 }
theorem ok129 : EntOk Try.prog e129 := EntOk.ofPlain Try.func129 (by kernel_rfl) (by kernel_rfl)

noncomputable def t131 : T := (wrapBinds [(.ev (.bin .sub .int y2 y1)),
 (.ev (.bin .sub .int y3 y2))]
 (.join 0 6 (.loop 1 [y6, y7, y5] (wrapBinds [(.ev (.bin .neq .int y8 y9))]
 (.ite y11 (.join 2 4 (wrapBinds [(.ev (.bin .gtr .int y8 y9))]
 (.join 3 3 (.ite y12 (wrapBinds [(.ev (.bin .sub .int y2 y8)),
 (.wcall [] 132 y10 [y0, y13, y2, y9, y4] []),
 (.ev (.bin .sub .int y8 y9))]
 (.jump 3 [y15, y9, (.tget 1 y14)])) (wrapBinds [(.ev (.bin .sub .int y2 y8)),
 (.ev (.bin .add .int y2 y9)),
 (.ev (.bin .sub .int y14 y8)),
 (.wcall [] 132 y10 [y0, y13, y15, y8, y4] []),
 (.ev (.bin .sub .int y9 y8))]
 (.jump 3 [y8, y17, (.tget 1 y16)]))) (.jump 2 [y13, y14, y12, y15]))) (.jump 1 [y12, y13, y15])) (.jump 0 [y8, y9, y8, y9, y11, y10])))) (wrapBinds [(.ev (.bin .sub .int y2 y8)),
 (.wcall [] 132 y13 [y0, y14, y2, y8, y4] [])]
 (.ret (.tcons .tnil (.tcons (.tget 1 y15) .tnil))))))
noncomputable def e131 : Entry := { f := 131, kn := .plain, cf := (autoCfg false WRS PAN [] [] Try.f131), own := false, ones := [true, true, true, true, true], t := t131 }
theorem ok131 : EntOk Try.prog e131 := EntOk.ofPlain Try.func131 (by kernel_rfl) (by kernel_rfl)

noncomputable def t132 : T := (.join 0 4 (.loop 1 [(ki 0), y5] (wrapBinds [(.ev (.bin .lss .int y6 y3))]
 (.ite y8 (.join 2 11 (wrapBinds [(.ev (.bin .add .int y1 y6)),
 (.ev (.bin .add .int y2 y6)),
 (.ev (.bin .add .int y2 y6)),
 (.ev (.eaddr 1 y0 y11)),
 (.ev (.ld false 1 y7 y12)),
 (.ev (.bin .add .int y1 y6)),
 (.ev (.eaddr 1 y0 y14)),
 (.ev (.ld false 1 y7 y15)),
 (.ev (.eaddr 1 y0 y9)),
 (.ev (.sto 1 y7 y17 y13)),
 (.ev (.eaddr 1 y0 y10)),
 (.ev (.sto 1 y18 y19 y16))]
 (.jump 2 [y9, y10, y11, y12, y13, y14, y15, y16, y17, y19, y20])) (wrapBinds [(.ev (.bin .add .int y6 (ki 1)))]
 (.jump 1 [y20, y19]))) (.jump 0 [y6, y6, y8, y7])))) (.ret (.tcons .tnil (.tcons y9 .tnil))))
noncomputable def e132 : Entry := { f := 132, kn := .plain, cf := (autoCfg false WRS PAN [] [] Try.f132), own := false, ones := [true, true, true, true, true], t := t132 }
theorem ok132 : EntOk Try.prog e132 := EntOk.ofPlain Try.func132 (by kernel_rfl) (by kernel_rfl)

noncomputable def t41 : T := (wrapBinds [(.ev (.aggN 6 y0)),
 (.call [] 52 y1 [(.cell 0 y2), (ki 1), (ki 200)] [true]),
 (.ev (.un .not y3)),
 (.ev (.guard y4 false (.cell 1 y2))),
 (.ev (.guard y4 false (.lenL y5))),
 (.call [(y4, false)] 52 y1 [y6, (ki 1), (ki 500)] [true]),
 (.ev (.guard y4 false (.un .not y7))),
 (.ev (.ite y4 (kb true) y8)),
 (.ev (.guard y9 false (.cell 2 y2))),
 (.call [(y9, false)] 52 y1 [y10, (ki 0), (ki 10000)] [true]),
 (.ev (.guard y9 false (.un .not y11))),
 (.ev (.ite y9 (kb true) y12)),
 (.ev (.guard y13 false (.cell 3 y2))),
 (.call [(y13, false)] 52 y1 [y14, (ki 0), (ki 10000)] [true]),
 (.ev (.guard y13 false (.un .not y15))),
 (.ev (.ite y13 (kb true) y16)),
 (.ev (.guard y17 false (.cell 4 y2))),
 (.call [(y17, false)] 52 y1 [y18, (ki 0), (ki 1000000000)] [true]),
 (.ev (.guard y17 false (.un .not y19))),
 (.ev (.ite y17 (kb true) y20)),
 (.ev (.guard y21 false (.cell 5 y2))),
 (.call [(y21, false)] 52 y1 [y22, (ki 0), (ki 1000000000)] [true]),
 (.ev (.guard y21 false (.un .not y23))),
 (.ev (.ite y21 (kb true) y24))]
 (.ite y25 (.ret (.tcons (ki 2) (.tcons y1 .tnil))) (wrapBinds [(.ev (.lenL (.cell 1 y2)))]
 (.join 0 2 (.loop 1 [(ki 0)] (wrapBinds [(.ev (.bin .lss .int y27 y26))]
 (.ite y28 (.join 2 16 (wrapBinds [(.ev (.eaddr 4 (.cell 1 y2) y27)),
 (.ev (.ld true 4 y1 y29)),
 (.ev (.aggN 4 y30)),
 (.call [] 52 y1 [(.cell 0 y31), (ki 1), (ki 10000)] [true]),
 (.ev (.un .not y32)),
 (.ev (.guard y33 false (.cell 1 y31))),
 (.call [(y33, false)] 52 y1 [y34, (ki 0), (ki 10000000)] [true]),
 (.ev (.guard y33 false (.un .not y35))),
 (.ev (.ite y33 (kb true) y36)),
 (.ev (.guard y37 false (.cell 2 y31))),
 (.ev (.guard y37 false (.cell 3 y31))),
 (.call [(y37, false)] 52 y1 [y38, (ki 0), y39] [true]),
 (.ev (.guard y37 false (.un .not y40))),
 (.ev (.ite y37 (kb true) y41)),
 (.ev (.guard y42 false (.cell 3 y31))),
 (.ev (.guard y42 false (.bin .gtr .int y43 (ki 36000000)))),
 (.ev (.ite y42 (kb true) y44))]
 (.ite y45 (.ret (.tcons (ki 2) (.tcons y1 .tnil))) (wrapBinds [(.ev (.bin .gtr .int y27 (ki 0)))]
 (.join 3 0 (.ite y46 (wrapBinds [(.ev (.bin .sub .int y27 (ki 1))),
 (.ev (.eaddr 4 (.cell 1 y2) y47)),
 (.ev (.ld true 4 y1 y48)),
 (.ev (.aggN 4 y49)),
 (.call [] 83 y1 [(.cell 0 y50), (.cell 0 y31)] [true]),
 (.call [] 83 y1 [(.cell 1 y50), (.cell 1 y31)] [true]),
 (.ev (.lcons (.scal y51) (.lcons (.scal y52) (.const (.lst []))))),
 (.call [] 82 y1 [y53] [true]),
 (.ev (.bin .geq .int y54 (ki 0)))]
 (.ite y55 (.ret (.tcons (ki 2) (.tcons y1 .tnil))) (.jump 3 []))) (.jump 3 [])) (.jump 2 [y29, y30, (.cell 0 y31), y32, y33, y33, y37, y37, y42, y42, y45, y46, (.cell 0 y31), (.cell 1 y31), (.cell 2 y31), (.cell 3 y31)]))))) (wrapBinds [(.ev (.bin .add .int y27 (ki 1)))]
 (.jump 1 [y45]))) (.jump 0 [y27, y28])))) (.ret (.tcons (ki 0) (.tcons y1 .tnil)))))))
noncomputable def e41 : Entry := { f := 41, kn := .plain, cf := (autoCfg true WRA PAN [] [] Try.f41), own := false, ones := [false], t := t41 }
theorem ok41 : EntOk Try.prog e41 := EntOk.ofPlain Try.func41 (by kernel_rfl) (by kernel_rfl)

noncomputable def t52 : T := (wrapBinds [(.ev (.bin .geq .int y0 y1)),
 (.ev (.guard y4 true (.bin .leq .int y0 y2))),
 (.ev (.ite y4 y5 (kb false)))]
 (.ret (.tcons y6 (.tcons y3 .tnil))))
noncomputable def e52 : Entry := { f := 52, kn := .plain, cf := (autoCfg true WRA PAN [] [] Try.f52), own := false, ones := [true, true, true], t := t52 }
theorem ok52 : EntOk Try.prog e52 := EntOk.ofPlain Try.func52 (by kernel_rfl) (by kernel_rfl)

noncomputable def t82 : T := (wrapBinds [(.ev (.lenL y0))]
 (.join 0 2 (.loop 1 [(ki 0)] (wrapBinds [(.ev (.bin .lss .int y3 y2))]
 (.ite y4 (.join 2 5 (wrapBinds [(.ev (.eaddr 1 y0 y3)),
 (.ev (.ld false 1 y1 y5)),
 (.ev (.bin .neq .int y6 (ki 0)))]
 (.ite y7 (.ret (.tcons y6 (.tcons y1 .tnil))) (.jump 2 [y6, y5, y6, y6, y7]))) (wrapBinds [(.ev (.bin .add .int y3 (ki 1)))]
 (.jump 1 [y10]))) (.jump 0 [y3, y4])))) (.ret (.tcons (ki 0) (.tcons y1 .tnil)))))
noncomputable def e82 : Entry := { f := 82, kn := .plain, cf := (autoCfg true WRA PAN [] [] Try.f82), own := false, ones := [true], t := t82 }
theorem ok82 : EntOk Try.prog e82 := EntOk.ofPlain Try.func82 (by kernel_rfl) (by kernel_rfl)

noncomputable def t83 : T := (wrapBinds [(.call [] 104 y2 [y0] [true]),
 (.call [] 104 y2 [y1] [true])]
 (.ite y3 (.ite y4 (.ret (.tcons (ki 0) (.tcons y2 .tnil))) (.ret (.tcons (ki (-1)) (.tcons y2 .tnil)))) (.ite y4 (.ret (.tcons (ki 1) (.tcons y2 .tnil))) (wrapBinds [(.ev (.bin .lss .int y0 y1))]
 (.ite y5 (.ret (.tcons (ki (-1)) (.tcons y2 .tnil))) (wrapBinds [(.ev (.bin .gtr .int y0 y1))]
 (.ite y6 (.ret (.tcons (ki 1) (.tcons y2 .tnil))) (.ret (.tcons (ki 0) (.tcons y2 .tnil))))))))))
noncomputable def e83 : Entry := { f := 83, kn := .plain, cf := (autoCfg true WRA PAN [] [] Try.f83), own := false, ones := [true, true], t := t83 }
theorem ok83 : EntOk Try.prog e83 := EntOk.ofPlain Try.func83 (by kernel_rfl) (by kernel_rfl)

noncomputable def t104 : T := (wrapBinds [(.ev (.bin .neq .int y0 y0))]
 (.ret (.tcons y2 (.tcons y1 .tnil))))
noncomputable def e104 : Entry := { f := 104, kn := .plain, cf := (autoCfg true WRA PAN [] [] Try.f104), own := false, ones := [true], t := t104 }
theorem ok104 : EntOk Try.prog e104 := EntOk.ofPlain Try.func104 (by kernel_rfl) (by kernel_rfl)

noncomputable def t56 : T := (.nilq y0 false (.ite y2 (.ret (.tcons (.const (.lst [])) (.tcons y1 .tnil))) (wrapBinds [(.ev (.const (.lst []))),
 (.ev (.app 4 32 y3 y0))]
 (.ret (.tcons y4 (.tcons y1 .tnil))))))
noncomputable def e56 : Entry := { f := 56, kn := .plain, cf := (autoCfg true WRA PAN [] [] Try.f56), own := false, ones := [true], t := t56 }
theorem ok56 : EntOk Try.prog e56 := EntOk.ofPlain Try.func56 (by kernel_rfl) (by kernel_rfl)

noncomputable def t61 : T := (wrapBinds [(.ev (.bin .neq .ptr y0 (.const (.v (.pointer none))))),
 (.ev (.guard y2 true (.nn y0))),
 (.ev (.guard y2 true (.padd 6 y3))),
 (.ev (.guard y2 true (.ld false 1 y1 y4))),
 (.ev (.ite y2 y5 (kb false)))]
 (.ret (.tcons y6 (.tcons y1 .tnil))))
noncomputable def e61 : Entry := { f := 61, kn := .plain, cf := (autoCfg true WRA PAN [] [] Try.f61), own := false, ones := [true], t := t61 }
theorem ok61 : EntOk Try.prog e61 := EntOk.ofPlain Try.func61 (by kernel_rfl) (by kernel_rfl)

noncomputable def t62 : T := (wrapBinds [(.ev (.mkptr (.cons (.scal y0) .nil))),
 (.ev (.aggN 12 y1)),
 (.ev (.mkfn 95 .tnil (.tcons y3 .tnil))),
 (.ev (.cons (.scal (.cell 0 y4)) (.cons (.scal (.cell 1 y4)) (.cons zI (.cons zI (.cons zI (.cons zI (.cons zI (.cons zI (.cons zL (.cons zI (.cons zB (.cons zI .nil))))))))))))),
 (.ev (.aggN 12 y6)),
 (.ev (.lenL (.cell 8 y4))),
 (.ev (.bin .eql .int y8 (ki 0))),
 (.call [] 52 y2 [(.cell 1 y4), (ki 0), (ki 10000000)] [true])]
 (.join 0 13 (wrapBinds [(.ev (.bin .eql .int (.cell 0 y4) (ki 1)))]
 (.join 1 11 (.ite y11 (wrapBinds [(.ev (.guard y10 true (.cell 2 y4))),
 (.call [(y10, true)] 52 y2 [y12, (ki 1), (ki 1000000)] [true]),
 (.ev (.ite y10 y13 (kb false)))]
 (.jump 1 [y9, y14, (.cell 2 y4), (.cell 3 y7), (.cell 4 y7), (.cell 5 y7), (.cell 6 y7), (.cell 7 y7), (.cell 9 y7), (.cell 10 y7), (.cell 11 y7)])) (wrapBinds [(.ev (.bin .eql .int (.cell 0 y4) (ki 2)))]
 (.join 2 11 (.ite y12 (wrapBinds [(.ev (.guard y10 true (.cell 4 y4))),
 (.callv [(y10, true)] y5 y2 [y13] [true]),
 (.ev (.ite y10 y14 (kb false))),
 (.ev (.guard y15 true (.cell 5 y4))),
 (.callv [(y15, true)] y5 y2 [y16] [true]),
 (.ev (.ite y15 y17 (kb false))),
 (.ev (.guard y18 true (.cell 4 y4))),
 (.ev (.guard y18 true (.cell 5 y4))),
 (.ev (.guard y18 true (.bin .neq .int y19 y20))),
 (.ev (.ite y18 y21 (kb false))),
 (.ev (.guard y22 true (.cell 2 y4))),
 (.call [(y22, true)] 52 y2 [y23, (ki 1), (ki 1000000)] [true]),
 (.ev (.ite y22 y24 (kb false))),
 (.ev (.guard y25 true (.cell 6 y4))),
 (.call [(y25, true)] 52 y2 [y26, (ki 1), (ki 10000)] [true]),
 (.ev (.ite y25 y27 (kb false))),
 (.ev (.guard y28 true (.cell 7 y4))),
 (.ev (.guard y28 true (.cell 1 y4))),
 (.call [(y28, true)] 52 y2 [y29, (ki 0), y30] [true]),
 (.ev (.ite y28 y31 (kb false))),
 (.ev (.guard y32 true (.cell 9 y4))),
 (.call [(y32, true)] 52 y2 [y33, (ki 0), (ki 1000000000)] [true]),
 (.ev (.ite y32 y34 (kb false))),
 (.ev (.lenL (.cell 8 y4))),
 (.ev (.bin .leq .int y36 (ki 20))),
 (.ev (.lenL (.cell 8 y4)))]
 (.join 3 3 (.loop 4 [y37, (ki 0)] (wrapBinds [(.ev (.bin .lss .int y40 y38))]
 (.ite y41 (.join 5 7 (wrapBinds [(.ev (.eaddr 1 (.cell 8 y4) y40)),
 (.ev (.ld false 1 y2 y42)),
 (.call [(y39, true)] 52 y2 [y43, (ki 1), (ki 1000)] [true]),
 (.ev (.ite y39 y44 (kb false))),
 (.ev (.guard y45 true (.bin .eql .int y40 (ki 0)))),
 (.ev (.guard y45 true (.guard y46 false (.cell 8 y4)))),
 (.ev (.guard y45 true (.guard y46 false (.bin .sub .int y40 (ki 1))))),
 (.ev (.guard y45 true (.guard y46 false (.eaddr 1 y47 y48)))),
 (.ev (.guard y45 true (.guard y46 false (.ld false 1 y2 y49)))),
 (.ev (.guard y45 true (.guard y46 false (.bin .gtr .int y43 y50)))),
 (.ev (.guard y45 true (.ite y46 (kb true) y51))),
 (.ev (.ite y45 y52 (kb false)))]
 (.jump 5 [y53, y43, y42, y43, y45, y45, y53])) (wrapBinds [(.ev (.bin .add .int y40 (ki 1)))]
 (.jump 4 [y42, y49]))) (.jump 3 [y39, y40, y41])))) (.jump 2 [y39, y35, (.cell 2 y4), (.cell 3 y7), (.cell 4 y4), (.cell 5 y4), (.cell 6 y4), (.cell 7 y4), (.cell 9 y4), (.cell 10 y7), (.cell 11 y7)]))) (wrapBinds [(.ev (.bin .eql .int (.cell 0 y4) (ki 3)))]
 (.join 3 1 (.ite y13 (.jump 3 [y13]) (wrapBinds [(.ev (.bin .eql .int (.cell 0 y4) (ki 5)))]
 (.jump 3 [y14]))) (.join 3 5 (.ite y14 (wrapBinds [(.ev (.guard y10 true (.cell 3 y4))),
 (.ev (.guard y10 true (.bin .geq .int y15 (ki 0)))),
 (.ev (.ite y10 y16 (kb false))),
 (.ev (.guard y17 true (.cell 11 y4))),
 (.call [(y17, true)] 52 y2 [y18, (ki 0), (ki 36000000)] [true]),
 (.ev (.ite y17 y19 (kb false)))]
 (.jump 3 [y20, (.cell 4 y7), (.cell 9 y7), (.cell 10 y4), (.cell 11 y4)])) (wrapBinds [(.ev (.bin .eql .int (.cell 0 y4) (ki 4)))]
 (.join 4 2 (.ite y15 (wrapBinds [(.ev (.guard y10 true (.cell 3 y4))),
 (.ev (.guard y10 true (.bin .geq .int y16 (ki 0)))),
 (.ev (.ite y10 y17 (kb false))),
 (.ev (.guard y18 true (.cell 4 y4))),
 (.callv [(y18, true)] y5 y2 [y19] [true]),
 (.ev (.ite y18 y20 (kb false))),
 (.ev (.guard y21 true (.cell 9 y4))),
 (.call [(y21, true)] 52 y2 [y22, (ki 0), (ki 1000000000)] [true]),
 (.ev (.ite y21 y23 (kb false)))]
 (.jump 4 [y24, (.cell 9 y4)])) (wrapBinds [(.ev (.bin .eql .int (.cell 0 y4) (ki 6)))]
 (.ite y16 (wrapBinds [(.ev (.guard y10 true (.cell 3 y4))),
 (.ev (.guard y10 true (.bin .geq .int y17 (ki 0)))),
 (.ev (.ite y10 y18 (kb false))),
 (.ev (.guard y19 true (.cell 4 y4))),
 (.callv [(y19, true)] y5 y2 [y20] [true]),
 (.ev (.ite y19 y21 (kb false)))]
 (.jump 4 [y22, (.cell 9 y7)])) (.ret (.tcons (kb false) (.tcons y2 .tnil)))))) (.jump 3 [y16, (.cell 4 y4), y17, (.cell 10 y7), (.cell 11 y7)])))) (.jump 2 [y9, y15, (.cell 2 y7), (.cell 3 y4), y16, (.cell 5 y7), (.cell 6 y7), (.cell 7 y7), y17, y18, y19]))))) (.jump 1 [y13, y14, y15, y16, y17, y18, y19, y20, y21, y22, y23])))) (.jump 0 [y12, y13, y11, y11, y14, y15, y16, y17, y18, y19, y20, y21, y22]))) (wrapBinds [(.ev (.ite y12 y11 (kb false))),
 (.ev (.guard y24 true (.cell 0 y4))),
 (.ev (.guard y24 true (.cell 0 y7))),
 (.ev (.guard y24 true (.bin .eql .int y25 y26))),
 (.ev (.ite y24 y27 (kb false))),
 (.ev (.guard y28 true (.cell 1 y4))),
 (.ev (.guard y28 true (.cell 1 y7))),
 (.ev (.guard y28 true (.bin .eql .int y29 y30))),
 (.ev (.ite y28 y31 (kb false))),
 (.ev (.guard y32 true (.cell 2 y4))),
 (.ev (.guard y32 true (.bin .eql .int y33 y15))),
 (.ev (.ite y32 y34 (kb false))),
 (.ev (.guard y35 true (.cell 3 y4))),
 (.ev (.guard y35 true (.bin .eql .int y36 y16))),
 (.ev (.ite y35 y37 (kb false))),
 (.ev (.guard y38 true (.cell 4 y4))),
 (.ev (.guard y38 true (.bin .eql .int y39 y17))),
 (.ev (.ite y38 y40 (kb false))),
 (.ev (.guard y41 true (.cell 5 y4))),
 (.ev (.guard y41 true (.bin .eql .int y42 y18))),
 (.ev (.ite y41 y43 (kb false))),
 (.ev (.guard y44 true (.cell 6 y4))),
 (.ev (.guard y44 true (.bin .eql .int y45 y19))),
 (.ev (.ite y44 y46 (kb false))),
 (.ev (.guard y47 true (.cell 7 y4))),
 (.ev (.guard y47 true (.bin .eql .int y48 y20))),
 (.ev (.ite y47 y49 (kb false))),
 (.ev (.guard y50 true (.cell 9 y4))),
 (.ev (.guard y50 true (.bin .eql .int y51 y21))),
 (.ev (.ite y50 y52 (kb false))),
 (.ev (.guard y53 true (.cell 10 y4))),
 (.ev (.guard y53 true (.bin .eql .bool y54 y22))),
 (.ev (.ite y53 y55 (kb false))),
 (.ev (.guard y56 true (.cell 11 y4))),
 (.ev (.guard y56 true (.bin .eql .int y57 y23))),
 (.ev (.ite y56 y58 (kb false)))]
 (.ret (.tcons y59 (.tcons y2 .tnil))))))
noncomputable def e62 : Entry := { f := 62, kn := .plain, cf := (autoCfg true WRA PAN [] [] Try.f62), own := false, ones := [true, false], t := t62 }
theorem ok62 : EntOk Try.prog e62 := EntOk.ofPlain Try.func62 (by kernel_rfl) (by kernel_rfl)

noncomputable def t95 : T := (wrapBinds [(.ev (.ld false 1 y2 y1)),
 (.ev (.nn y3)),
 (.ev (.padd 0 y4)),
 (.ev (.padd 0 y5)),
 (.ev (.ld false 1 y2 y6)),
 (.call [] 52 y2 [y0, (ki 1), y7] [true])]
 (.ret (.tcons y8 (.tcons y2 .tnil))))
noncomputable def e95 : Entry := { f := 95, kn := .plain, cf := (autoCfg true WRA PAN [] [] Try.f95), own := false, ones := [true, true], t := t95 }
theorem ok95 : EntOk Try.prog e95 := EntOk.ofPlain Try.func95 (by kernel_rfl) (by kernel_rfl)

noncomputable def t64 : T := (wrapBinds [(.ev (.aggN 12 y1)),
 (.call [] 97 y2 [y0, (.cell 2 y3)] [true]),
 (.ev (.bin .geq .int y4 (ki 0)))]
 (.pcall 96 y2 [y5, (ki 6)] [] [] [] (.ret (.tcons (ki (-1)) (.tcons y2 .tnil)))))
noncomputable def e64 : Entry := { f := 64, kn := .plain, cf := (autoCfg true WRA PAN [] [] Try.f64), own := false, ones := [true, false], t := t64 }
theorem ok64 : EntOk Try.prog e64 := EntOk.ofPlain Try.func64 (by kernel_rfl) (by kernel_rfl)

noncomputable def t66 : T := (wrapBinds [(.ev (.aggN 12 y1))]
 (.pcall 98 y2 [y0, (.cell 3 y3)] [false] [] [] (wrapBinds [(.ev (.aggN 2 y4))]
 (.pcall 99 y2 [y0, (agc 2 y5)] [true] [] [] (wrapBinds [(.ev (.bin .neq .int y6 (ki 1)))]
 (.pcall 96 y2 [y7, (ki 6)] [] [] [] (.pcall 100 y2 [y0, (agc 2 y5), (agc 12 y3)] [] [] [] (.ret (.tcons (.cell 3 y3) (.tcons y2 .tnil))))))))))
noncomputable def e66 : Entry := { f := 66, kn := .plain, cf := (autoCfg true WRA PAN [] [] Try.f66), own := false, ones := [true, false], t := t66 }
theorem ok66 : EntOk Try.prog e66 := EntOk.ofPlain Try.func66 (by kernel_rfl) (by kernel_rfl)

noncomputable def t67 : T := (wrapBinds [(.ev (.aggN 12 y1))]
 (.pcall 98 y2 [y0, (.cell 3 y3)] [false] [] [] (wrapBinds [(.ev (.aggN 2 y4))]
 (.pcall 99 y2 [y0, (agc 2 y5)] [true] [] [] (wrapBinds [(.ev (.bin .neq .int y6 (ki 3)))]
 (.pcall 96 y2 [y7, (ki 6)] [] [] [] (wrapBinds [(.ev (.nn y0)),
 (.ev (.padd 7 y9)),
 (.ev (.ld false 1 y2 y10)),
 (.ev (.eaddr 12 y11 (.cell 0 y5))),
 (.ev (.ld true 12 y2 y12)),
 (.ev (.aggN 12 y13)),
 (.ev (.bin .neq .int (.cell 4 y3) (.cell 4 y14))),
 (.ev (.guard y15 true (.cell 4 y3))),
 (.ev (.guard y15 true (.cell 5 y14))),
 (.ev (.guard y15 true (.bin .neq .int y16 y17))),
 (.ev (.ite y15 y18 (kb false)))]
 (.pcall 96 y2 [y19, (ki 7)] [] [] [] (wrapBinds [(.ev (.nn y0)),
 (.ev (.padd 7 y21)),
 (.ev (.ld false 1 y2 y22)),
 (.ev (.lenL (.cell 1 y5))),
 (.ev (.bin .sub .int y24 (ki 1))),
 (.ev (.eaddr 1 (.cell 1 y5) y25)),
 (.ev (.ld false 1 y2 y26)),
 (.ev (.eaddr 12 y23 y27)),
 (.ev (.padd 1 y28)),
 (.ev (.ld false 1 y2 y29)),
 (.ev (.bin .sub .int (.cell 1 y3) y30)),
 (.ev (.nn y0)),
 (.ev (.padd 0 y32)),
 (.ev (.padd 3 y33)),
 (.ev (.ld false 1 y2 y34)),
 (.ev (.bin .gtr .int y31 y35))]
 (.pcall 96 y2 [y36, (ki 8)] [] [] [] (wrapBinds [(.ev (.nn y0)),
 (.ev (.padd 0 y38)),
 (.ev (.padd 5 y39)),
 (.ev (.ld false 1 y2 y40)),
 (.ev (.bin .neq .int (.cell 9 y3) y41))]
 (.pcall 96 y2 [y42, (ki 7)] [] [] [] (.ret (.tcons (.cell 3 y3) (.tcons y2 .tnil)))))))))))))))
noncomputable def e67 : Entry := { f := 67, kn := .plain, cf := (autoCfg true WRA PAN [] [] Try.f67), own := false, ones := [true, false], t := t67 }
theorem ok67 : EntOk Try.prog e67 := EntOk.ofPlain Try.func67 (by kernel_rfl) (by kernel_rfl)

noncomputable def t68 : T := (wrapBinds [(.ev (.aggN 12 y1))]
 (.pcall 98 y2 [y0, (.cell 3 y3)] [false] [] [] (wrapBinds [(.ev (.aggN 2 y4))]
 (.pcall 99 y2 [y0, (agc 2 y5)] [true] [] [] (wrapBinds [(.ev (.bin .neq .int y6 (ki 4)))]
 (.pcall 96 y2 [y7, (ki 6)] [] [] [] (.pcall 100 y2 [y0, (agc 2 y5), (agc 12 y3)] [] [] [] (.ret (.tcons (.cell 3 y3) (.tcons y2 .tnil))))))))))
noncomputable def e68 : Entry := { f := 68, kn := .plain, cf := (autoCfg true WRA PAN [] [] Try.f68), own := false, ones := [true, false], t := t68 }
theorem ok68 : EntOk Try.prog e68 := EntOk.ofPlain Try.func68 (by kernel_rfl) (by kernel_rfl)

noncomputable def t69 : T := (wrapBinds [(.ev (.aggN 12 y1))]
 (.pcall 98 y2 [y0, (.cell 3 y3)] [false] [] [] (wrapBinds [(.ev (.aggN 2 y4))]
 (.pcall 99 y2 [y0, (agc 2 y5)] [true] [] [] (wrapBinds [(.ev (.bin .neq .int y6 (ki 1)))]
 (.pcall 96 y2 [y7, (ki 6)] [] [] [] (wrapBinds [(.ev (.nn y0)),
 (.ev (.padd 7 y9)),
 (.ev (.ld false 1 y2 y10)),
 (.ev (.eaddr 12 y11 (.cell 0 y5))),
 (.ev (.padd 4 y12)),
 (.ev (.ld false 1 y2 y13)),
 (.ev (.bin .neq .int (.cell 4 y3) y14))]
 (.pcall 96 y2 [y15, (ki 7)] [] [] [] (.ret (.tcons (.cell 3 y3) (.tcons y2 .tnil)))))))))))
noncomputable def e69 : Entry := { f := 69, kn := .plain, cf := (autoCfg true WRA PAN [] [] Try.f69), own := false, ones := [true, false], t := t69 }
theorem ok69 : EntOk Try.prog e69 := EntOk.ofPlain Try.func69 (by kernel_rfl) (by kernel_rfl)

noncomputable def t96 : T := (.join 0 0 (.ite y0 (wrapBinds [(.ev (.cons (.scal y1) .nil))]
 (.pan (.m4 .isifc (.ifc 109 y3) .nil .nil .nil) y2 [] [])) (.jump 0 [])) (.ret (.tcons .tnil (.tcons y2 .tnil))))
noncomputable def e96 : Entry := { f := 96, kn := .plain, cf := (autoCfg true WRA PAN [] [] Try.f96), own := false, ones := [true, true], t := t96 }
theorem ok96 : EntOk Try.prog e96 := EntOk.ofPlain Try.func96 (by kernel_rfl) (by kernel_rfl)

noncomputable def t97 : T := (wrapBinds [(.ev (.mkptr (.cons (.scal y1) .nil))),
 (.ev (.nn y0)),
 (.ev (.padd 7 y4)),
 (.ev (.ld false 1 y2 y5)),
 (.ev (.mkfn 110 .tnil (.tcons y3 .tnil))),
 (.call [] 86 y2 [y6, y7] [true]),
 (.ev (.bin .lss .int y8 (ki 0)))]
 (.ite y9 (.ret (.tcons (ki (-1)) (.tcons y2 .tnil))) (wrapBinds [(.ev (.nn y0)),
 (.ev (.padd 7 y10)),
 (.ev (.ld false 1 y2 y11)),
 (.ev (.eaddr 12 y12 y8)),
 (.ev (.padd 1 y13)),
 (.ev (.ld false 1 y2 y14))]
 (.ret (.tcons y15 (.tcons y2 .tnil))))))
noncomputable def e97 : Entry := { f := 97, kn := .plain, cf := (autoCfg true WRA PAN [] [] Try.f97), own := false, ones := [true, true], t := t97 }
theorem ok97 : EntOk Try.prog e97 := EntOk.ofPlain Try.func97 (by kernel_rfl) (by kernel_rfl)

noncomputable def t86 : T := (wrapBinds [(.ev (.lenL y0))]
 (.join 0 2 (.loop 1 [(ki 0)] (wrapBinds [(.ev (.bin .lss .int y4 y3))]
 (.ite y5 (.join 2 3 (wrapBinds [(.ev (.eaddr 12 y0 y4)),
 (.ev (.ld true 12 y2 y6)),
 (.callv [] y1 y2 [y7] [true])]
 (.ite y8 (.ret (.tcons y4 (.tcons y2 .tnil))) (.jump 2 [y6, y7, y8]))) (wrapBinds [(.ev (.bin .add .int y4 (ki 1)))]
 (.jump 1 [y9]))) (.jump 0 [y4, y5])))) (.ret (.tcons (ki (-1)) (.tcons y2 .tnil)))))
noncomputable def e86 : Entry := { f := 86, kn := .plain, cf := (autoCfg true WRA PAN [] [] Try.f86), own := false, ones := [true, true], t := t86 }
theorem ok86 : EntOk Try.prog e86 := EntOk.ofPlain Try.func86 (by kernel_rfl) (by kernel_rfl)

noncomputable def t110 : T := (wrapBinds [(.ev (.aggN 12 y0)),
 (.ev (.bin .eql .int (.cell 0 y3) (ki 1))),
 (.ev (.guard y4 true (.cell 2 y3))),
 (.ev (.guard y4 true (.ld false 1 y2 y1))),
 (.ev (.guard y4 true (.bin .eql .int y5 y6))),
 (.ev (.ite y4 y7 (kb false)))]
 (.ret (.tcons y8 (.tcons y2 .tnil))))
noncomputable def e110 : Entry := { f := 110, kn := .plain, cf := (autoCfg true WRA PAN [] [] Try.f110), own := false, ones := [false, true], t := t110 }
theorem ok110 : EntOk Try.prog e110 := EntOk.ofPlain Try.func110 (by kernel_rfl) (by kernel_rfl)

noncomputable def t81 : T := (wrapBinds [(.ev (.aggN 6 y0)),
 (.ev (.lenL (.cell 1 y4)))]
 (.join 0 3 (.loop 1 [(ki (-1)), (ki 0)] (wrapBinds [(.ev (.bin .lss .int y7 y5))]
 (.ite y8 (.join 2 11 (wrapBinds [(.ev (.eaddr 4 (.cell 1 y4) y7)),
 (.ev (.ld true 4 y3 y9)),
 (.ev (.aggN 4 y10)),
 (.ev (.bin .eql .int (.cell 0 y11) y1)),
 (.ev (.guard y12 true (.cell 1 y11))),
 (.ev (.guard y12 true (.bin .leq .int y13 y2))),
 (.ev (.ite y12 y14 (kb false)))]
 (.join 3 1 (.ite y15 (.jump 3 [y7]) (.jump 3 [y6])) (.jump 2 [y16, y9, y10, (.cell 0 y11), y12, y12, y15, (.cell 0 y11), (.cell 1 y11), (.cell 2 y11), (.cell 3 y11)]))) (wrapBinds [(.ev (.bin .add .int y7 (ki 1)))]
 (.jump 1 [y9, y20]))) (.jump 0 [y6, y7, y8])))) (wrapBinds [(.ev (.bin .geq .int y6 (ki 0)))]
 (.ret (.tcons (.tcons y6 (.tcons y9 .tnil)) (.tcons y3 .tnil))))))
noncomputable def e81 : Entry := { f := 81, kn := .plain, cf := (autoCfg true WRA PAN [] [] Try.f81), own := false, ones := [false, true, true], t := t81 }
theorem ok81 : EntOk Try.prog e81 := EntOk.ofPlain Try.func81 (by kernel_rfl) (by kernel_rfl)

noncomputable def t98 : T := (wrapBinds [(.ev (.nn y0)),
 (.ev (.padd 8 y3)),
 (.ev (.ld false 1 y2 y4)),
 (.ev (.lenL y5)),
 (.ev (.bin .geq .int y1 y6))]
 (.pcall 96 y2 [y7, (ki 5)] [] [] [] (wrapBinds [(.ev (.nn y0)),
 (.ev (.padd 8 y9)),
 (.ev (.ld false 1 y2 y10)),
 (.ev (.eaddr 2 y11 y1)),
 (.ev (.ld true 2 y2 y12)),
 (.ev (.aggN 2 y13))]
 (.ret (.tcons (agc 2 y14) (.tcons y2 .tnil))))))
noncomputable def e98 : Entry := { f := 98, kn := .plain, cf := (autoCfg true WRA PAN [] [] Try.f98), own := false, ones := [true, true], t := t98 }
theorem ok98 : EntOk Try.prog e98 := EntOk.ofPlain Try.func98 (by kernel_rfl) (by kernel_rfl)

noncomputable def t99 : T := (wrapBinds [(.ev (.aggN 2 y1)),
 (.ev (.nn y0)),
 (.ev (.padd 7 y4)),
 (.ev (.ld false 1 y2 y5)),
 (.ev (.lenL (.cell 1 y3))),
 (.ev (.bin .sub .int y7 (ki 1))),
 (.ev (.eaddr 1 (.cell 1 y3) y8)),
 (.ev (.ld false 1 y2 y9)),
 (.ev (.eaddr 12 y6 y10)),
 (.ev (.padd 1 y11)),
 (.ev (.ld false 1 y2 y12)),
 (.call [] 73 y2 [y0, (agc 2 y3), y13] [true])]
 (.ret (.tcons y14 (.tcons y2 .tnil))))
noncomputable def e99 : Entry := { f := 99, kn := .plain, cf := (autoCfg true WRA PAN [] [] Try.f99), own := false, ones := [true, false], t := t99 }
theorem ok99 : EntOk Try.prog e99 := EntOk.ofPlain Try.func99 (by kernel_rfl) (by kernel_rfl)

noncomputable def t73 : T := (wrapBinds [(.ev (.aggN 2 y1)),
 (.ev (.lenL (.cell 1 y4)))]
 (.join 0 3 (.loop 1 [(ki 1), (ki 0)] (wrapBinds [(.ev (.bin .lss .int y7 y5))]
 (.ite y8 (.join 2 27 (wrapBinds [(.ev (.eaddr 1 (.cell 1 y4) y7)),
 (.ev (.ld false 1 y3 y9)),
 (.ev (.nn y0)),
 (.ev (.padd 7 y11)),
 (.ev (.ld false 1 y3 y12)),
 (.ev (.eaddr 12 y13 y10)),
 (.ev (.ld true 12 y3 y14)),
 (.ev (.aggN 12 y15)),
 (.ev (.bin .gtr .int (.cell 1 y16) y2))]
 (.ite y17 (.jump 0 [y6, y7, y8]) (.join 3 3 (wrapBinds [(.ev (.bin .eql .int (.cell 0 y16) (ki 6)))]
 (.join 4 1 (.ite y18 (.jump 4 [(ki 2)]) (wrapBinds [(.ev (.bin .eql .int (.cell 0 y16) (ki 3)))]
 (.join 5 1 (.ite y19 (wrapBinds [(.ev (.bin .sub .int y2 (.cell 1 y16))),
 (.ev (.nn y0)),
 (.ev (.padd 0 y21)),
 (.ev (.padd 3 y22)),
 (.ev (.ld false 1 y3 y23)),
 (.ev (.bin .gtr .int y20 y24))]
 (.join 6 1 (.ite y25 (.jump 6 [(ki 5)]) (.jump 6 [(ki 3)])) (.jump 5 [y26]))) (wrapBinds [(.ev (.bin .eql .int (.cell 0 y16) (ki 4)))]
 (.join 6 1 (.ite y20 (.jump 6 [(ki 4)]) (wrapBinds [(.ev (.bin .eql .int (.cell 0 y16) (ki 5)))]
 (.join 7 1 (.ite y21 (.jump 7 [(ki 5)]) (.jump 7 [y6])) (.jump 6 [y22])))) (.jump 5 [y21])))) (.jump 4 [y20])))) (.jump 3 [y19, y18, y18]))) (.jump 2 [y18, y10, y9, y10, y11, y12, y13, y10, y14, y15, (.cell 1 y16), y17, (.cell 0 y16), y19, y20, (.cell 0 y16), (.cell 1 y16), (.cell 2 y16), (.cell 3 y16), (.cell 4 y16), (.cell 5 y16), (.cell 6 y16), (.cell 7 y16), (.cell 8 y16), (.cell 9 y16), (.cell 10 y16), (.cell 11 y16)])))) (wrapBinds [(.ev (.bin .add .int y7 (ki 1)))]
 (.jump 1 [y9, y36]))) (.jump 0 [y6, y7, y8])))) (.ret (.tcons y6 (.tcons y3 .tnil)))))
noncomputable def e73 : Entry := { f := 73, kn := .plain, cf := (autoCfg true WRA PAN [] [] Try.f73), own := false, ones := [true, false, true], t := t73 }
theorem ok73 : EntOk Try.prog e73 := EntOk.ofPlain Try.func73 (by kernel_rfl) (by kernel_rfl)

noncomputable def t100 : T := (wrapBinds [(.ev (.aggN 2 y1)),
 (.ev (.aggN 12 y2)),
 (.ev (.nn y0)),
 (.ev (.padd 7 y6)),
 (.ev (.ld false 1 y3 y7)),
 (.ev (.eaddr 12 y8 (.cell 0 y4))),
 (.ev (.ld true 12 y3 y9)),
 (.ev (.aggN 12 y10)),
 (.ev (.nn y0)),
 (.ev (.padd 0 y12)),
 (.ev (.ld true 6 y3 y13)),
 (.call [] 81 y3 [y14, (.cell 6 y11), (.cell 7 y11)] [true, true]),
 (.ev (.nn y0)),
 (.ev (.padd 0 y16)),
 (.ev (.padd 1 y17)),
 (.ev (.ld false 1 y3 y18)),
 (.ev (.eaddr 4 y19 (.tget 0 y15))),
 (.ev (.ld true 4 y3 y20)),
 (.ev (.aggN 4 y21)),
 (.ev (.guard (.cell 10 y5) true (.cell 11 y5))),
 (.ev (.guard (.cell 10 y5) true (.cell 2 y22))),
 (.ev (.guard (.cell 10 y5) true (.cell 3 y22))),
 (.call [((.cell 10 y5), true)] 52 y3 [y23, y24, y25] [true]),
 (.ev (.guard (.cell 10 y5) true (.un .not y26))),
 (.ev (.ite (.cell 10 y5) y27 (kb false))),
 (.ev (.guard y28 false (.cell 10 y5))),
 (.ev (.guard y28 false (.un .not y29))),
 (.ev (.guard y28 false (.guard y30 true (.cell 11 y5)))),
 (.ev (.guard y28 false (.guard y30 true (.bin .neq .int y31 (ki 0))))),
 (.ev (.guard y28 false (.ite y30 y32 (kb false)))),
 (.ev (.ite y28 (kb true) y33))]
 (.pcall 96 y3 [y34, (ki 7)] [] [] [] (.ret (.tcons .tnil (.tcons y3 .tnil)))))
noncomputable def e100 : Entry := { f := 100, kn := .plain, cf := (autoCfg true WRA PAN [] [] Try.f100), own := false, ones := [true, false, false], t := t100 }
theorem ok100 : EntOk Try.prog e100 := EntOk.ofPlain Try.func100 (by kernel_rfl) (by kernel_rfl)

noncomputable def t70 : T := (.nilq y0 false (.ite y2 (.ret (.tcons (.const (.lst [])) (.tcons y1 .tnil))) (wrapBinds [(.ev (.const (.lst []))),
 (.ev (.app 1 8 y3 y0))]
 (.ret (.tcons y4 (.tcons y1 .tnil))))))
noncomputable def e70 : Entry := { f := 70, kn := .plain, cf := (autoCfg true WRA PAN [] [] Try.f70), own := false, ones := [true], t := t70 }
theorem ok70 : EntOk Try.prog e70 := EntOk.ofPlain Try.func70 (by kernel_rfl) (by kernel_rfl)

noncomputable def t74 : T := (wrapBinds [(.call [] 61 y3 [y0] [true]),
 (.ev (.un .not y4))]
 (.ite y5 (.ret (.tcons (ki 1) (.tcons y3 .tnil))) (wrapBinds [(.ev (.nn y0)),
 (.ev (.padd 0 y6)),
 (.ev (.padd 0 y7)),
 (.ev (.ld false 1 y3 y8)),
 (.call [] 52 y3 [y1, (ki 1), y9] [true]),
 (.ev (.un .not y10)),
 (.call [(y11, false)] 52 y3 [y2, (ki 0), (ki 10000000)] [true]),
 (.ev (.guard y11 false (.un .not y12))),
 (.ev (.ite y11 (kb true) y13))]
 (.ite y14 (.ret (.tcons (ki 2) (.tcons y3 .tnil))) (.ret (.tcons (ki 0) (.tcons y3 .tnil)))))))
noncomputable def e74 : Entry := { f := 74, kn := .plain, cf := (autoCfg true WRA PAN [] [] Try.f74), own := false, ones := [true, true, true], t := t74 }
theorem ok74 : EntOk Try.prog e74 := EntOk.ofPlain Try.func74 (by kernel_rfl) (by kernel_rfl)

noncomputable def t75 : T := (wrapBinds [(.ev (.nn y0)),
 (.ev (.padd 8 y4)),
 (.ev (.ld false 1 y3 y5)),
 (.ev (.lenL y6))]
 (.join 0 3 (.loop 1 [(.const (.lst [])), (ki 0)] (wrapBinds [(.ev (.bin .lss .int y9 y7))]
 (.ite y10 (.join 2 9 (wrapBinds [(.ev (.eaddr 2 y6 y9)),
 (.ev (.ld true 2 y3 y11)),
 (.ev (.aggN 2 y12)),
 (.call [] 72 y3 [y0, (agc 2 y13), y2] [true]),
 (.ev (.guard y14 true (.nn y0))),
 (.ev (.guard y14 true (.padd 7 y15))),
 (.ev (.guard y14 true (.ld false 1 y3 y16))),
 (.ev (.guard y14 true (.cell 0 y13))),
 (.ev (.guard y14 true (.eaddr 12 y17 y18))),
 (.ev (.guard y14 true (.padd 5 y19))),
 (.ev (.guard y14 true (.ld false 1 y3 y20))),
 (.ev (.guard y14 true (.bin .eql .int y21 y1))),
 (.ev (.ite y14 y22 (kb false)))]
 (.join 3 1 (.ite y23 (wrapBinds [(.ev (.lcons (.aggN 2 (agc 2 y13)) (.const (.lst [])))),
 (.ev (.app 2 32 y8 y24))]
 (.jump 3 [y25])) (.jump 3 [y8])) (.jump 2 [y24, y11, y12, (agc 2 y13), y14, y14, y23, (.cell 0 y13), (.cell 1 y13)]))) (wrapBinds [(.ev (.bin .add .int y9 (ki 1)))]
 (.jump 1 [y11, y20]))) (.jump 0 [y8, y9, y10])))) (.ret (.tcons y8 (.tcons y3 .tnil)))))
noncomputable def e75 : Entry := { f := 75, kn := .plain, cf := (autoCfg true WRA PAN [] [] Try.f75), own := false, ones := [true, true, true], t := t75 }
theorem ok75 : EntOk Try.prog e75 := EntOk.ofPlain Try.func75 (by kernel_rfl) (by kernel_rfl)

noncomputable def t72 : T := (wrapBinds [(.ev (.aggN 2 y1)),
 (.ev (.nn y0)),
 (.ev (.padd 7 y5)),
 (.ev (.ld false 1 y3 y6)),
 (.ev (.eaddr 12 y7 (.cell 0 y4))),
 (.ev (.padd 1 y8)),
 (.ev (.ld false 1 y3 y9)),
 (.ev (.bin .leq .int y10 y2))]
 (.ret (.tcons y11 (.tcons y3 .tnil))))
noncomputable def e72 : Entry := { f := 72, kn := .plain, cf := (autoCfg true WRA PAN [] [] Try.f72), own := false, ones := [true, false, true], t := t72 }
theorem ok72 : EntOk Try.prog e72 := EntOk.ofPlain Try.func72 (by kernel_rfl) (by kernel_rfl)

noncomputable def t76 : T := (wrapBinds [(.ev (.aggN 2 y1)),
 (.call [] 73 y3 [y0, (agc 2 y4), y2] [true]),
 (.ev (.bin .neq .int y5 (ki 3))),
 (.ev (.guard y6 true (.bin .neq .int y5 (ki 5)))),
 (.ev (.ite y6 y7 (kb false)))]
 (.ite y8 (.ret (.tcons (.tcons (ki 0) (.tcons (kb false) .tnil)) (.tcons y3 .tnil))) (wrapBinds [(.call [] 84 y3 [y0, (agc 2 y4), y2] [false, true]),
 (.ev (.aggN 12 (.tget 0 y9))),
 (.ev (.guard (.tget 1 y9) true (.cell 10 y10))),
 (.ev (.ite (.tget 1 y9) y11 (kb false)))]
 (.ret (.tcons (.tcons (.cell 11 y10) (.tcons y12 .tnil)) (.tcons y3 .tnil))))))
noncomputable def e76 : Entry := { f := 76, kn := .plain, cf := (autoCfg true WRA PAN [] [] Try.f76), own := false, ones := [true, false, true], t := t76 }
theorem ok76 : EntOk Try.prog e76 := EntOk.ofPlain Try.func76 (by kernel_rfl) (by kernel_rfl)

noncomputable def t84 : T := (wrapBinds [(.ev (.aggN 2 y1)),
 (.ev (.lenL (.cell 1 y4)))]
 (.join 0 15 (.loop 1 [(kb false), (ki 0), (ki 0), (ki 0), (ki 0), (ki 0), (ki 0), (ki 0), (ki 0), (ki 0), (.const (.lst [])), (ki 0), (kb false), (ki 0)] (wrapBinds [(.ev (.bin .lss .int y7 y5))]
 (.ite y20 (.join 2 38 (wrapBinds [(.ev (.eaddr 1 (.cell 1 y4) y7)),
 (.ev (.ld false 1 y3 y21)),
 (.ev (.nn y0)),
 (.ev (.padd 7 y23)),
 (.ev (.ld false 1 y3 y24)),
 (.ev (.eaddr 12 y25 y22)),
 (.ev (.ld true 12 y3 y26)),
 (.ev (.aggN 12 y27)),
 (.ev (.bin .leq .int (.cell 1 y28) y2)),
 (.ev (.guard y29 true (.cell 0 y28))),
 (.ev (.guard y29 true (.bin .eql .int y30 (ki 3)))),
 (.ev (.guard y29 true (.guard y31 false (.cell 0 y28)))),
 (.ev (.guard y29 true (.guard y31 false (.bin .eql .int y32 (ki 5))))),
 (.ev (.guard y29 true (.ite y31 (kb true) y33))),
 (.ev (.ite y29 y34 (kb false)))]
 (.join 3 13 (.ite y35 (.jump 3 [(kb true), (.cell 0 y28), (.cell 1 y28), (.cell 2 y28), (.cell 3 y28), (.cell 4 y28), (.cell 5 y28), (.cell 6 y28), (.cell 7 y28), (.cell 8 y28), (.cell 9 y28), (.cell 10 y28), (.cell 11 y28)]) (.jump 3 [y6, y8, y9, y10, y11, y12, y13, y14, y15, y16, y17, y18, y19])) (.jump 2 [y36, y22, y21, y22, y23, y24, y25, y22, y26, y27, (.cell 1 y28), y29, y29, y35, y37, y38, y39, y40, y41, y42, y43, y44, y45, y46, y47, y48, (.cell 0 y28), (.cell 1 y28), (.cell 2 y28), (.cell 3 y28), (.cell 4 y28), (.cell 5 y28), (.cell 6 y28), (.cell 7 y28), (.cell 8 y28), (.cell 9 y28), (.cell 10 y28), (.cell 11 y28)]))) (wrapBinds [(.ev (.bin .add .int y7 (ki 1)))]
 (.jump 1 [y21, y59, y35, y36, y37, y38, y39, y40, y41, y42, y43, y44, y45, y46]))) (.jump 0 [y6, y7, y20, y8, y9, y10, y11, y12, y13, y14, y15, y16, y17, y18, y19])))) (.ret (.tcons (.tcons (.cons y9 (.cons y10 (.cons y11 (.cons y12 (.cons y13 (.cons y14 (.cons y15 (.cons y16 (.cons y17 (.cons y18 (.cons y19 (.cons y20 .nil)))))))))))) (.tcons y6 .tnil)) (.tcons y3 .tnil)))))
noncomputable def e84 : Entry := { f := 84, kn := .plain, cf := (autoCfg true WRA PAN [] [] Try.f84), own := false, ones := [true, false, true], t := t84 }
theorem ok84 : EntOk Try.prog e84 := EntOk.ofPlain Try.func84 (by kernel_rfl) (by kernel_rfl)

noncomputable def t77 : T := (wrapBinds [(.ev (.mkptr (.cons (.scal y0) .nil))),
 (.ev (.mkptr (.cons (.scal y1) .nil))),
 (.ev (.mkfn 101 .tnil (.tcons y3 (.tcons y4 .tnil))))]
 (.ret (.tcons y5 (.tcons y2 .tnil))))
noncomputable def e77 : Entry := { f := 77, kn := .plain, cf := (autoCfg true WRA PAN [] [] Try.f77), own := false, ones := [true, true], t := t77 }
theorem ok77 : EntOk Try.prog e77 := EntOk.ofPlain Try.func77 (by kernel_rfl) (by kernel_rfl)

noncomputable def t17 : T := (wrapBinds [(.call [] 52 y2 [y0, (ki 0), (ki 1000000000000)] [true]),
 (.ev (.un .not y3)),
 (.call [(y4, false)] 53 y2 [y1] [true]),
 (.ev (.guard y4 false (.un .not y5))),
 (.ev (.ite y4 (kb true) y6))]
 (.ite y7 (.ret (.tcons (.tcons (.const (.lst [])) (.tcons (ki 2) .tnil)) (.tcons y2 .tnil))) (wrapBinds [(.call [] 54 y2 [y0, y1] [true])]
 (.ret (.tcons (.tcons y8 (.tcons (ki 0) .tnil)) (.tcons y2 .tnil))))))
noncomputable def e17 : Entry := { f := 17, kn := .plain, cf := (autoCfg true WRA PAN [] [] Try.f17), own := false, ones := [true, true], t := t17 }
theorem ok17 : EntOk Try.prog e17 := EntOk.ofPlain Try.func17 (by kernel_rfl) (by kernel_rfl)

noncomputable def t53 : T := (wrapBinds [(.ev (.lenL y0)),
 (.call [] 52 y1 [y2, (ki 1), (ki 100)] [true]),
 (.call [(y3, true)] 79 y1 [y0, (.const (.fn 90 [] []))] [true]),
 (.ev (.guard y3 true (.un .not y4))),
 (.ev (.ite y3 y5 (kb false))),
 (.call [(y6, true)] 91 y1 [y0] [true]),
 (.ev (.guard y6 true (.bin .gtr .int y7 (ki 0)))),
 (.ev (.ite y6 y8 (kb false)))]
 (.ret (.tcons y9 (.tcons y1 .tnil))))
noncomputable def e53 : Entry := { f := 53, kn := .plain, cf := (autoCfg true WRA PAN [] [] Try.f53), own := false, ones := [true], t := t53 }
theorem ok53 : EntOk Try.prog e53 := EntOk.ofPlain Try.func53 (by kernel_rfl) (by kernel_rfl)

noncomputable def t79 : T := (wrapBinds [(.call [] 103 y2 [y0, y1] [true]),
 (.ev (.bin .geq .int y3 (ki 0)))]
 (.ret (.tcons y4 (.tcons y2 .tnil))))
noncomputable def e79 : Entry := { f := 79, kn := .plain, cf := (autoCfg true WRA PAN [] [] Try.f79), own := false, ones := [true, true], t := t79 }
theorem ok79 : EntOk Try.prog e79 := EntOk.ofPlain Try.func79 (by kernel_rfl) (by kernel_rfl)

noncomputable def t90 : T := (wrapBinds [(.call [] 52 y1 [y0, (ki 0), (ki 1000000)] [true]),
 (.ev (.un .not y2))]
 (.ret (.tcons y3 (.tcons y1 .tnil))))
noncomputable def e90 : Entry := { f := 90, kn := .plain, cf := (autoCfg true WRA PAN [] [] Try.f90), own := false, ones := [true], t := t90 }
theorem ok90 : EntOk Try.prog e90 := EntOk.ofPlain Try.func90 (by kernel_rfl) (by kernel_rfl)

noncomputable def t91 : T := (wrapBinds [(.ev (.lenL y0)),
 (.ev (.bin .lss .int y2 (ki 1)))]
 (.join 0 0 (.ite y3 (.pan (.m4 .isifc (.ifc 9 (.const (.v (.string ⟨#[115, 108, 105, 99, 101, 115, 46, 77, 97, 120, 58, 32, 101, 109, 112, 116, 121, 32, 108, 105, 115, 116]⟩)))) .nil .nil .nil) y1 [] []) (.jump 0 [])) (wrapBinds [(.ev (.eaddr 1 y0 (ki 0))),
 (.ev (.ld false 1 y1 y4))]
 (.join 0 5 (.loop 1 [y5, (ki 1)] (wrapBinds [(.ev (.lenL y0)),
 (.ev (.bin .lss .int y7 y8))]
 (.ite y9 (.join 2 4 (wrapBinds [(.ev (.eaddr 1 y0 y7)),
 (.ev (.ld false 1 y1 y10)),
 (.ev (.mm true y6 y11))]
 (.jump 2 [y12, y10, y11, y12])) (wrapBinds [(.ev (.bin .add .int y7 (ki 1)))]
 (.jump 1 [y10, y14]))) (.jump 0 [y6, y7, y7, y8, y9])))) (.ret (.tcons y6 (.tcons y1 .tnil)))))))
noncomputable def e91 : Entry := { f := 91, kn := .plain, cf := (autoCfg true WRA PAN [] [] Try.f91), own := false, ones := [true], t := t91 }
theorem ok91 : EntOk Try.prog e91 := EntOk.ofPlain Try.func91 (by kernel_rfl) (by kernel_rfl)

noncomputable def t103 : T := (wrapBinds [(.ev (.lenL y0))]
 (.join 0 2 (.loop 1 [(ki 0)] (wrapBinds [(.ev (.bin .lss .int y4 y3))]
 (.ite y5 (.join 2 3 (wrapBinds [(.ev (.eaddr 1 y0 y4)),
 (.ev (.ld false 1 y2 y6)),
 (.callv [] y1 y2 [y7] [true])]
 (.ite y8 (.ret (.tcons y4 (.tcons y2 .tnil))) (.jump 2 [y6, y7, y8]))) (wrapBinds [(.ev (.bin .add .int y4 (ki 1)))]
 (.jump 1 [y9]))) (.jump 0 [y4, y5])))) (.ret (.tcons (ki (-1)) (.tcons y2 .tnil)))))
noncomputable def e103 : Entry := { f := 103, kn := .plain, cf := (autoCfg true WRA PAN [] [] Try.f103), own := false, ones := [true, true], t := t103 }
theorem ok103 : EntOk Try.prog e103 := EntOk.ofPlain Try.func103 (by kernel_rfl) (by kernel_rfl)

noncomputable def t93 : T := (wrapBinds [(.call [] 83 y2 [y1, y0] [true])]
 (.ret (.tcons y3 (.tcons y2 .tnil))))
noncomputable def e93 : Entry := { f := 93, kn := .plain, cf := (autoCfg true WRA PAN [] [] Try.f93), own := false, ones := [true, true], t := t93 }
theorem ok93 : EntOk Try.prog e93 := EntOk.ofPlain Try.func93 (by kernel_rfl) (by kernel_rfl)

noncomputable def t109 : T := (wrapBinds [(.ev (.ld false 1 y4 y2)),
 (.ev (.ld false 1 y4 y3)),
 (.ev (.eaddr 1 y6 y0)),
 (.ev (.ld false 1 y4 y7)),
 (.ev (.ld false 1 y4 y3)),
 (.ev (.eaddr 1 y9 y1)),
 (.ev (.ld false 1 y4 y10)),
 (.callv [] y5 y4 [y8, y11] [true])]
 (.ret (.tcons y12 (.tcons y4 .tnil))))
noncomputable def e109 : Entry := { f := 109, kn := .plain, cf := (autoCfg true WRA PAN [] [] Try.f109), own := false, ones := [true, true, true, true], t := t109 }
theorem ok109 : EntOk Try.prog e109 := EntOk.ofPlain Try.func109 (by kernel_rfl) (by kernel_rfl)

noncomputable def t19 : T := (wrapBinds [(.ev (.lenL y0)),
 (.ev (.lenL y1)),
 (.ev (.bin .neq .int y3 y4))]
 (.ite y5 (.ret (.tcons (kb false) (.tcons y2 .tnil))) (.join 0 4 (.loop 1 [(ki 0)] (wrapBinds [(.ev (.lenL y0)),
 (.ev (.bin .lss .int y6 y7))]
 (.ite y8 (.join 2 5 (wrapBinds [(.ev (.eaddr 1 y0 y6)),
 (.ev (.ld false 1 y2 y9)),
 (.ev (.eaddr 1 y1 y6)),
 (.ev (.ld false 1 y2 y11)),
 (.ev (.bin .neq .int y10 y12))]
 (.ite y13 (.ret (.tcons (kb false) (.tcons y2 .tnil))) (.jump 2 [y9, y10, y11, y12, y13]))) (wrapBinds [(.ev (.bin .add .int y6 (ki 1)))]
 (.jump 1 [y14]))) (.jump 0 [y6, y6, y7, y8])))) (.ret (.tcons (kb true) (.tcons y2 .tnil))))))
noncomputable def e19 : Entry := { f := 19, kn := .plain, cf := (autoCfg true WRA PAN [] [] Try.f19), own := false, ones := [true, true], t := t19 }
theorem ok19 : EntOk Try.prog e19 := EntOk.ofPlain Try.func19 (by kernel_rfl) (by kernel_rfl)

noncomputable def t44 : T := (wrapBinds [(.ev (.cons (.scal (ki 5)) (.cons zI (.cons (.scal (ki 1000)) (.cons (.scal (ki 5000)) .nil))))),
 (.ev (.cons (.scal (ki 5)) (.cons (.scal (ki 100)) (.cons (.scal (ki 2000)) (.cons (.scal (ki 9000)) .nil))))),
 (.ev (.lcons (.aggN 4 y1) (.lcons (.aggN 4 y2) (.const (.lst []))))),
 (.ev (.cons (.scal (ki 3)) (.cons (.scal y3) (.cons (.scal (ki 30)) (.cons (.scal (ki 60)) (.cons (.scal (ki 500)) (.cons (.scal (ki 2000)) .nil))))))),
 (.ev (.aggN 6 y4))]
 (.ret (.tcons (agc 6 y5) (.tcons y0 .tnil))))
noncomputable def e44 : Entry := { f := 44, kn := .plain, cf := (autoCfg true WRA PAN [] [] Try.f44), own := false, ones := [], t := t44 }
theorem ok44 : EntOk Try.prog e44 := EntOk.ofPlain Try.func44 (by kernel_rfl) (by kernel_rfl)

noncomputable def tabKnown : Tab := [e16, e24, e26, e63, e65, e32, e101, e54, e92, e108, e122, e128, e129, e131, e132, e41, e52, e82, e83, e104, e56, e61, e62, e95, e64, e66, e67, e68, e69, e96, e97, e86, e110, e81, e98, e99, e73, e100, e70, e74, e75, e72, e76, e84, e77, e17, e53, e79, e90, e91, e103, e93, e109, e19, e44]

theorem tabKnown_ok : ∀ e, e ∈ tabKnown → EntOk Try.prog e := by
 intro e he
 simp only [tabKnown, List.mem_cons, List.not_mem_nil, or_false] at he
 rcases he with rfl | rfl | rfl | rfl | rfl | rfl | rfl | rfl | rfl | rfl | rfl | rfl | rfl | rfl | rfl | rfl | rfl | rfl | rfl | rfl | rfl | rfl | rfl | rfl | rfl | rfl | rfl | rfl | rfl | rfl | rfl | rfl | rfl | rfl | rfl | rfl | rfl | rfl | rfl | rfl | rfl | rfl | rfl | rfl | rfl | rfl | rfl | rfl | rfl | rfl | rfl | rfl | rfl | rfl | rfl
 ·exact ok16
 ·exact ok24
 ·exact ok26
 ·exact ok63
 ·exact ok65
 ·exact ok32
 ·exact ok101
 ·exact ok54
 ·exact ok92
 ·exact ok108
 ·exact ok122
 ·exact ok128
 ·exact ok129
 ·exact ok131
 ·exact ok132
 ·exact ok41
 ·exact ok52
 ·exact ok82
 ·exact ok83
 ·exact ok104
 ·exact ok56
 ·exact ok61
 ·exact ok62
 ·exact ok95
 ·exact ok64
 ·exact ok66
 ·exact ok67
 ·exact ok68
 ·exact ok69
 ·exact ok96
 ·exact ok97
 ·exact ok86
 ·exact ok110
 ·exact ok81
 ·exact ok98
 ·exact ok99
 ·exact ok73
 ·exact ok100
 ·exact ok70
 ·exact ok74
 ·exact ok75
 ·exact ok72
 ·exact ok76
 ·exact ok84
 ·exact ok77
 ·exact ok17
 ·exact ok53
 ·exact ok79
 ·exact ok90
 ·exact ok91
 ·exact ok103
 ·exact ok93
 ·exact ok109
 ·exact ok19
 ·exact ok44

end Go.Am.Ap
