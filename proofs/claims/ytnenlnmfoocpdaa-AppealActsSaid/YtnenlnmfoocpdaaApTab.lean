/-
  The functions that the statements' examples reach, as texts.
-/
import Derived.Test.YtnenlnmfoocpdaaAmFntoAmSt2
import Derived.Test.YtnenlnmfoocpdaaProg
import Derived.KernelRfl
set_option linter.unusedSimpArgs false
set_option linter.unusedVariables false
namespace Go.Am.Ap
open Go.Proofs

abbrev zI : E := .const (.agg [(.v (.int .i64 0))])
abbrev zB : E := .const (.agg [(.v (.bool false))])
abbrev zL : E := .const (.agg [(.lst [])])

def WRA : List Nat := [26,65,42,30,24,32,49,51,101]
def WRS : List Nat := [92,108,122,128,129,131,132]
def PAN : List Nat := [96,64,65,66,67,68,69,98,99,100,1000066]

noncomputable def t16 : T := (wrapBinds [(.call [] 44 (.sym 0) [] [false]),
  (.wcall [] 24 (.sym 0) [(.sym 1)] [true, true]),
  (.ev (.bin .neq .int (.tget 1 (.tget 0 (.sym 2))) (ki 0))),
  (.ev (.guard (.sym 3) false (.tget 0 (.tget 0 (.sym 2))))),
  (.ev (.guard (.sym 3) false (.bin .eql .ptr (.sym 4) (.const (.v (.pointer none)))))),
  (.ev (.ite (.sym 3) (kb true) (.sym 5)))]
  (.ite (.sym 6) (.ret (.tcons (kb false) (.tcons (.tget 1 (.sym 2)) .tnil))) (wrapBinds [(.ev (.cons (.scal (ki 1)) (.cons (.scal (ki 110)) (.cons (.scal (ki 1)) (.cons zI (.cons zI (.cons zI (.cons zI (.cons zI (.cons zL (.cons zI (.cons zB (.cons zI .nil))))))))))))),
  (.wcall [] 26 (.tget 1 (.sym 2)) [(.tget 0 (.tget 0 (.sym 2))), (.sym 7)] [true, true]),
  (.ev (.cons (.scal (ki 2)) (.cons (.scal (ki 140)) (.cons (.scal (ki 1)) (.cons zI (.cons (.scal (ki 1)) (.cons (.scal (ki 2)) (.cons (.scal (ki 5)) (.cons (.scal (ki 90)) (.cons zL (.cons (.scal (ki 500)) (.cons zB (.cons zI .nil))))))))))))),
  (.wcall [] 26 (.tget 1 (.sym 8)) [(.tget 0 (.tget 0 (.sym 2))), (.sym 9)] [true, true]),
  (.ev (.cons (.scal (ki 3)) (.cons (.scal (ki 150)) (.cons zI (.cons zI (.cons zI (.cons zI (.cons zI (.cons zI (.cons zL (.cons zI (.cons (.scal (kb true)) (.cons (.scal (ki 6000)) .nil))))))))))))),
  (.wcall [] 26 (.tget 1 (.sym 10)) [(.tget 0 (.tget 0 (.sym 2))), (.sym 11)] [true, true]),
  (.ev (.cons (.scal (ki 3)) (.cons (.scal (ki 150)) (.cons zI (.cons zI (.cons zI (.cons zI (.cons zI (.cons zI (.cons zL (.cons zI (.cons (.scal (kb true)) (.cons (.scal (ki 3000)) .nil))))))))))))),
  (.wcall [] 26 (.tget 1 (.sym 12)) [(.tget 0 (.tget 0 (.sym 2))), (.sym 13)] [true, true]),
  (.wcall [] 32 (.tget 1 (.sym 14)) [(.tget 0 (.tget 0 (.sym 2))), (ki 2), (ki 150)] [true, true, true]),
  (.wcall [] 32 (.tget 1 (.sym 15)) [(.tget 0 (.tget 0 (.sym 2))), (ki 2), (ki 211)] [true, true, true]),
  (.ev (.lcons (.scal (ki 1)) (.lcons (.scal (ki 1)) (.lcons (.scal (ki 1)) (.const (.lst [])))))),
  (.call [] 17 (.tget 1 (.sym 16)) [(ki 10), (.sym 17)] [true, true]),
  (.ev (.bin .neq .int (.tget 1 (.tget 0 (.sym 8))) (ki 0))),
  (.ev (.guard (.sym 19) false (.tget 1 (.tget 0 (.sym 10))))),
  (.ev (.guard (.sym 19) false (.bin .neq .int (.sym 20) (ki 0)))),
  (.ev (.ite (.sym 19) (kb true) (.sym 21))),
  (.ev (.guard (.sym 22) false (.tget 1 (.tget 0 (.sym 12))))),
  (.ev (.guard (.sym 22) false (.bin .neq .int (.sym 23) (ki 7)))),
  (.ev (.ite (.sym 22) (kb true) (.sym 24))),
  (.ev (.guard (.sym 25) false (.tget 1 (.tget 0 (.sym 14))))),
  (.ev (.guard (.sym 25) false (.bin .neq .int (.sym 26) (ki 0)))),
  (.ev (.ite (.sym 25) (kb true) (.sym 27))),
  (.ev (.guard (.sym 28) false (.tget 2 (.tget 0 (.sym 15))))),
  (.ev (.guard (.sym 28) false (.bin .neq .int (.sym 29) (ki 0)))),
  (.ev (.ite (.sym 28) (kb true) (.sym 30))),
  (.ev (.guard (.sym 31) false (.tget 2 (.tget 0 (.sym 16))))),
  (.ev (.guard (.sym 31) false (.bin .neq .int (.sym 32) (ki 0)))),
  (.ev (.ite (.sym 31) (kb true) (.sym 33))),
  (.ev (.guard (.sym 34) false (.tget 1 (.sym 18)))),
  (.ev (.guard (.sym 34) false (.bin .neq .int (.sym 35) (ki 0)))),
  (.ev (.ite (.sym 34) (kb true) (.sym 36)))]
  (.ite (.sym 37) (.ret (.tcons (kb false) (.tcons (.tget 1 (.sym 16)) .tnil))) (wrapBinds [(.ev (.bin .eql .int (.tget 0 (.tget 0 (.sym 10))) (ki 0))),
  (.ev (.guard (.sym 38) true (.tget 0 (.tget 0 (.sym 15))))),
  (.ev (.guard (.sym 38) true (.bin .eql .int (.sym 39) (ki 3000)))),
  (.ev (.ite (.sym 38) (.sym 40) (kb false))),
  (.ev (.guard (.sym 41) true (.tget 1 (.tget 0 (.sym 15))))),
  (.ev (.ite (.sym 41) (.sym 42) (kb false))),
  (.ev (.guard (.sym 43) true (.tget 0 (.tget 0 (.sym 16))))),
  (.ev (.guard (.sym 43) true (.bin .eql .int (.sym 44) (ki 3000)))),
  (.ev (.ite (.sym 43) (.sym 45) (kb false))),
  (.ev (.guard (.sym 46) true (.tget 1 (.tget 0 (.sym 16))))),
  (.ev (.guard (.sym 46) true (.un .not (.sym 47)))),
  (.ev (.ite (.sym 46) (.sym 48) (kb false))),
  (.ev (.guard (.sym 49) true (.tget 0 (.sym 18)))),
  (.ev (.guard (.sym 49) true (.lcons (.scal (ki 4)) (.lcons (.scal (ki 3)) (.lcons (.scal (ki 3)) (.const (.lst []))))))),
  (.call [((.sym 49), true)] 19 (.tget 1 (.sym 16)) [(.sym 50), (.sym 51)] [true]),
  (.ev (.ite (.sym 49) (.sym 52) (kb false)))]
  (.ret (.tcons (.sym 53) (.tcons (.tget 1 (.sym 16)) .tnil))))))))
noncomputable def e16 : Entry := { f := 16, kn := .plain, cf := (autoCfg false WRA PAN [] [] Try.f16), own := true, ones := [], t := t16 }
theorem ok16 : EntOk Try.prog e16 := EntOk.ofPlain Try.func16 (by kernel_rfl) (by kernel_rfl)

noncomputable def t24 : T := (wrapBinds [(.ev (.aggN 6 (.sym 0))),
  (.call [] 41 (.sym 1) [(agc 6 (.sym 2))] [true]),
  (.ev (.bin .neq .int (.sym 3) (ki 0)))]
  (.ite (.sym 4) (.ret (.tcons (.tcons (.const (.v (.pointer none))) (.tcons (.sym 3) .tnil)) (.tcons (.sym 1) .tnil))) (wrapBinds [(.call [] 56 (.sym 1) [(.cell 1 (.sym 2))] [true]),
  (.ev (.cons (.aggN 6 (.cons (.cell 0 (.sym 2)) (.cons (.sym 5) (.cons (.cell 2 (.sym 2)) (.cons (.cell 3 (.sym 2)) (.cons (.cell 4 (.sym 2)) (.cons (.cell 5 (.sym 2)) .nil))))))) (.cons (.scal (kb true)) (.cons (.const (.agg [.snil])) (.cons (.const (.agg [.snil])) .nil))))),
  (.ev (.newb 99 9 (.sym 1) (.aggN 9 (.sym 6))))]
  (.ret (.tcons (.tcons (.fstid (.sym 1)) (.tcons (ki 0) .tnil)) (.tcons (.sym 7) .tnil))))))
noncomputable def e24 : Entry := { f := 24, kn := .plain, cf := { autoCfg false WRA PAN [16] [] Try.f24 with nils := true }, own := false, ones := [false], t := t24 }
theorem ok24 : EntOk Try.prog e24 := EntOk.ofPlain Try.func24 (by kernel_rfl) (by kernel_rfl)

noncomputable def t26 : T := (wrapBinds [(.ev (.aggN 12 (.sym 1))),
  (.ev (.newb 3 1 (.sym 2) zI)),
  (.ev (.newb 24 1 (.sym 4) zI)),
  (.call [] 61 (.sym 5) [(.sym 0)] [true]),
  (.ev (.un .not (.sym 6)))]
  (.ite (.sym 7) (wrapBinds [(.ev (.sto 1 (.sym 5) (.fstid (.sym 2)) (ki 0))),
  (.ev (.sto 1 (.sym 8) (.fstid (.sym 4)) (ki 1)))]
  (.ret (.tcons (.tcons (.ld false 1 (.sym 9) (.fstid (.sym 2))) (.tcons (.ld false 1 (.sym 9) (.fstid (.sym 4))) .tnil)) (.tcons (.sym 9) .tnil)))) (wrapBinds [(.call [] 62 (.sym 5) [(.sym 0), (agc 12 (.sym 3))] [true]),
  (.ev (.un .not (.sym 8))),
  (.ev (.guard (.sym 9) false (.nn (.sym 0)))),
  (.ev (.guard (.sym 9) false (.padd 7 (.sym 10)))),
  (.ev (.guard (.sym 9) false (.ld false 1 (.sym 5) (.sym 11)))),
  (.ev (.guard (.sym 9) false (.lenL (.sym 12)))),
  (.ev (.guard (.sym 9) false (.bin .gtr .int (.sym 13) (ki 0)))),
  (.ev (.guard (.sym 9) false (.guard (.sym 14) true (.cell 1 (.sym 3))))),
  (.ev (.guard (.sym 9) false (.guard (.sym 14) true (.nn (.sym 0))))),
  (.ev (.guard (.sym 9) false (.guard (.sym 14) true (.padd 7 (.sym 16))))),
  (.ev (.guard (.sym 9) false (.guard (.sym 14) true (.ld false 1 (.sym 5) (.sym 17))))),
  (.ev (.guard (.sym 9) false (.guard (.sym 14) true (.nn (.sym 0))))),
  (.ev (.guard (.sym 9) false (.guard (.sym 14) true (.padd 7 (.sym 19))))),
  (.ev (.guard (.sym 9) false (.guard (.sym 14) true (.ld false 1 (.sym 5) (.sym 20))))),
  (.ev (.guard (.sym 9) false (.guard (.sym 14) true (.lenL (.sym 21))))),
  (.ev (.guard (.sym 9) false (.guard (.sym 14) true (.bin .sub .int (.sym 22) (ki 1))))),
  (.ev (.guard (.sym 9) false (.guard (.sym 14) true (.eaddr 12 (.sym 18) (.sym 23))))),
  (.ev (.guard (.sym 9) false (.guard (.sym 14) true (.padd 1 (.sym 24))))),
  (.ev (.guard (.sym 9) false (.guard (.sym 14) true (.ld false 1 (.sym 5) (.sym 25))))),
  (.ev (.guard (.sym 9) false (.guard (.sym 14) true (.bin .lss .int (.sym 15) (.sym 26))))),
  (.ev (.guard (.sym 9) false (.ite (.sym 14) (.sym 27) (kb false)))),
  (.ev (.ite (.sym 9) (kb true) (.sym 28)))]
  (.ite (.sym 29) (wrapBinds [(.ev (.sto 1 (.sym 5) (.fstid (.sym 2)) (ki 0))),
  (.ev (.sto 1 (.sym 30) (.fstid (.sym 4)) (ki 2)))]
  (.ret (.tcons (.tcons (.ld false 1 (.sym 31) (.fstid (.sym 2))) (.tcons (.ld false 1 (.sym 31) (.fstid (.sym 4))) .tnil)) (.tcons (.sym 31) .tnil)))) (wrapBinds [(.ev (.nn (.sym 0))),
  (.ev (.padd 7 (.sym 30))),
  (.ev (.ld false 1 (.sym 5) (.sym 31))),
  (.ev (.lenL (.sym 32))),
  (.ev (.bin .geq .int (.sym 33) (ki 2000)))]
  (.ite (.sym 34) (wrapBinds [(.ev (.sto 1 (.sym 5) (.fstid (.sym 2)) (ki 0))),
  (.ev (.sto 1 (.sym 35) (.fstid (.sym 4)) (ki 4)))]
  (.ret (.tcons (.tcons (.ld false 1 (.sym 36) (.fstid (.sym 2))) (.tcons (.ld false 1 (.sym 36) (.fstid (.sym 4))) .tnil)) (.tcons (.sym 36) .tnil)))) (.dfr 63 [4, 5] [(.fstid (.sym 2)), (.fstid (.sym 4))] (.tcons (.ld false 1 (.sym 2) (.sym 0)) (.tcons (.ld false 1 (.sym 2) (.sym 1)) .tnil)) (wrapBinds [(.ev (.m4 .newm (.sym 5) .nil .nil .nil)),
  (.ev (.mkfn 64 (.tcons (.sym 0) .tnil) .tnil)),
  (.ev (.m4 (.put .int) (.sym 35) (.m4 .fstm (.sym 5) .nil .nil .nil) (ki 1) (.sym 36))),
  (.ev (.mkfn 65 (.tcons (.sym 0) .tnil) .tnil)),
  (.ev (.m4 (.put .int) (.sym 37) (.m4 .fstm (.sym 5) .nil .nil .nil) (ki 2) (.sym 38))),
  (.ev (.mkfn 66 (.tcons (.sym 0) .tnil) .tnil)),
  (.ev (.m4 (.put .int) (.sym 39) (.m4 .fstm (.sym 5) .nil .nil .nil) (ki 3) (.sym 40))),
  (.ev (.mkfn 67 (.tcons (.sym 0) .tnil) .tnil)),
  (.ev (.m4 (.put .int) (.sym 41) (.m4 .fstm (.sym 5) .nil .nil .nil) (ki 4) (.sym 42))),
  (.ev (.mkfn 68 (.tcons (.sym 0) .tnil) .tnil)),
  (.ev (.m4 (.put .int) (.sym 43) (.m4 .fstm (.sym 5) .nil .nil .nil) (ki 5) (.sym 44))),
  (.ev (.mkfn 69 (.tcons (.sym 0) .tnil) .tnil)),
  (.ev (.m4 (.put .int) (.sym 45) (.m4 .fstm (.sym 5) .nil .nil .nil) (ki 6) (.sym 46))),
  (.ev (.m4 (.get .int false) (.sym 47) (.m4 .fstm (.sym 5) .nil .nil .nil) (.cell 0 (.sym 3)) (.const (.v .nilFunc))))]
  (.wpcallv (.sym 48) (.sym 47) [(agc 12 (.sym 3))] [true] [4, 5] [(.fstid (.sym 2)), (.fstid (.sym 4))] (wrapBinds [(.ev (.sto 1 (.tget 1 (.sym 49)) (.fstid (.sym 2)) (.tget 0 (.sym 49)))),
  (.call [] 70 (.sym 50) [(.cell 8 (.sym 3))] [true]),
  (.ev (.ld false 1 (.sym 50) (.fstid (.sym 2)))),
  (.ev (.bin .geq .int (.sym 52) (ki 0)))]
  (.join 0 1 (.ite (.sym 53) (wrapBinds [(.ev (.nn (.sym 0))),
  (.ev (.padd 8 (.sym 54))),
  (.ev (.ld false 1 (.sym 50) (.sym 55))),
  (.ev (.ld false 1 (.sym 50) (.fstid (.sym 2)))),
  (.ev (.nn (.sym 0))),
  (.ev (.padd 8 (.sym 58))),
  (.ev (.ld false 1 (.sym 50) (.sym 59))),
  (.ev (.ld false 1 (.sym 50) (.fstid (.sym 2)))),
  (.ev (.eaddr 2 (.sym 60) (.sym 61))),
  (.ev (.padd 1 (.sym 62))),
  (.ev (.ld false 1 (.sym 50) (.sym 63))),
  (.ev (.nn (.sym 0))),
  (.ev (.padd 7 (.sym 65))),
  (.ev (.ld false 1 (.sym 50) (.sym 66))),
  (.ev (.lenL (.sym 67))),
  (.ev (.lcons (.scal (.sym 68)) (.const (.lst [])))),
  (.ev (.apph 3 1 8 (.sym 50) (.sym 64) (.sym 69))),
  (.ev (.eaddr 2 (.sym 56) (.sym 57))),
  (.ev (.padd 1 (.sym 71))),
  (.ev (.sto 1 (.sym 70) (.sym 72) (.apps (.sym 50) (.sym 64) (.sym 69)))),
  (.ev (.m4 .same (.ld false 1 (.sym 50) (.sym 55)) (.ld false 1 (.sym 70) (.sym 55)) .nil .nil)),
  (.ev (.m4 .same (.ld false 1 (.sym 50) (.fstid (.sym 2))) (.ld false 1 (.sym 70) (.fstid (.sym 2))) .nil .nil))]
  (.jump 0 [(.sym 73)])) (.jump 0 [(.sym 50)])) (wrapBinds [(.ev (.nn (.sym 0))),
  (.ev (.padd 7 (.sym 55))),
  (.ev (.ld false 1 (.sym 54) (.sym 56))),
  (.ev (.lcons (.aggN 12 (.cons (.cell 0 (.sym 3)) (.cons (.cell 1 (.sym 3)) (.cons (.cell 2 (.sym 3)) (.cons (.cell 3 (.sym 3)) (.cons (.cell 4 (.sym 3)) (.cons (.cell 5 (.sym 3)) (.cons (.cell 6 (.sym 3)) (.cons (.cell 7 (.sym 3)) (.cons (.sym 51) (.cons (.cell 9 (.sym 3)) (.cons (.cell 10 (.sym 3)) (.cons (.cell 11 (.sym 3)) .nil))))))))))))) (.const (.lst [])))),
  (.ev (.apph 43 12 112 (.sym 54) (.sym 57) (.sym 58))),
  (.ev (.nn (.sym 0))),
  (.ev (.padd 7 (.sym 60))),
  (.ev (.sto 1 (.sym 59) (.sym 61) (.apps (.sym 54) (.sym 57) (.sym 58)))),
  (.ev (.ld false 1 (.sym 62) (.fstid (.sym 2)))),
  (.ev (.sto 1 (.sym 62) (.fstid (.sym 2)) (.sym 63))),
  (.ev (.sto 1 (.sym 64) (.fstid (.sym 4)) (ki 0)))]
  (.ret (.tcons (.tcons (.fstid (.sym 2)) (.tcons (.fstid (.sym 4)) .tnil)) (.tcons (.sym 65) .tnil)))))))))))))))
noncomputable def e26 : Entry := { f := 26, kn := (.defers [4,5]), cf := (autoCfg false WRA PAN [] [] Try.f26), own := false, ones := [true, false], t := t26 }
theorem ok26 : EntOk Try.prog e26 := EntOk.ofDefers Try.func26 (by kernel_rfl) (by kernel_rfl)

noncomputable def t63 : T := (wrapBinds [(.ev (.m4 (.ifnil true) (.sym 3) .nil .nil .nil))]
  (.join 0 1 (.ite (.sym 4) (wrapBinds [(.ev (.m4 (.tassert 109) (.sym 3) zI .nil .nil)),
  (.ev (.aggN 1 (.tget 0 (.sym 5)))),
  (.ev (.un .not (.tget 1 (.sym 5))))]
  (.join 1 0 (.ite (.sym 7) (.pan (.m4 .isifc (.sym 3) .nil .nil .nil) (.sym 2) [] []) (.jump 1 [])) (wrapBinds [(.ev (.sto 1 (.sym 2) (.sym 0) (ki 0))),
  (.ev (.sto 1 (.sym 8) (.sym 1) (.cell 0 (.sym 6))))]
  (.jump 0 [(.sym 9)])))) (.jump 0 [(.sym 2)])) (.ret (.tcons .tnil (.tcons (.sym 5) .tnil)))))
noncomputable def e63 : Entry := { f := 63, kn := .recovers, cf := (autoCfg false WRA PAN [] [] Try.f63), own := false, ones := [true, true], t := t63 }
theorem ok63 : EntOk Try.prog e63 := EntOk.ofRecovers Try.func63 (by kernel_rfl) (by kernel_rfl)

noncomputable def t65 : T := (wrapBinds [(.ev (.aggN 12 (.sym 1))),
  (.call [] 97 (.sym 2) [(.sym 0), (.cell 2 (.sym 3))] [true]),
  (.ev (.nn (.sym 0))),
  (.ev (.padd 0 (.sym 5))),
  (.ev (.ld true 6 (.sym 2) (.sym 6))),
  (.call [] 81 (.sym 2) [(.sym 7), (.cell 6 (.sym 3)), (.cell 7 (.sym 3))] [true, true]),
  (.ev (.bin .lss .int (.sym 4) (ki 0))),
  (.ev (.guard (.sym 9) false (.tget 1 (.sym 8)))),
  (.ev (.guard (.sym 9) false (.un .not (.sym 10)))),
  (.ev (.ite (.sym 9) (kb true) (.sym 11)))]
  (.pcall 96 (.sym 2) [(.sym 12), (ki 5)] [] [] [] (wrapBinds [(.ev (.bin .sub .int (.cell 1 (.sym 3)) (.sym 4))),
  (.ev (.nn (.sym 0))),
  (.ev (.padd 0 (.sym 15))),
  (.ev (.padd 2 (.sym 16))),
  (.ev (.ld false 1 (.sym 2) (.sym 17))),
  (.ev (.bin .gtr .int (.sym 14) (.sym 18)))]
  (.pcall 96 (.sym 2) [(.sym 19), (ki 8)] [] [] [] (wrapBinds [(.ev (.nn (.sym 0))),
  (.ev (.padd 0 (.sym 21))),
  (.ev (.padd 4 (.sym 22))),
  (.ev (.ld false 1 (.sym 2) (.sym 23))),
  (.ev (.bin .neq .int (.cell 9 (.sym 3)) (.sym 24)))]
  (.pcall 96 (.sym 2) [(.sym 25), (ki 7)] [] [] [] (wrapBinds [(.ev (.nn (.sym 0))),
  (.ev (.padd 8 (.sym 27))),
  (.ev (.ld false 1 (.sym 2) (.sym 28))),
  (.ev (.nn (.sym 0))),
  (.ev (.padd 7 (.sym 30))),
  (.ev (.ld false 1 (.sym 2) (.sym 31))),
  (.ev (.lenL (.sym 32))),
  (.ev (.cons (.scal (.sym 33)) (.cons (.const (.agg [.snil])) .nil))),
  (.ev (.lcons (.aggN 2 (.sym 34)) (.const (.lst [])))),
  (.ev (.apph 115 2 32 (.sym 2) (.sym 29) (.sym 35))),
  (.ev (.nn (.sym 0))),
  (.ev (.padd 8 (.sym 37))),
  (.ev (.sto 1 (.sym 36) (.sym 38) (.apps (.sym 2) (.sym 29) (.sym 35)))),
  (.ev (.nn (.sym 0))),
  (.ev (.padd 8 (.sym 40))),
  (.ev (.ld false 1 (.sym 39) (.sym 41))),
  (.ev (.lenL (.sym 42))),
  (.ev (.bin .sub .int (.sym 43) (ki 1)))]
  (.ret (.tcons (.sym 44) (.tcons (.sym 39) .tnil))))))))))
noncomputable def e65 : Entry := { f := 65, kn := .plain, cf := { autoCfg false WRA PAN [] [] Try.f65 with nils := true }, own := false, ones := [true, false], t := t65 }
theorem ok65 : EntOk Try.prog e65 := EntOk.ofPlain Try.func65 (by kernel_rfl) (by kernel_rfl)

noncomputable def t32 : T := (wrapBinds [(.ev (.mkptr (.cons (.scal (.sym 0)) .nil))),
  (.ev (.mkptr (.cons (.scal (.sym 2)) .nil))),
  (.ev (.ld false 1 (.sym 3) (.sym 4))),
  (.ev (.ld false 1 (.sym 3) (.sym 5))),
  (.call [] 74 (.sym 3) [(.sym 6), (.sym 1), (.sym 7)] [true]),
  (.ev (.bin .neq .int (.sym 8) (ki 0)))]
  (.ite (.sym 9) (.ret (.tcons (.tcons (ki 0) (.tcons (kb false) (.tcons (.sym 8) .tnil))) (.tcons (.sym 3) .tnil))) (wrapBinds [(.ev (.newb 4 1 (.sym 3) zB)),
  (.ev (.sto 1 (.sym 10) (.fstid (.sym 3)) (kb false))),
  (.ev (.ld false 1 (.sym 11) (.sym 4))),
  (.ev (.ld false 1 (.sym 11) (.sym 5))),
  (.call [] 75 (.sym 11) [(.sym 12), (.sym 1), (.sym 13)] [true]),
  (.ev (.lenL (.sym 14)))]
  (.join 0 4 (.loop 1 [(ki 0), (ki 0), (.sym 11)] (wrapBinds [(.ev (.bin .lss .int (.sym 17) (.sym 15)))]
  (.ite (.sym 19) (.join 2 37 (wrapBinds [(.ev (.eaddr 2 (.sym 14) (.sym 17))),
  (.ev (.ld true 2 (.sym 18) (.sym 20))),
  (.ev (.aggN 2 (.sym 21))),
  (.ev (.ld false 1 (.sym 18) (.sym 4))),
  (.ev (.ld false 1 (.sym 18) (.sym 5))),
  (.call [] 76 (.sym 18) [(.sym 23), (agc 2 (.sym 22)), (.sym 24)] [true, true]),
  (.ev (.ld false 1 (.sym 18) (.sym 4))),
  (.ev (.ld false 1 (.sym 18) (.sym 5))),
  (.call [] 76 (.sym 18) [(.sym 26), (agc 2 (.sym 22)), (.sym 27)] [true, true])]
  (.join 3 1 (.ite (.tget 1 (.sym 28)) (wrapBinds [(.ev (.bin .add .int (.sym 16) (.tget 0 (.sym 25))))]
  (.jump 3 [(.sym 29)])) (.jump 3 [(.sym 16)])) (wrapBinds [(.ev (.ld false 1 (.sym 18) (.sym 4))),
  (.ev (.ld false 1 (.sym 18) (.sym 5))),
  (.call [] 73 (.sym 18) [(.sym 30), (agc 2 (.sym 22)), (.sym 31)] [true]),
  (.ev (.ld false 1 (.sym 18) (.fstid (.sym 3)))),
  (.ev (.guard (.sym 33) false (.bin .eql .int (.sym 32) (ki 1)))),
  (.ev (.ite (.sym 33) (kb true) (.sym 34))),
  (.ev (.guard (.sym 35) false (.bin .eql .int (.sym 32) (ki 3)))),
  (.ev (.ite (.sym 35) (kb true) (.sym 36))),
  (.ev (.guard (.sym 37) false (.bin .eql .int (.sym 32) (ki 4)))),
  (.ev (.ite (.sym 37) (kb true) (.sym 38))),
  (.ev (.sto 1 (.sym 18) (.fstid (.sym 3)) (.sym 39)))]
  (.jump 2 [(.sym 29), (.tget 0 (.sym 25)), (.tget 1 (.sym 25)), (.tget 0 (.sym 28)), (.tget 1 (.sym 28)), (.sym 32), (.sym 20), (.sym 21), (.tcons (.tget 0 (.sym 25)) (.tcons (.tget 1 (.sym 25)) .tnil)), (.sym 23), (agc 2 (.sym 22)), (.sym 24), (.tcons (.tget 0 (.sym 25)) (.tcons (.tget 1 (.sym 25)) .tnil)), (.tget 0 (.sym 25)), (.tget 1 (.sym 25)), (.tcons (.tget 0 (.sym 28)) (.tcons (.tget 1 (.sym 28)) .tnil)), (.sym 26), (agc 2 (.sym 22)), (.sym 27), (.tcons (.tget 0 (.sym 28)) (.tcons (.tget 1 (.sym 28)) .tnil)), (.tget 0 (.sym 28)), (.tget 1 (.sym 28)), (.tget 1 (.sym 28)), (.sym 30), (agc 2 (.sym 22)), (.sym 31), (.sym 32), (.sym 33), (.sym 33), (.sym 35), (.sym 35), (.sym 37), (.sym 37), (.sym 39), (.cell 0 (.sym 22)), (.cell 1 (.sym 22)), (.sym 40)])))) (wrapBinds [(.ev (.bin .add .int (.sym 17) (ki 1)))]
  (.jump 1 [(.sym 20), (.sym 57), (.sym 56)]))) (.jump 0 [(.sym 16), (.sym 17), (.sym 19), (.sym 18)])))) (wrapBinds [(.ev (.ld false 1 (.sym 19) (.sym 4))),
  (.ev (.ld false 1 (.sym 19) (.sym 5))),
  (.call [] 77 (.sym 19) [(.sym 20), (.sym 21)] [true])]
  (.join 0 1 (.rfor (.sym 22) (.sym 19) [0, 1, 2, 3, 5, 6, 7, 8, 9, 10, 11, 21, 22, 23, 24, 25, 26, 28, 29, 30, 31, 32, 33, 34, 73, 74, 75] [(.sym 0), (.sym 1), (.sym 2), (.sym 4), (.sym 5), (ki 0), (kb false), (ki 0), (.sym 8), (.sym 16), (.fstid (.sym 3)), (.sym 6), (.sym 1), (.sym 7), (.sym 8), (.sym 8), (.sym 9), (.sym 12), (.sym 1), (.sym 13), (.sym 14), (.sym 15), (.sym 17), (.sym 18), (.sym 20), (.sym 21), (.sym 22)] 2 1 (wrapBinds [(.ev (.newb 43 12 (.sym 23) (.const (.agg [(.v (.int .i64 0)), (.v (.int .i64 0)), (.v (.int .i64 0)), (.v (.int .i64 0)), (.v (.int .i64 0)), (.v (.int .i64 0)), (.v (.int .i64 0)), (.v (.int .i64 0)), (.lst []), (.v (.int .i64 0)), (.v (.bool false)), (.v (.int .i64 0))])))),
  (.ev (.sto 12 (.sym 26) (.fstid (.sym 23)) (.sym 25)))]
  (.join 2 4 (wrapBinds [(.ev (.ld false 1 (.sym 27) (.fstid (.sym 3)))),
  (.ev (.guard (.sym 28) false (.padd 0 (.fstid (.sym 23))))),
  (.ev (.guard (.sym 28) false (.ld false 1 (.sym 27) (.sym 29)))),
  (.ev (.guard (.sym 28) false (.bin .eql .int (.sym 30) (ki 1)))),
  (.ev (.guard (.sym 28) false (.guard (.sym 31) true (.ld false 1 (.sym 27) (.sym 5))))),
  (.ev (.guard (.sym 28) false (.guard (.sym 31) true (.padd 1 (.fstid (.sym 23)))))),
  (.ev (.guard (.sym 28) false (.guard (.sym 31) true (.ld false 1 (.sym 27) (.sym 33))))),
  (.ev (.guard (.sym 28) false (.guard (.sym 31) true (.bin .sub .int (.sym 32) (.sym 34))))),
  (.ev (.guard (.sym 28) false (.guard (.sym 31) true (.ld false 1 (.sym 27) (.sym 4))))),
  (.ev (.guard (.sym 28) false (.guard (.sym 31) true (.nn (.sym 36))))),
  (.ev (.guard (.sym 28) false (.guard (.sym 31) true (.padd 0 (.sym 37))))),
  (.ev (.guard (.sym 28) false (.guard (.sym 31) true (.padd 2 (.sym 38))))),
  (.ev (.guard (.sym 28) false (.guard (.sym 31) true (.ld false 1 (.sym 27) (.sym 39))))),
  (.ev (.guard (.sym 28) false (.guard (.sym 31) true (.bin .leq .int (.sym 35) (.sym 40))))),
  (.ev (.guard (.sym 28) false (.ite (.sym 31) (.sym 41) (kb false)))),
  (.ev (.ite (.sym 28) (kb true) (.sym 42))),
  (.ev (.sto 1 (.sym 27) (.fstid (.sym 3)) (.sym 43)))]
  (.jump 2 [(.sym 28), (.sym 28), (.sym 43), (.sym 44)])) (.jump 1 [(.sym 31)]))) (.jump 0 [(.sym 23)])) (wrapBinds [(.ev (.ld false 1 (.sym 23) (.fstid (.sym 3))))]
  (.ret (.tcons (.tcons (.sym 16) (.tcons (.sym 24) (.tcons (ki 0) .tnil))) (.tcons (.sym 23) .tnil))))))))))
noncomputable def e32 : Entry := { f := 32, kn := .plain, cf := (autoCfg false WRA PAN [] [] Try.f32), own := false, ones := [true, true, true], t := t32 }
theorem ok32 : EntOk Try.prog e32 := EntOk.ofPlain Try.func32 (by kernel_rfl) (by kernel_rfl)

noncomputable def t101 : T := (wrapBinds [(.ev (.ld false 1 (.sym 3) (.sym 1))),
  (.ev (.nn (.sym 4))),
  (.ev (.padd 7 (.sym 5))),
  (.ev (.ld false 1 (.sym 3) (.sym 6))),
  (.ev (.lenL (.sym 7)))]
  (.join 0 3 (.loop 1 [(ki 0), (.sym 3)] (wrapBinds [(.ev (.bin .lss .int (.sym 9) (.sym 8)))]
  (.ite (.sym 11) (.join 2 20 (wrapBinds [(.ev (.eaddr 12 (.sym 7) (.sym 9))),
  (.ev (.ld true 12 (.sym 10) (.sym 12))),
  (.ev (.aggN 12 (.sym 13))),
  (.ev (.ld false 1 (.sym 10) (.sym 2))),
  (.ev (.bin .gtr .int (.cell 1 (.sym 14)) (.sym 15))),
  (.wcallv [((.sym 16), false)] (.sym 0) (.sym 10) [(.sym 9), (agc 12 (.sym 14))] [true]),
  (.ev (.guard (.sym 16) false (.un .not (.tget 0 (.sym 17))))),
  (.ev (.ite (.sym 16) (kb true) (.sym 18)))]
  (.ite (.sym 19) (.ret (.tcons .tnil (.tcons (.tget 1 (.sym 17)) .tnil))) (.jump 2 [(.sym 12), (.sym 13), (.cell 1 (.sym 14)), (.sym 15), (.sym 16), (.sym 16), (.sym 19), (.cell 0 (.sym 14)), (.cell 1 (.sym 14)), (.cell 2 (.sym 14)), (.cell 3 (.sym 14)), (.cell 4 (.sym 14)), (.cell 5 (.sym 14)), (.cell 6 (.sym 14)), (.cell 7 (.sym 14)), (.cell 8 (.sym 14)), (.cell 9 (.sym 14)), (.cell 10 (.sym 14)), (.cell 11 (.sym 14)), (.tget 1 (.sym 17))]))) (wrapBinds [(.ev (.bin .add .int (.sym 9) (ki 1)))]
  (.jump 1 [(.sym 32), (.sym 31)]))) (.jump 0 [(.sym 9), (.sym 11), (.sym 10)])))) (.ret (.tcons .tnil (.tcons (.sym 11) .tnil)))))
noncomputable def e101 : Entry := { f := 101, kn := .plain, cf := (autoCfg false (1000024 :: WRA) PAN [] [] Try.f101), own := false, ones := [true, true, true], t := t101 }
theorem ok101 : EntOk Try.prog e101 := EntOk.ofPlain Try.func101 (by kernel_rfl) (by kernel_rfl)

noncomputable def t54 : T := (wrapBinds [(.ev (.lenL (.sym 1)))]
  (.join 0 3 (.loop 1 [(ki 0), (ki 0)] (wrapBinds [(.ev (.bin .lss .int (.sym 5) (.sym 3)))]
  (.ite (.sym 6) (.join 2 6 (wrapBinds [(.ev (.eaddr 1 (.sym 1) (.sym 5))),
  (.ev (.ld false 1 (.sym 2) (.sym 7))),
  (.ev (.bin .add .int (.sym 4) (.sym 8)))]
  (.jump 2 [(.sym 9), (.sym 8), (.sym 7), (.sym 8), (.sym 8), (.sym 9)])) (wrapBinds [(.ev (.bin .add .int (.sym 5) (ki 1)))]
  (.jump 1 [(.sym 7), (.sym 13)]))) (.jump 0 [(.sym 4), (.sym 5), (.sym 6)])))) (wrapBinds [(.ev (.lenL (.sym 1))),
  (.ev (.rep 8 (.sym 7) (.v (.int .i64 0)))),
  (.ev (.lenL (.sym 1))),
  (.ev (.rep 8 (.sym 9) (.v (.int .i64 0)))),
  (.ev (.lenL (.sym 1)))]
  (.join 0 5 (.loop 1 [(.sym 0), (ki 0), (.sym 8), (.sym 10)] (wrapBinds [(.ev (.bin .lss .int (.sym 13) (.sym 11)))]
  (.ite (.sym 16) (.join 2 14 (wrapBinds [(.ev (.eaddr 1 (.sym 1) (.sym 13))),
  (.ev (.ld false 1 (.sym 2) (.sym 17))),
  (.ev (.bin .mul .int (.sym 0) (.sym 18))),
  (.ev (.bin .quo .int (.sym 19) (.sym 4))),
  (.ev (.bin .mul .int (.sym 0) (.sym 18))),
  (.ev (.bin .rem .int (.sym 21) (.sym 4))),
  (.ev (.idx (.sym 14) (.sym 13))),
  (.ev (.set (.sym 14) (.sym 13) 0 (.sym 20))),
  (.ev (.idx (.sym 15) (.sym 13))),
  (.ev (.set (.sym 15) (.sym 13) 0 (.sym 22))),
  (.ev (.idx (.sym 24) (.sym 13))),
  (.ev (.cell 0 (.idx (.sym 24) (.sym 13)))),
  (.ev (.bin .sub .int (.sym 12) (.sym 28)))]
  (.jump 2 [(.sym 29), (.sym 18), (.sym 17), (.sym 18), (.sym 18), (.sym 19), (.sym 20), (.sym 18), (.sym 21), (.sym 22), (.sym 28), (.sym 29), (.sym 24), (.sym 26)])) (wrapBinds [(.ev (.bin .add .int (.sym 13) (ki 1)))]
  (.jump 1 [(.sym 17), (.sym 31), (.sym 29), (.sym 30)]))) (.jump 0 [(.sym 12), (.sym 13), (.sym 16), (.sym 14), (.sym 15)])))) (wrapBinds [(.wcall [] 92 (.sym 2) [(.sym 16), (.const (.fn 93 [] []))] [true]),
  (.ev (.sub 1 (.tget 0 (.sym 17)) (ki 0) (.sym 12))),
  (.ev (.lenL (.sym 18)))]
  (.join 0 3 (.loop 1 [(ki 0), (.sym 15)] (wrapBinds [(.ev (.bin .lss .int (.sym 20) (.sym 19)))]
  (.ite (.sym 22) (.join 2 7 (wrapBinds [(.ev (.eaddr 1 (.sym 18) (.sym 20))),
  (.ev (.ld false 1 (.tget 1 (.sym 17)) (.sym 23))),
  (.ev (.idx (.sym 21) (.sym 24))),
  (.ev (.cell 0 (.idx (.sym 21) (.sym 24)))),
  (.ev (.bin .add .int (.sym 26) (ki 1))),
  (.ev (.idx (.sym 21) (.sym 24))),
  (.ev (.set (.sym 21) (.sym 24) 0 (.sym 27)))]
  (.jump 2 [(.sym 24), (.sym 23), (.sym 24), (.sym 24), (.sym 26), (.sym 27), (.sym 29)])) (wrapBinds [(.ev (.bin .add .int (.sym 20) (ki 1)))]
  (.jump 1 [(.sym 30), (.sym 29)]))) (.jump 0 [(.sym 20), (.sym 22), (.sym 21)])))) (.ret (.tcons (.sym 22) (.tcons (.tget 1 (.sym 17)) .tnil)))))))))
noncomputable def e54 : Entry := { f := 54, kn := .plain, cf := (autoCfg false WRS PAN [] [(15,30)] Try.f54), own := true, ones := [true, true], t := t54 }
theorem ok54 : EntOk Try.prog e54 := EntOk.ofPlain Try.func54 (by kernel_rfl) (by kernel_rfl)

noncomputable def t92 : T := (wrapBinds [(.ev (.mkptr (.cons (.scal (.sym 0)) .nil))),
  (.ev (.mkptr (.cons (.scal (.sym 1)) .nil))),
  (.ev (.ld false 1 (.sym 2) (.sym 3))),
  (.ev (.lenL (.sym 5))),
  (.ev (.newv 3 1 (.sym 2) (.rep 8 (.sym 6) (.v (.int .i64 0))))),
  (.ev (.lenL (.fstsl (.sym 2) (.rep 8 (.sym 6) (.v (.int .i64 0))))))]
  (.join 0 3 (.loop 1 [(ki 0), (.sym 7)] (wrapBinds [(.ev (.bin .lss .int (.sym 9) (.sym 8)))]
  (.ite (.sym 11) (.join 2 2 (wrapBinds [(.ev (.eaddr 1 (.fstsl (.sym 2) (.rep 8 (.sym 6) (.v (.int .i64 0)))) (.sym 9))),
  (.ev (.sto 1 (.sym 10) (.sym 12) (.sym 9)))]
  (.jump 2 [(.sym 12), (.sym 13)])) (wrapBinds [(.ev (.bin .add .int (.sym 9) (ki 1)))]
  (.jump 1 [(.sym 14), (.sym 13)]))) (.jump 0 [(.sym 9), (.sym 11), (.sym 10)])))) (wrapBinds [(.ev (.mkfn 109 .tnil (.tcons (.sym 4) (.tcons (.sym 3) .tnil)))),
  (.wcall [] 108 (.sym 11) [(.fstsl (.sym 2) (.rep 8 (.sym 6) (.v (.int .i64 0)))), (.sym 12)] [])]
  (.ret (.tcons (.fstsl (.sym 2) (.rep 8 (.sym 6) (.v (.int .i64 0)))) (.tcons (.tget 1 (.sym 13)) .tnil))))))
noncomputable def e92 : Entry := { f := 92, kn := .plain, cf := (autoCfg false WRS PAN [9] [] Try.f92), own := false, ones := [true, true], t := t92 }
theorem ok92 : EntOk Try.prog e92 := EntOk.ofPlain Try.func92 (by kernel_rfl) (by kernel_rfl)

noncomputable def t108 : T := (wrapBinds [(.ev (.lenL (.sym 0))),
  (.wcall [] 122 (.sym 2) [(.sym 0), (.sym 3), (.sym 1)] [])]
  (.ret (.tcons .tnil (.tcons (.tget 1 (.sym 4)) .tnil))))
noncomputable def e108 : Entry := { f := 108, kn := .plain, cf := (autoCfg false WRS PAN [] [] Try.f108), own := false, ones := [true, true], t := t108 }
theorem ok108 : EntOk Try.prog e108 := EntOk.ofPlain Try.func108 (by kernel_rfl) (by kernel_rfl)

noncomputable def t122 : T := (.join 0 5 (.loop 1 [(ki 0), (ki 20), (.sym 3)] (wrapBinds [(.ev (.bin .leq .int (.sym 5) (.sym 1)))]
  (.ite (.sym 7) (.join 2 3 (wrapBinds [(.wcall [] 128 (.sym 6) [(.sym 0), (.sym 4), (.sym 5), (.sym 2)] []),
  (.ev (.bin .add .int (.sym 5) (ki 20)))]
  (.jump 2 [(.sym 9), (.sym 9), (.tget 1 (.sym 8))])) (.jump 1 [(.sym 5), (.sym 8), (.sym 10)])) (.jump 0 [(.sym 4), (.sym 5), (.sym 5), (.sym 7), (.sym 6)])))) (wrapBinds [(.wcall [] 128 (.sym 8) [(.sym 0), (.sym 4), (.sym 1), (.sym 2)] [])]
  (.join 0 6 (.loop 1 [(ki 20), (.sym 4), (.sym 5), (.tget 1 (.sym 9))] (wrapBinds [(.ev (.bin .lss .int (.sym 10) (.sym 1)))]
  (.ite (.sym 14) (.join 2 13 (wrapBinds [(.ev (.bin .mul .int (ki 2) (.sym 10)))]
  (.join 3 5 (.loop 4 [(ki 0), (.sym 15), (.sym 13)] (wrapBinds [(.ev (.bin .leq .int (.sym 17) (.sym 1)))]
  (.ite (.sym 19) (.join 5 5 (wrapBinds [(.ev (.bin .add .int (.sym 16) (.sym 10))),
  (.wcall [] 129 (.sym 18) [(.sym 0), (.sym 16), (.sym 20), (.sym 17), (.sym 2)] []),
  (.ev (.bin .mul .int (ki 2) (.sym 10))),
  (.ev (.bin .add .int (.sym 17) (.sym 22)))]
  (.jump 5 [(.sym 23), (.sym 20), (.sym 22), (.sym 23), (.tget 1 (.sym 21))])) (.jump 4 [(.sym 17), (.sym 20), (.sym 24)])) (.jump 3 [(.sym 16), (.sym 17), (.sym 17), (.sym 19), (.sym 18)])))) (wrapBinds [(.ev (.bin .add .int (.sym 16) (.sym 10))),
  (.ev (.bin .lss .int (.sym 21) (.sym 1)))]
  (.join 3 1 (.ite (.sym 22) (wrapBinds [(.wcall [] 129 (.sym 20) [(.sym 0), (.sym 16), (.sym 21), (.sym 1), (.sym 2)] [])]
  (.jump 3 [(.tget 1 (.sym 23))])) (.jump 3 [(.sym 20)])) (wrapBinds [(.ev (.bin .mul .int (.sym 10) (ki 2)))]
  (.jump 2 [(.sym 24), (.sym 16), (.sym 17), (.sym 21), (.sym 15), (.sym 18), (.sym 19), (.sym 16), (.sym 21), (.sym 21), (.sym 22), (.sym 24), (.sym 23)])))))) (.jump 1 [(.sym 15), (.sym 16), (.sym 17), (.sym 27)])) (.jump 0 [(.sym 10), (.sym 11), (.sym 12), (.sym 10), (.sym 14), (.sym 13)])))) (.ret (.tcons .tnil (.tcons (.sym 15) .tnil))))))
noncomputable def e122 : Entry := { f := 122, kn := .plain, cf := (autoCfg false WRS PAN [] [] Try.f122), own := false, ones := [true, true, true], t := t122 }
theorem ok122 : EntOk Try.prog e122 := EntOk.ofPlain Try.func122 (by kernel_rfl) (by kernel_rfl)

noncomputable def t128 : T := (wrapBinds [(.ev (.bin .add .int (.sym 1) (ki 1)))]
  (.join 0 4 (.loop 1 [(.sym 5), (.sym 4)] (wrapBinds [(.ev (.bin .lss .int (.sym 6) (.sym 2)))]
  (.ite (.sym 8) (.join 2 6 (.join 3 6 (.loop 4 [(.sym 6), (.sym 7)] (wrapBinds [(.ev (.bin .gtr .int (.sym 9) (.sym 1))),
  (.ev (.guard (.sym 11) true (.eaddr 1 (.sym 0) (.sym 9)))),
  (.ev (.guard (.sym 11) true (.ld false 1 (.sym 10) (.sym 12)))),
  (.ev (.guard (.sym 11) true (.bin .sub .int (.sym 9) (ki 1)))),
  (.ev (.guard (.sym 11) true (.eaddr 1 (.sym 0) (.sym 14)))),
  (.ev (.guard (.sym 11) true (.ld false 1 (.sym 10) (.sym 15)))),
  (.callv [((.sym 11), true)] (.sym 3) (.sym 10) [(.sym 13), (.sym 16)] [true]),
  (.ev (.guard (.sym 11) true (.bin .lss .int (.sym 17) (ki 0)))),
  (.ev (.ite (.sym 11) (.sym 18) (kb false)))]
  (.ite (.sym 19) (.join 5 9 (wrapBinds [(.ev (.bin .sub .int (.sym 9) (ki 1))),
  (.ev (.bin .sub .int (.sym 9) (ki 1))),
  (.ev (.eaddr 1 (.sym 0) (.sym 21))),
  (.ev (.ld false 1 (.sym 10) (.sym 22))),
  (.ev (.eaddr 1 (.sym 0) (.sym 9))),
  (.ev (.ld false 1 (.sym 10) (.sym 24))),
  (.ev (.eaddr 1 (.sym 0) (.sym 9))),
  (.ev (.sto 1 (.sym 10) (.sym 26) (.sym 23))),
  (.ev (.eaddr 1 (.sym 0) (.sym 20))),
  (.ev (.sto 1 (.sym 27) (.sym 28) (.sym 25)))]
  (.jump 5 [(.sym 20), (.sym 21), (.sym 22), (.sym 23), (.sym 24), (.sym 25), (.sym 26), (.sym 28), (.sym 29)])) (wrapBinds [(.ev (.bin .sub .int (.sym 9) (ki 1)))]
  (.jump 4 [(.sym 29), (.sym 28)]))) (.jump 3 [(.sym 9), (.sym 9), (.sym 11), (.sym 11), (.sym 19), (.sym 10)])))) (.jump 2 [(.sym 9), (.sym 10), (.sym 11), (.sym 12), (.sym 13), (.sym 14)])) (wrapBinds [(.ev (.bin .add .int (.sym 6) (ki 1)))]
  (.jump 1 [(.sym 15), (.sym 14)]))) (.jump 0 [(.sym 6), (.sym 6), (.sym 8), (.sym 7)])))) (.ret (.tcons .tnil (.tcons (.sym 9) .tnil)))))
noncomputable def e128 : Entry := { f := 128, kn := .plain, cf := (autoCfg false WRS PAN [] [] Try.f128), own := false, ones := [true, true, true, true], t := t128 }
theorem ok128 : EntOk Try.prog e128 := EntOk.ofPlain Try.func128 (by kernel_rfl) (by kernel_rfl)

noncomputable def t129 : T := (wrapBinds [(.ev (.bin .sub .int (.sym 2) (.sym 1))),
  (.ev (.bin .eql .int (.sym 6) (ki 1)))]
  (.ite (.sym 7) (.join 0 5 (.loop 1 [(.sym 2), (.sym 3)] (wrapBinds [(.ev (.bin .lss .int (.sym 8) (.sym 9)))]
  (.ite (.sym 10) (.join 2 14 (wrapBinds [(.ev (.bin .add .int (.sym 8) (.sym 9))),
  (.ev (.conv .u64 (.sym 11))),
  (.ev (.bin .shr .int (.sym 12) (.const (.v (.int .u64 1))))),
  (.ev (.conv .i64 (.sym 13))),
  (.ev (.eaddr 1 (.sym 0) (.sym 14))),
  (.ev (.ld false 1 (.sym 5) (.sym 15))),
  (.ev (.eaddr 1 (.sym 0) (.sym 1))),
  (.ev (.ld false 1 (.sym 5) (.sym 17))),
  (.callv [] (.sym 4) (.sym 5) [(.sym 16), (.sym 18)] [true]),
  (.ev (.bin .lss .int (.sym 19) (ki 0)))]
  (.join 3 2 (.ite (.sym 20) (wrapBinds [(.ev (.bin .add .int (.sym 14) (ki 1)))]
  (.jump 3 [(.sym 21), (.sym 9)])) (.jump 3 [(.sym 8), (.sym 14)])) (.jump 2 [(.sym 21), (.sym 22), (.sym 14), (.sym 11), (.sym 12), (.sym 13), (.sym 14), (.sym 14), (.sym 15), (.sym 16), (.sym 17), (.sym 18), (.sym 19), (.sym 20)]))) (.jump 1 [(.sym 11), (.sym 12)])) (.jump 0 [(.sym 8), (.sym 9), (.sym 8), (.sym 9), (.sym 10)])))) (.join 0 5 (.loop 1 [(.sym 1), (.sym 5)] (wrapBinds [(.ev (.bin .sub .int (.sym 8) (ki 1))),
  (.ev (.bin .lss .int (.sym 13) (.sym 15)))]
  (.ite (.sym 16) (.join 2 9 (wrapBinds [(.ev (.bin .add .int (.sym 13) (ki 1))),
  (.ev (.bin .add .int (.sym 13) (ki 1))),
  (.ev (.eaddr 1 (.sym 0) (.sym 18))),
  (.ev (.ld false 1 (.sym 14) (.sym 19))),
  (.ev (.eaddr 1 (.sym 0) (.sym 13))),
  (.ev (.ld false 1 (.sym 14) (.sym 21))),
  (.ev (.eaddr 1 (.sym 0) (.sym 13))),
  (.ev (.sto 1 (.sym 14) (.sym 23) (.sym 20))),
  (.ev (.eaddr 1 (.sym 0) (.sym 17))),
  (.ev (.sto 1 (.sym 24) (.sym 25) (.sym 22)))]
  (.jump 2 [(.sym 17), (.sym 18), (.sym 19), (.sym 20), (.sym 21), (.sym 22), (.sym 23), (.sym 25), (.sym 26)])) (wrapBinds [(.ev (.bin .add .int (.sym 13) (ki 1)))]
  (.jump 1 [(.sym 26), (.sym 25)]))) (.jump 0 [(.sym 13), (.sym 13), (.sym 15), (.sym 16), (.sym 14)])))) (.ret (.tcons .tnil (.tcons (.sym 17) .tnil))))) (wrapBinds [(.ev (.bin .sub .int (.sym 3) (.sym 2))),
  (.ev (.bin .eql .int (.sym 8) (ki 1)))]
  (.ite (.sym 9) (.join 0 5 (.loop 1 [(.sym 1), (.sym 2)] (wrapBinds [(.ev (.bin .lss .int (.sym 10) (.sym 11)))]
  (.ite (.sym 12) (.join 2 15 (wrapBinds [(.ev (.bin .add .int (.sym 10) (.sym 11))),
  (.ev (.conv .u64 (.sym 13))),
  (.ev (.bin .shr .int (.sym 14) (.const (.v (.int .u64 1))))),
  (.ev (.conv .i64 (.sym 15))),
  (.ev (.eaddr 1 (.sym 0) (.sym 2))),
  (.ev (.ld false 1 (.sym 5) (.sym 17))),
  (.ev (.eaddr 1 (.sym 0) (.sym 16))),
  (.ev (.ld false 1 (.sym 5) (.sym 19))),
  (.callv [] (.sym 4) (.sym 5) [(.sym 18), (.sym 20)] [true]),
  (.ev (.bin .lss .int (.sym 21) (ki 0))),
  (.ev (.un .not (.sym 22)))]
  (.join 3 2 (.ite (.sym 23) (wrapBinds [(.ev (.bin .add .int (.sym 16) (ki 1)))]
  (.jump 3 [(.sym 24), (.sym 11)])) (.jump 3 [(.sym 10), (.sym 16)])) (.jump 2 [(.sym 24), (.sym 25), (.sym 16), (.sym 13), (.sym 14), (.sym 15), (.sym 16), (.sym 17), (.sym 18), (.sym 16), (.sym 19), (.sym 20), (.sym 21), (.sym 22), (.sym 23)]))) (.jump 1 [(.sym 13), (.sym 14)])) (.jump 0 [(.sym 10), (.sym 11), (.sym 10), (.sym 11), (.sym 12)])))) (.join 0 4 (.loop 1 [(.sym 2), (.sym 5)] (wrapBinds [(.ev (.bin .gtr .int (.sym 15) (.sym 10)))]
  (.ite (.sym 17) (.join 2 9 (wrapBinds [(.ev (.bin .sub .int (.sym 15) (ki 1))),
  (.ev (.bin .sub .int (.sym 15) (ki 1))),
  (.ev (.eaddr 1 (.sym 0) (.sym 19))),
  (.ev (.ld false 1 (.sym 16) (.sym 20))),
  (.ev (.eaddr 1 (.sym 0) (.sym 15))),
  (.ev (.ld false 1 (.sym 16) (.sym 22))),
  (.ev (.eaddr 1 (.sym 0) (.sym 15))),
  (.ev (.sto 1 (.sym 16) (.sym 24) (.sym 21))),
  (.ev (.eaddr 1 (.sym 0) (.sym 18))),
  (.ev (.sto 1 (.sym 25) (.sym 26) (.sym 23)))]
  (.jump 2 [(.sym 18), (.sym 19), (.sym 20), (.sym 21), (.sym 22), (.sym 23), (.sym 24), (.sym 26), (.sym 27)])) (wrapBinds [(.ev (.bin .sub .int (.sym 15) (ki 1)))]
  (.jump 1 [(.sym 27), (.sym 26)]))) (.jump 0 [(.sym 15), (.sym 15), (.sym 17), (.sym 16)])))) (.ret (.tcons .tnil (.tcons (.sym 18) .tnil))))) (wrapBinds [(.ev (.bin .add .int (.sym 1) (.sym 3))),
  (.ev (.conv .u64 (.sym 10))),
  (.ev (.bin .shr .int (.sym 11) (.const (.v (.int .u64 1))))),
  (.ev (.conv .i64 (.sym 12))),
  (.ev (.bin .add .int (.sym 13) (.sym 2))),
  (.ev (.bin .gtr .int (.sym 2) (.sym 13)))]
  (.join 0 2 (.ite (.sym 15) (wrapBinds [(.ev (.bin .sub .int (.sym 14) (.sym 3)))]
  (.jump 0 [(.sym 16), (.sym 13)])) (.jump 0 [(.sym 1), (.sym 2)])) (wrapBinds [(.ev (.bin .sub .int (.sym 14) (ki 1)))]
  (.join 0 5 (.loop 1 [(.sym 16), (.sym 17)] (wrapBinds [(.ev (.bin .lss .int (.sym 19) (.sym 20)))]
  (.ite (.sym 21) (.join 2 17 (wrapBinds [(.ev (.bin .add .int (.sym 19) (.sym 20))),
  (.ev (.conv .u64 (.sym 22))),
  (.ev (.bin .shr .int (.sym 23) (.const (.v (.int .u64 1))))),
  (.ev (.conv .i64 (.sym 24))),
  (.ev (.bin .sub .int (.sym 18) (.sym 25))),
  (.ev (.eaddr 1 (.sym 0) (.sym 26))),
  (.ev (.ld false 1 (.sym 5) (.sym 27))),
  (.ev (.eaddr 1 (.sym 0) (.sym 25))),
  (.ev (.ld false 1 (.sym 5) (.sym 29))),
  (.callv [] (.sym 4) (.sym 5) [(.sym 28), (.sym 30)] [true]),
  (.ev (.bin .lss .int (.sym 31) (ki 0))),
  (.ev (.un .not (.sym 32)))]
  (.join 3 2 (.ite (.sym 33) (wrapBinds [(.ev (.bin .add .int (.sym 25) (ki 1)))]
  (.jump 3 [(.sym 34), (.sym 20)])) (.jump 3 [(.sym 19), (.sym 25)])) (.jump 2 [(.sym 34), (.sym 35), (.sym 25), (.sym 22), (.sym 23), (.sym 24), (.sym 25), (.sym 25), (.sym 26), (.sym 27), (.sym 28), (.sym 25), (.sym 29), (.sym 30), (.sym 31), (.sym 32), (.sym 33)]))) (.jump 1 [(.sym 22), (.sym 23)])) (.jump 0 [(.sym 19), (.sym 20), (.sym 19), (.sym 20), (.sym 21)])))) (wrapBinds [(.ev (.bin .sub .int (.sym 14) (.sym 19))),
  (.ev (.bin .lss .int (.sym 19) (.sym 2))),
  (.ev (.guard (.sym 25) true (.bin .lss .int (.sym 2) (.sym 24)))),
  (.ev (.ite (.sym 25) (.sym 26) (kb false)))]
  (.join 0 1 (.ite (.sym 27) (wrapBinds [(.wcall [] 131 (.sym 5) [(.sym 0), (.sym 19), (.sym 2), (.sym 24), (.sym 4)] [])]
  (.jump 0 [(.tget 1 (.sym 28))])) (.jump 0 [(.sym 5)])) (wrapBinds [(.ev (.bin .lss .int (.sym 1) (.sym 19))),
  (.ev (.guard (.sym 29) true (.bin .lss .int (.sym 19) (.sym 13)))),
  (.ev (.ite (.sym 29) (.sym 30) (kb false)))]
  (.join 0 1 (.ite (.sym 31) (wrapBinds [(.wcall [] 129 (.sym 28) [(.sym 0), (.sym 1), (.sym 19), (.sym 13), (.sym 4)] [])]
  (.jump 0 [(.tget 1 (.sym 32))])) (.jump 0 [(.sym 28)])) (wrapBinds [(.ev (.bin .lss .int (.sym 13) (.sym 24))),
  (.ev (.guard (.sym 33) true (.bin .lss .int (.sym 24) (.sym 3)))),
  (.ev (.ite (.sym 33) (.sym 34) (kb false)))]
  (.join 0 1 (.ite (.sym 35) (wrapBinds [(.wcall [] 129 (.sym 32) [(.sym 0), (.sym 13), (.sym 24), (.sym 3), (.sym 4)] [])]
  (.jump 0 [(.tget 1 (.sym 36))])) (.jump 0 [(.sym 32)])) (.ret (.tcons .tnil (.tcons (.sym 36) .tnil)))))))))))))))))
noncomputable def e129 : Entry := { f := 129, kn := .plain, cf := (autoCfg false WRS PAN [] [] Try.f129), own := false, ones := [true, true, true, true, true], t := t129 }
theorem ok129 : EntOk Try.prog e129 := EntOk.ofPlain Try.func129 (by kernel_rfl) (by kernel_rfl)

noncomputable def t131 : T := (wrapBinds [(.ev (.bin .sub .int (.sym 2) (.sym 1))),
  (.ev (.bin .sub .int (.sym 3) (.sym 2)))]
  (.join 0 6 (.loop 1 [(.sym 6), (.sym 7), (.sym 5)] (wrapBinds [(.ev (.bin .neq .int (.sym 8) (.sym 9)))]
  (.ite (.sym 11) (.join 2 4 (wrapBinds [(.ev (.bin .gtr .int (.sym 8) (.sym 9)))]
  (.join 3 3 (.ite (.sym 12) (wrapBinds [(.ev (.bin .sub .int (.sym 2) (.sym 8))),
  (.wcall [] 132 (.sym 10) [(.sym 0), (.sym 13), (.sym 2), (.sym 9), (.sym 4)] []),
  (.ev (.bin .sub .int (.sym 8) (.sym 9)))]
  (.jump 3 [(.sym 15), (.sym 9), (.tget 1 (.sym 14))])) (wrapBinds [(.ev (.bin .sub .int (.sym 2) (.sym 8))),
  (.ev (.bin .add .int (.sym 2) (.sym 9))),
  (.ev (.bin .sub .int (.sym 14) (.sym 8))),
  (.wcall [] 132 (.sym 10) [(.sym 0), (.sym 13), (.sym 15), (.sym 8), (.sym 4)] []),
  (.ev (.bin .sub .int (.sym 9) (.sym 8)))]
  (.jump 3 [(.sym 8), (.sym 17), (.tget 1 (.sym 16))]))) (.jump 2 [(.sym 13), (.sym 14), (.sym 12), (.sym 15)]))) (.jump 1 [(.sym 12), (.sym 13), (.sym 15)])) (.jump 0 [(.sym 8), (.sym 9), (.sym 8), (.sym 9), (.sym 11), (.sym 10)])))) (wrapBinds [(.ev (.bin .sub .int (.sym 2) (.sym 8))),
  (.wcall [] 132 (.sym 13) [(.sym 0), (.sym 14), (.sym 2), (.sym 8), (.sym 4)] [])]
  (.ret (.tcons .tnil (.tcons (.tget 1 (.sym 15)) .tnil))))))
noncomputable def e131 : Entry := { f := 131, kn := .plain, cf := (autoCfg false WRS PAN [] [] Try.f131), own := false, ones := [true, true, true, true, true], t := t131 }
theorem ok131 : EntOk Try.prog e131 := EntOk.ofPlain Try.func131 (by kernel_rfl) (by kernel_rfl)

noncomputable def t132 : T := (.join 0 4 (.loop 1 [(ki 0), (.sym 5)] (wrapBinds [(.ev (.bin .lss .int (.sym 6) (.sym 3)))]
  (.ite (.sym 8) (.join 2 11 (wrapBinds [(.ev (.bin .add .int (.sym 1) (.sym 6))),
  (.ev (.bin .add .int (.sym 2) (.sym 6))),
  (.ev (.bin .add .int (.sym 2) (.sym 6))),
  (.ev (.eaddr 1 (.sym 0) (.sym 11))),
  (.ev (.ld false 1 (.sym 7) (.sym 12))),
  (.ev (.bin .add .int (.sym 1) (.sym 6))),
  (.ev (.eaddr 1 (.sym 0) (.sym 14))),
  (.ev (.ld false 1 (.sym 7) (.sym 15))),
  (.ev (.eaddr 1 (.sym 0) (.sym 9))),
  (.ev (.sto 1 (.sym 7) (.sym 17) (.sym 13))),
  (.ev (.eaddr 1 (.sym 0) (.sym 10))),
  (.ev (.sto 1 (.sym 18) (.sym 19) (.sym 16)))]
  (.jump 2 [(.sym 9), (.sym 10), (.sym 11), (.sym 12), (.sym 13), (.sym 14), (.sym 15), (.sym 16), (.sym 17), (.sym 19), (.sym 20)])) (wrapBinds [(.ev (.bin .add .int (.sym 6) (ki 1)))]
  (.jump 1 [(.sym 20), (.sym 19)]))) (.jump 0 [(.sym 6), (.sym 6), (.sym 8), (.sym 7)])))) (.ret (.tcons .tnil (.tcons (.sym 9) .tnil))))
noncomputable def e132 : Entry := { f := 132, kn := .plain, cf := (autoCfg false WRS PAN [] [] Try.f132), own := false, ones := [true, true, true, true, true], t := t132 }
theorem ok132 : EntOk Try.prog e132 := EntOk.ofPlain Try.func132 (by kernel_rfl) (by kernel_rfl)

noncomputable def t41 : T := (wrapBinds [(.ev (.aggN 6 (.sym 0))),
  (.call [] 52 (.sym 1) [(.cell 0 (.sym 2)), (ki 1), (ki 200)] [true]),
  (.ev (.un .not (.sym 3))),
  (.ev (.guard (.sym 4) false (.cell 1 (.sym 2)))),
  (.ev (.guard (.sym 4) false (.lenL (.sym 5)))),
  (.call [((.sym 4), false)] 52 (.sym 1) [(.sym 6), (ki 1), (ki 500)] [true]),
  (.ev (.guard (.sym 4) false (.un .not (.sym 7)))),
  (.ev (.ite (.sym 4) (kb true) (.sym 8))),
  (.ev (.guard (.sym 9) false (.cell 2 (.sym 2)))),
  (.call [((.sym 9), false)] 52 (.sym 1) [(.sym 10), (ki 0), (ki 10000)] [true]),
  (.ev (.guard (.sym 9) false (.un .not (.sym 11)))),
  (.ev (.ite (.sym 9) (kb true) (.sym 12))),
  (.ev (.guard (.sym 13) false (.cell 3 (.sym 2)))),
  (.call [((.sym 13), false)] 52 (.sym 1) [(.sym 14), (ki 0), (ki 10000)] [true]),
  (.ev (.guard (.sym 13) false (.un .not (.sym 15)))),
  (.ev (.ite (.sym 13) (kb true) (.sym 16))),
  (.ev (.guard (.sym 17) false (.cell 4 (.sym 2)))),
  (.call [((.sym 17), false)] 52 (.sym 1) [(.sym 18), (ki 0), (ki 1000000000)] [true]),
  (.ev (.guard (.sym 17) false (.un .not (.sym 19)))),
  (.ev (.ite (.sym 17) (kb true) (.sym 20))),
  (.ev (.guard (.sym 21) false (.cell 5 (.sym 2)))),
  (.call [((.sym 21), false)] 52 (.sym 1) [(.sym 22), (ki 0), (ki 1000000000)] [true]),
  (.ev (.guard (.sym 21) false (.un .not (.sym 23)))),
  (.ev (.ite (.sym 21) (kb true) (.sym 24)))]
  (.ite (.sym 25) (.ret (.tcons (ki 2) (.tcons (.sym 1) .tnil))) (wrapBinds [(.ev (.lenL (.cell 1 (.sym 2))))]
  (.join 0 2 (.loop 1 [(ki 0)] (wrapBinds [(.ev (.bin .lss .int (.sym 27) (.sym 26)))]
  (.ite (.sym 28) (.join 2 16 (wrapBinds [(.ev (.eaddr 4 (.cell 1 (.sym 2)) (.sym 27))),
  (.ev (.ld true 4 (.sym 1) (.sym 29))),
  (.ev (.aggN 4 (.sym 30))),
  (.call [] 52 (.sym 1) [(.cell 0 (.sym 31)), (ki 1), (ki 10000)] [true]),
  (.ev (.un .not (.sym 32))),
  (.ev (.guard (.sym 33) false (.cell 1 (.sym 31)))),
  (.call [((.sym 33), false)] 52 (.sym 1) [(.sym 34), (ki 0), (ki 10000000)] [true]),
  (.ev (.guard (.sym 33) false (.un .not (.sym 35)))),
  (.ev (.ite (.sym 33) (kb true) (.sym 36))),
  (.ev (.guard (.sym 37) false (.cell 2 (.sym 31)))),
  (.ev (.guard (.sym 37) false (.cell 3 (.sym 31)))),
  (.call [((.sym 37), false)] 52 (.sym 1) [(.sym 38), (ki 0), (.sym 39)] [true]),
  (.ev (.guard (.sym 37) false (.un .not (.sym 40)))),
  (.ev (.ite (.sym 37) (kb true) (.sym 41))),
  (.ev (.guard (.sym 42) false (.cell 3 (.sym 31)))),
  (.ev (.guard (.sym 42) false (.bin .gtr .int (.sym 43) (ki 36000000)))),
  (.ev (.ite (.sym 42) (kb true) (.sym 44)))]
  (.ite (.sym 45) (.ret (.tcons (ki 2) (.tcons (.sym 1) .tnil))) (wrapBinds [(.ev (.bin .gtr .int (.sym 27) (ki 0)))]
  (.join 3 0 (.ite (.sym 46) (wrapBinds [(.ev (.bin .sub .int (.sym 27) (ki 1))),
  (.ev (.eaddr 4 (.cell 1 (.sym 2)) (.sym 47))),
  (.ev (.ld true 4 (.sym 1) (.sym 48))),
  (.ev (.aggN 4 (.sym 49))),
  (.call [] 83 (.sym 1) [(.cell 0 (.sym 50)), (.cell 0 (.sym 31))] [true]),
  (.call [] 83 (.sym 1) [(.cell 1 (.sym 50)), (.cell 1 (.sym 31))] [true]),
  (.ev (.lcons (.scal (.sym 51)) (.lcons (.scal (.sym 52)) (.const (.lst []))))),
  (.call [] 82 (.sym 1) [(.sym 53)] [true]),
  (.ev (.bin .geq .int (.sym 54) (ki 0)))]
  (.ite (.sym 55) (.ret (.tcons (ki 2) (.tcons (.sym 1) .tnil))) (.jump 3 []))) (.jump 3 [])) (.jump 2 [(.sym 29), (.sym 30), (.cell 0 (.sym 31)), (.sym 32), (.sym 33), (.sym 33), (.sym 37), (.sym 37), (.sym 42), (.sym 42), (.sym 45), (.sym 46), (.cell 0 (.sym 31)), (.cell 1 (.sym 31)), (.cell 2 (.sym 31)), (.cell 3 (.sym 31))]))))) (wrapBinds [(.ev (.bin .add .int (.sym 27) (ki 1)))]
  (.jump 1 [(.sym 45)]))) (.jump 0 [(.sym 27), (.sym 28)])))) (.ret (.tcons (ki 0) (.tcons (.sym 1) .tnil)))))))
noncomputable def e41 : Entry := { f := 41, kn := .plain, cf := (autoCfg true WRA PAN [] [] Try.f41), own := false, ones := [false], t := t41 }
theorem ok41 : EntOk Try.prog e41 := EntOk.ofPlain Try.func41 (by kernel_rfl) (by kernel_rfl)

noncomputable def t52 : T := (wrapBinds [(.ev (.bin .geq .int (.sym 0) (.sym 1))),
  (.ev (.guard (.sym 4) true (.bin .leq .int (.sym 0) (.sym 2)))),
  (.ev (.ite (.sym 4) (.sym 5) (kb false)))]
  (.ret (.tcons (.sym 6) (.tcons (.sym 3) .tnil))))
noncomputable def e52 : Entry := { f := 52, kn := .plain, cf := (autoCfg true WRA PAN [] [] Try.f52), own := false, ones := [true, true, true], t := t52 }
theorem ok52 : EntOk Try.prog e52 := EntOk.ofPlain Try.func52 (by kernel_rfl) (by kernel_rfl)

noncomputable def t82 : T := (wrapBinds [(.ev (.lenL (.sym 0)))]
  (.join 0 2 (.loop 1 [(ki 0)] (wrapBinds [(.ev (.bin .lss .int (.sym 3) (.sym 2)))]
  (.ite (.sym 4) (.join 2 5 (wrapBinds [(.ev (.eaddr 1 (.sym 0) (.sym 3))),
  (.ev (.ld false 1 (.sym 1) (.sym 5))),
  (.ev (.bin .neq .int (.sym 6) (ki 0)))]
  (.ite (.sym 7) (.ret (.tcons (.sym 6) (.tcons (.sym 1) .tnil))) (.jump 2 [(.sym 6), (.sym 5), (.sym 6), (.sym 6), (.sym 7)]))) (wrapBinds [(.ev (.bin .add .int (.sym 3) (ki 1)))]
  (.jump 1 [(.sym 10)]))) (.jump 0 [(.sym 3), (.sym 4)])))) (.ret (.tcons (ki 0) (.tcons (.sym 1) .tnil)))))
noncomputable def e82 : Entry := { f := 82, kn := .plain, cf := (autoCfg true WRA PAN [] [] Try.f82), own := false, ones := [true], t := t82 }
theorem ok82 : EntOk Try.prog e82 := EntOk.ofPlain Try.func82 (by kernel_rfl) (by kernel_rfl)

noncomputable def t83 : T := (wrapBinds [(.call [] 104 (.sym 2) [(.sym 0)] [true]),
  (.call [] 104 (.sym 2) [(.sym 1)] [true])]
  (.ite (.sym 3) (.ite (.sym 4) (.ret (.tcons (ki 0) (.tcons (.sym 2) .tnil))) (.ret (.tcons (ki (-1)) (.tcons (.sym 2) .tnil)))) (.ite (.sym 4) (.ret (.tcons (ki 1) (.tcons (.sym 2) .tnil))) (wrapBinds [(.ev (.bin .lss .int (.sym 0) (.sym 1)))]
  (.ite (.sym 5) (.ret (.tcons (ki (-1)) (.tcons (.sym 2) .tnil))) (wrapBinds [(.ev (.bin .gtr .int (.sym 0) (.sym 1)))]
  (.ite (.sym 6) (.ret (.tcons (ki 1) (.tcons (.sym 2) .tnil))) (.ret (.tcons (ki 0) (.tcons (.sym 2) .tnil))))))))))
noncomputable def e83 : Entry := { f := 83, kn := .plain, cf := (autoCfg true WRA PAN [] [] Try.f83), own := false, ones := [true, true], t := t83 }
theorem ok83 : EntOk Try.prog e83 := EntOk.ofPlain Try.func83 (by kernel_rfl) (by kernel_rfl)

noncomputable def t104 : T := (wrapBinds [(.ev (.bin .neq .int (.sym 0) (.sym 0)))]
  (.ret (.tcons (.sym 2) (.tcons (.sym 1) .tnil))))
noncomputable def e104 : Entry := { f := 104, kn := .plain, cf := (autoCfg true WRA PAN [] [] Try.f104), own := false, ones := [true], t := t104 }
theorem ok104 : EntOk Try.prog e104 := EntOk.ofPlain Try.func104 (by kernel_rfl) (by kernel_rfl)

noncomputable def t56 : T := (.nilq (.sym 0) false (.ite (.sym 2) (.ret (.tcons (.const (.lst [])) (.tcons (.sym 1) .tnil))) (wrapBinds [(.ev (.const (.lst []))),
  (.ev (.app 4 32 (.sym 3) (.sym 0)))]
  (.ret (.tcons (.sym 4) (.tcons (.sym 1) .tnil))))))
noncomputable def e56 : Entry := { f := 56, kn := .plain, cf := (autoCfg true WRA PAN [] [] Try.f56), own := false, ones := [true], t := t56 }
theorem ok56 : EntOk Try.prog e56 := EntOk.ofPlain Try.func56 (by kernel_rfl) (by kernel_rfl)

noncomputable def t61 : T := (wrapBinds [(.ev (.bin .neq .ptr (.sym 0) (.const (.v (.pointer none))))),
  (.ev (.guard (.sym 2) true (.nn (.sym 0)))),
  (.ev (.guard (.sym 2) true (.padd 6 (.sym 3)))),
  (.ev (.guard (.sym 2) true (.ld false 1 (.sym 1) (.sym 4)))),
  (.ev (.ite (.sym 2) (.sym 5) (kb false)))]
  (.ret (.tcons (.sym 6) (.tcons (.sym 1) .tnil))))
noncomputable def e61 : Entry := { f := 61, kn := .plain, cf := (autoCfg true WRA PAN [] [] Try.f61), own := false, ones := [true], t := t61 }
theorem ok61 : EntOk Try.prog e61 := EntOk.ofPlain Try.func61 (by kernel_rfl) (by kernel_rfl)

noncomputable def t62 : T := (wrapBinds [(.ev (.mkptr (.cons (.scal (.sym 0)) .nil))),
  (.ev (.aggN 12 (.sym 1))),
  (.ev (.mkfn 95 .tnil (.tcons (.sym 3) .tnil))),
  (.ev (.cons (.scal (.cell 0 (.sym 4))) (.cons (.scal (.cell 1 (.sym 4))) (.cons zI (.cons zI (.cons zI (.cons zI (.cons zI (.cons zI (.cons zL (.cons zI (.cons zB (.cons zI .nil))))))))))))),
  (.ev (.aggN 12 (.sym 6))),
  (.ev (.lenL (.cell 8 (.sym 4)))),
  (.ev (.bin .eql .int (.sym 8) (ki 0))),
  (.call [] 52 (.sym 2) [(.cell 1 (.sym 4)), (ki 0), (ki 10000000)] [true])]
  (.join 0 13 (wrapBinds [(.ev (.bin .eql .int (.cell 0 (.sym 4)) (ki 1)))]
  (.join 1 11 (.ite (.sym 11) (wrapBinds [(.ev (.guard (.sym 10) true (.cell 2 (.sym 4)))),
  (.call [((.sym 10), true)] 52 (.sym 2) [(.sym 12), (ki 1), (ki 1000000)] [true]),
  (.ev (.ite (.sym 10) (.sym 13) (kb false)))]
  (.jump 1 [(.sym 9), (.sym 14), (.cell 2 (.sym 4)), (.cell 3 (.sym 7)), (.cell 4 (.sym 7)), (.cell 5 (.sym 7)), (.cell 6 (.sym 7)), (.cell 7 (.sym 7)), (.cell 9 (.sym 7)), (.cell 10 (.sym 7)), (.cell 11 (.sym 7))])) (wrapBinds [(.ev (.bin .eql .int (.cell 0 (.sym 4)) (ki 2)))]
  (.join 2 11 (.ite (.sym 12) (wrapBinds [(.ev (.guard (.sym 10) true (.cell 4 (.sym 4)))),
  (.callv [((.sym 10), true)] (.sym 5) (.sym 2) [(.sym 13)] [true]),
  (.ev (.ite (.sym 10) (.sym 14) (kb false))),
  (.ev (.guard (.sym 15) true (.cell 5 (.sym 4)))),
  (.callv [((.sym 15), true)] (.sym 5) (.sym 2) [(.sym 16)] [true]),
  (.ev (.ite (.sym 15) (.sym 17) (kb false))),
  (.ev (.guard (.sym 18) true (.cell 4 (.sym 4)))),
  (.ev (.guard (.sym 18) true (.cell 5 (.sym 4)))),
  (.ev (.guard (.sym 18) true (.bin .neq .int (.sym 19) (.sym 20)))),
  (.ev (.ite (.sym 18) (.sym 21) (kb false))),
  (.ev (.guard (.sym 22) true (.cell 2 (.sym 4)))),
  (.call [((.sym 22), true)] 52 (.sym 2) [(.sym 23), (ki 1), (ki 1000000)] [true]),
  (.ev (.ite (.sym 22) (.sym 24) (kb false))),
  (.ev (.guard (.sym 25) true (.cell 6 (.sym 4)))),
  (.call [((.sym 25), true)] 52 (.sym 2) [(.sym 26), (ki 1), (ki 10000)] [true]),
  (.ev (.ite (.sym 25) (.sym 27) (kb false))),
  (.ev (.guard (.sym 28) true (.cell 7 (.sym 4)))),
  (.ev (.guard (.sym 28) true (.cell 1 (.sym 4)))),
  (.call [((.sym 28), true)] 52 (.sym 2) [(.sym 29), (ki 0), (.sym 30)] [true]),
  (.ev (.ite (.sym 28) (.sym 31) (kb false))),
  (.ev (.guard (.sym 32) true (.cell 9 (.sym 4)))),
  (.call [((.sym 32), true)] 52 (.sym 2) [(.sym 33), (ki 0), (ki 1000000000)] [true]),
  (.ev (.ite (.sym 32) (.sym 34) (kb false))),
  (.ev (.lenL (.cell 8 (.sym 4)))),
  (.ev (.bin .leq .int (.sym 36) (ki 20))),
  (.ev (.lenL (.cell 8 (.sym 4))))]
  (.join 3 3 (.loop 4 [(.sym 37), (ki 0)] (wrapBinds [(.ev (.bin .lss .int (.sym 40) (.sym 38)))]
  (.ite (.sym 41) (.join 5 7 (wrapBinds [(.ev (.eaddr 1 (.cell 8 (.sym 4)) (.sym 40))),
  (.ev (.ld false 1 (.sym 2) (.sym 42))),
  (.call [((.sym 39), true)] 52 (.sym 2) [(.sym 43), (ki 1), (ki 1000)] [true]),
  (.ev (.ite (.sym 39) (.sym 44) (kb false))),
  (.ev (.guard (.sym 45) true (.bin .eql .int (.sym 40) (ki 0)))),
  (.ev (.guard (.sym 45) true (.guard (.sym 46) false (.cell 8 (.sym 4))))),
  (.ev (.guard (.sym 45) true (.guard (.sym 46) false (.bin .sub .int (.sym 40) (ki 1))))),
  (.ev (.guard (.sym 45) true (.guard (.sym 46) false (.eaddr 1 (.sym 47) (.sym 48))))),
  (.ev (.guard (.sym 45) true (.guard (.sym 46) false (.ld false 1 (.sym 2) (.sym 49))))),
  (.ev (.guard (.sym 45) true (.guard (.sym 46) false (.bin .gtr .int (.sym 43) (.sym 50))))),
  (.ev (.guard (.sym 45) true (.ite (.sym 46) (kb true) (.sym 51)))),
  (.ev (.ite (.sym 45) (.sym 52) (kb false)))]
  (.jump 5 [(.sym 53), (.sym 43), (.sym 42), (.sym 43), (.sym 45), (.sym 45), (.sym 53)])) (wrapBinds [(.ev (.bin .add .int (.sym 40) (ki 1)))]
  (.jump 4 [(.sym 42), (.sym 49)]))) (.jump 3 [(.sym 39), (.sym 40), (.sym 41)])))) (.jump 2 [(.sym 39), (.sym 35), (.cell 2 (.sym 4)), (.cell 3 (.sym 7)), (.cell 4 (.sym 4)), (.cell 5 (.sym 4)), (.cell 6 (.sym 4)), (.cell 7 (.sym 4)), (.cell 9 (.sym 4)), (.cell 10 (.sym 7)), (.cell 11 (.sym 7))]))) (wrapBinds [(.ev (.bin .eql .int (.cell 0 (.sym 4)) (ki 3)))]
  (.join 3 1 (.ite (.sym 13) (.jump 3 [(.sym 13)]) (wrapBinds [(.ev (.bin .eql .int (.cell 0 (.sym 4)) (ki 5)))]
  (.jump 3 [(.sym 14)]))) (.join 3 5 (.ite (.sym 14) (wrapBinds [(.ev (.guard (.sym 10) true (.cell 3 (.sym 4)))),
  (.ev (.guard (.sym 10) true (.bin .geq .int (.sym 15) (ki 0)))),
  (.ev (.ite (.sym 10) (.sym 16) (kb false))),
  (.ev (.guard (.sym 17) true (.cell 11 (.sym 4)))),
  (.call [((.sym 17), true)] 52 (.sym 2) [(.sym 18), (ki 0), (ki 36000000)] [true]),
  (.ev (.ite (.sym 17) (.sym 19) (kb false)))]
  (.jump 3 [(.sym 20), (.cell 4 (.sym 7)), (.cell 9 (.sym 7)), (.cell 10 (.sym 4)), (.cell 11 (.sym 4))])) (wrapBinds [(.ev (.bin .eql .int (.cell 0 (.sym 4)) (ki 4)))]
  (.join 4 2 (.ite (.sym 15) (wrapBinds [(.ev (.guard (.sym 10) true (.cell 3 (.sym 4)))),
  (.ev (.guard (.sym 10) true (.bin .geq .int (.sym 16) (ki 0)))),
  (.ev (.ite (.sym 10) (.sym 17) (kb false))),
  (.ev (.guard (.sym 18) true (.cell 4 (.sym 4)))),
  (.callv [((.sym 18), true)] (.sym 5) (.sym 2) [(.sym 19)] [true]),
  (.ev (.ite (.sym 18) (.sym 20) (kb false))),
  (.ev (.guard (.sym 21) true (.cell 9 (.sym 4)))),
  (.call [((.sym 21), true)] 52 (.sym 2) [(.sym 22), (ki 0), (ki 1000000000)] [true]),
  (.ev (.ite (.sym 21) (.sym 23) (kb false)))]
  (.jump 4 [(.sym 24), (.cell 9 (.sym 4))])) (wrapBinds [(.ev (.bin .eql .int (.cell 0 (.sym 4)) (ki 6)))]
  (.ite (.sym 16) (wrapBinds [(.ev (.guard (.sym 10) true (.cell 3 (.sym 4)))),
  (.ev (.guard (.sym 10) true (.bin .geq .int (.sym 17) (ki 0)))),
  (.ev (.ite (.sym 10) (.sym 18) (kb false))),
  (.ev (.guard (.sym 19) true (.cell 4 (.sym 4)))),
  (.callv [((.sym 19), true)] (.sym 5) (.sym 2) [(.sym 20)] [true]),
  (.ev (.ite (.sym 19) (.sym 21) (kb false)))]
  (.jump 4 [(.sym 22), (.cell 9 (.sym 7))])) (.ret (.tcons (kb false) (.tcons (.sym 2) .tnil)))))) (.jump 3 [(.sym 16), (.cell 4 (.sym 4)), (.sym 17), (.cell 10 (.sym 7)), (.cell 11 (.sym 7))])))) (.jump 2 [(.sym 9), (.sym 15), (.cell 2 (.sym 7)), (.cell 3 (.sym 4)), (.sym 16), (.cell 5 (.sym 7)), (.cell 6 (.sym 7)), (.cell 7 (.sym 7)), (.sym 17), (.sym 18), (.sym 19)]))))) (.jump 1 [(.sym 13), (.sym 14), (.sym 15), (.sym 16), (.sym 17), (.sym 18), (.sym 19), (.sym 20), (.sym 21), (.sym 22), (.sym 23)])))) (.jump 0 [(.sym 12), (.sym 13), (.sym 11), (.sym 11), (.sym 14), (.sym 15), (.sym 16), (.sym 17), (.sym 18), (.sym 19), (.sym 20), (.sym 21), (.sym 22)]))) (wrapBinds [(.ev (.ite (.sym 12) (.sym 11) (kb false))),
  (.ev (.guard (.sym 24) true (.cell 0 (.sym 4)))),
  (.ev (.guard (.sym 24) true (.cell 0 (.sym 7)))),
  (.ev (.guard (.sym 24) true (.bin .eql .int (.sym 25) (.sym 26)))),
  (.ev (.ite (.sym 24) (.sym 27) (kb false))),
  (.ev (.guard (.sym 28) true (.cell 1 (.sym 4)))),
  (.ev (.guard (.sym 28) true (.cell 1 (.sym 7)))),
  (.ev (.guard (.sym 28) true (.bin .eql .int (.sym 29) (.sym 30)))),
  (.ev (.ite (.sym 28) (.sym 31) (kb false))),
  (.ev (.guard (.sym 32) true (.cell 2 (.sym 4)))),
  (.ev (.guard (.sym 32) true (.bin .eql .int (.sym 33) (.sym 15)))),
  (.ev (.ite (.sym 32) (.sym 34) (kb false))),
  (.ev (.guard (.sym 35) true (.cell 3 (.sym 4)))),
  (.ev (.guard (.sym 35) true (.bin .eql .int (.sym 36) (.sym 16)))),
  (.ev (.ite (.sym 35) (.sym 37) (kb false))),
  (.ev (.guard (.sym 38) true (.cell 4 (.sym 4)))),
  (.ev (.guard (.sym 38) true (.bin .eql .int (.sym 39) (.sym 17)))),
  (.ev (.ite (.sym 38) (.sym 40) (kb false))),
  (.ev (.guard (.sym 41) true (.cell 5 (.sym 4)))),
  (.ev (.guard (.sym 41) true (.bin .eql .int (.sym 42) (.sym 18)))),
  (.ev (.ite (.sym 41) (.sym 43) (kb false))),
  (.ev (.guard (.sym 44) true (.cell 6 (.sym 4)))),
  (.ev (.guard (.sym 44) true (.bin .eql .int (.sym 45) (.sym 19)))),
  (.ev (.ite (.sym 44) (.sym 46) (kb false))),
  (.ev (.guard (.sym 47) true (.cell 7 (.sym 4)))),
  (.ev (.guard (.sym 47) true (.bin .eql .int (.sym 48) (.sym 20)))),
  (.ev (.ite (.sym 47) (.sym 49) (kb false))),
  (.ev (.guard (.sym 50) true (.cell 9 (.sym 4)))),
  (.ev (.guard (.sym 50) true (.bin .eql .int (.sym 51) (.sym 21)))),
  (.ev (.ite (.sym 50) (.sym 52) (kb false))),
  (.ev (.guard (.sym 53) true (.cell 10 (.sym 4)))),
  (.ev (.guard (.sym 53) true (.bin .eql .bool (.sym 54) (.sym 22)))),
  (.ev (.ite (.sym 53) (.sym 55) (kb false))),
  (.ev (.guard (.sym 56) true (.cell 11 (.sym 4)))),
  (.ev (.guard (.sym 56) true (.bin .eql .int (.sym 57) (.sym 23)))),
  (.ev (.ite (.sym 56) (.sym 58) (kb false)))]
  (.ret (.tcons (.sym 59) (.tcons (.sym 2) .tnil))))))
noncomputable def e62 : Entry := { f := 62, kn := .plain, cf := (autoCfg true WRA PAN [] [] Try.f62), own := false, ones := [true, false], t := t62 }
theorem ok62 : EntOk Try.prog e62 := EntOk.ofPlain Try.func62 (by kernel_rfl) (by kernel_rfl)

noncomputable def t95 : T := (wrapBinds [(.ev (.ld false 1 (.sym 2) (.sym 1))),
  (.ev (.nn (.sym 3))),
  (.ev (.padd 0 (.sym 4))),
  (.ev (.padd 0 (.sym 5))),
  (.ev (.ld false 1 (.sym 2) (.sym 6))),
  (.call [] 52 (.sym 2) [(.sym 0), (ki 1), (.sym 7)] [true])]
  (.ret (.tcons (.sym 8) (.tcons (.sym 2) .tnil))))
noncomputable def e95 : Entry := { f := 95, kn := .plain, cf := (autoCfg true WRA PAN [] [] Try.f95), own := false, ones := [true, true], t := t95 }
theorem ok95 : EntOk Try.prog e95 := EntOk.ofPlain Try.func95 (by kernel_rfl) (by kernel_rfl)

noncomputable def t64 : T := (wrapBinds [(.ev (.aggN 12 (.sym 1))),
  (.call [] 97 (.sym 2) [(.sym 0), (.cell 2 (.sym 3))] [true]),
  (.ev (.bin .geq .int (.sym 4) (ki 0)))]
  (.pcall 96 (.sym 2) [(.sym 5), (ki 6)] [] [] [] (.ret (.tcons (ki (-1)) (.tcons (.sym 2) .tnil)))))
noncomputable def e64 : Entry := { f := 64, kn := .plain, cf := (autoCfg true WRA PAN [] [] Try.f64), own := false, ones := [true, false], t := t64 }
theorem ok64 : EntOk Try.prog e64 := EntOk.ofPlain Try.func64 (by kernel_rfl) (by kernel_rfl)

noncomputable def t66 : T := (wrapBinds [(.ev (.aggN 12 (.sym 1)))]
  (.pcall 98 (.sym 2) [(.sym 0), (.cell 3 (.sym 3))] [false] [] [] (wrapBinds [(.ev (.aggN 2 (.sym 4)))]
  (.pcall 99 (.sym 2) [(.sym 0), (agc 2 (.sym 5))] [true] [] [] (wrapBinds [(.ev (.bin .neq .int (.sym 6) (ki 1)))]
  (.pcall 96 (.sym 2) [(.sym 7), (ki 6)] [] [] [] (.pcall 100 (.sym 2) [(.sym 0), (agc 2 (.sym 5)), (agc 12 (.sym 3))] [] [] [] (.ret (.tcons (.cell 3 (.sym 3)) (.tcons (.sym 2) .tnil))))))))))
noncomputable def e66 : Entry := { f := 66, kn := .plain, cf := (autoCfg true WRA PAN [] [] Try.f66), own := false, ones := [true, false], t := t66 }
theorem ok66 : EntOk Try.prog e66 := EntOk.ofPlain Try.func66 (by kernel_rfl) (by kernel_rfl)

noncomputable def t67 : T := (wrapBinds [(.ev (.aggN 12 (.sym 1)))]
  (.pcall 98 (.sym 2) [(.sym 0), (.cell 3 (.sym 3))] [false] [] [] (wrapBinds [(.ev (.aggN 2 (.sym 4)))]
  (.pcall 99 (.sym 2) [(.sym 0), (agc 2 (.sym 5))] [true] [] [] (wrapBinds [(.ev (.bin .neq .int (.sym 6) (ki 3)))]
  (.pcall 96 (.sym 2) [(.sym 7), (ki 6)] [] [] [] (wrapBinds [(.ev (.nn (.sym 0))),
  (.ev (.padd 7 (.sym 9))),
  (.ev (.ld false 1 (.sym 2) (.sym 10))),
  (.ev (.eaddr 12 (.sym 11) (.cell 0 (.sym 5)))),
  (.ev (.ld true 12 (.sym 2) (.sym 12))),
  (.ev (.aggN 12 (.sym 13))),
  (.ev (.bin .neq .int (.cell 4 (.sym 3)) (.cell 4 (.sym 14)))),
  (.ev (.guard (.sym 15) true (.cell 4 (.sym 3)))),
  (.ev (.guard (.sym 15) true (.cell 5 (.sym 14)))),
  (.ev (.guard (.sym 15) true (.bin .neq .int (.sym 16) (.sym 17)))),
  (.ev (.ite (.sym 15) (.sym 18) (kb false)))]
  (.pcall 96 (.sym 2) [(.sym 19), (ki 7)] [] [] [] (wrapBinds [(.ev (.nn (.sym 0))),
  (.ev (.padd 7 (.sym 21))),
  (.ev (.ld false 1 (.sym 2) (.sym 22))),
  (.ev (.lenL (.cell 1 (.sym 5)))),
  (.ev (.bin .sub .int (.sym 24) (ki 1))),
  (.ev (.eaddr 1 (.cell 1 (.sym 5)) (.sym 25))),
  (.ev (.ld false 1 (.sym 2) (.sym 26))),
  (.ev (.eaddr 12 (.sym 23) (.sym 27))),
  (.ev (.padd 1 (.sym 28))),
  (.ev (.ld false 1 (.sym 2) (.sym 29))),
  (.ev (.bin .sub .int (.cell 1 (.sym 3)) (.sym 30))),
  (.ev (.nn (.sym 0))),
  (.ev (.padd 0 (.sym 32))),
  (.ev (.padd 3 (.sym 33))),
  (.ev (.ld false 1 (.sym 2) (.sym 34))),
  (.ev (.bin .gtr .int (.sym 31) (.sym 35)))]
  (.pcall 96 (.sym 2) [(.sym 36), (ki 8)] [] [] [] (wrapBinds [(.ev (.nn (.sym 0))),
  (.ev (.padd 0 (.sym 38))),
  (.ev (.padd 5 (.sym 39))),
  (.ev (.ld false 1 (.sym 2) (.sym 40))),
  (.ev (.bin .neq .int (.cell 9 (.sym 3)) (.sym 41)))]
  (.pcall 96 (.sym 2) [(.sym 42), (ki 7)] [] [] [] (.ret (.tcons (.cell 3 (.sym 3)) (.tcons (.sym 2) .tnil)))))))))))))))
noncomputable def e67 : Entry := { f := 67, kn := .plain, cf := (autoCfg true WRA PAN [] [] Try.f67), own := false, ones := [true, false], t := t67 }
theorem ok67 : EntOk Try.prog e67 := EntOk.ofPlain Try.func67 (by kernel_rfl) (by kernel_rfl)

noncomputable def t68 : T := (wrapBinds [(.ev (.aggN 12 (.sym 1)))]
  (.pcall 98 (.sym 2) [(.sym 0), (.cell 3 (.sym 3))] [false] [] [] (wrapBinds [(.ev (.aggN 2 (.sym 4)))]
  (.pcall 99 (.sym 2) [(.sym 0), (agc 2 (.sym 5))] [true] [] [] (wrapBinds [(.ev (.bin .neq .int (.sym 6) (ki 4)))]
  (.pcall 96 (.sym 2) [(.sym 7), (ki 6)] [] [] [] (.pcall 100 (.sym 2) [(.sym 0), (agc 2 (.sym 5)), (agc 12 (.sym 3))] [] [] [] (.ret (.tcons (.cell 3 (.sym 3)) (.tcons (.sym 2) .tnil))))))))))
noncomputable def e68 : Entry := { f := 68, kn := .plain, cf := (autoCfg true WRA PAN [] [] Try.f68), own := false, ones := [true, false], t := t68 }
theorem ok68 : EntOk Try.prog e68 := EntOk.ofPlain Try.func68 (by kernel_rfl) (by kernel_rfl)

noncomputable def t69 : T := (wrapBinds [(.ev (.aggN 12 (.sym 1)))]
  (.pcall 98 (.sym 2) [(.sym 0), (.cell 3 (.sym 3))] [false] [] [] (wrapBinds [(.ev (.aggN 2 (.sym 4)))]
  (.pcall 99 (.sym 2) [(.sym 0), (agc 2 (.sym 5))] [true] [] [] (wrapBinds [(.ev (.bin .neq .int (.sym 6) (ki 1)))]
  (.pcall 96 (.sym 2) [(.sym 7), (ki 6)] [] [] [] (wrapBinds [(.ev (.nn (.sym 0))),
  (.ev (.padd 7 (.sym 9))),
  (.ev (.ld false 1 (.sym 2) (.sym 10))),
  (.ev (.eaddr 12 (.sym 11) (.cell 0 (.sym 5)))),
  (.ev (.padd 4 (.sym 12))),
  (.ev (.ld false 1 (.sym 2) (.sym 13))),
  (.ev (.bin .neq .int (.cell 4 (.sym 3)) (.sym 14)))]
  (.pcall 96 (.sym 2) [(.sym 15), (ki 7)] [] [] [] (.ret (.tcons (.cell 3 (.sym 3)) (.tcons (.sym 2) .tnil)))))))))))
noncomputable def e69 : Entry := { f := 69, kn := .plain, cf := (autoCfg true WRA PAN [] [] Try.f69), own := false, ones := [true, false], t := t69 }
theorem ok69 : EntOk Try.prog e69 := EntOk.ofPlain Try.func69 (by kernel_rfl) (by kernel_rfl)

noncomputable def t96 : T := (.join 0 0 (.ite (.sym 0) (wrapBinds [(.ev (.cons (.scal (.sym 1)) .nil))]
  (.pan (.m4 .isifc (.ifc 109 (.sym 3)) .nil .nil .nil) (.sym 2) [] [])) (.jump 0 [])) (.ret (.tcons .tnil (.tcons (.sym 2) .tnil))))
noncomputable def e96 : Entry := { f := 96, kn := .plain, cf := (autoCfg true WRA PAN [] [] Try.f96), own := false, ones := [true, true], t := t96 }
theorem ok96 : EntOk Try.prog e96 := EntOk.ofPlain Try.func96 (by kernel_rfl) (by kernel_rfl)

noncomputable def t97 : T := (wrapBinds [(.ev (.mkptr (.cons (.scal (.sym 1)) .nil))),
  (.ev (.nn (.sym 0))),
  (.ev (.padd 7 (.sym 4))),
  (.ev (.ld false 1 (.sym 2) (.sym 5))),
  (.ev (.mkfn 110 .tnil (.tcons (.sym 3) .tnil))),
  (.call [] 86 (.sym 2) [(.sym 6), (.sym 7)] [true]),
  (.ev (.bin .lss .int (.sym 8) (ki 0)))]
  (.ite (.sym 9) (.ret (.tcons (ki (-1)) (.tcons (.sym 2) .tnil))) (wrapBinds [(.ev (.nn (.sym 0))),
  (.ev (.padd 7 (.sym 10))),
  (.ev (.ld false 1 (.sym 2) (.sym 11))),
  (.ev (.eaddr 12 (.sym 12) (.sym 8))),
  (.ev (.padd 1 (.sym 13))),
  (.ev (.ld false 1 (.sym 2) (.sym 14)))]
  (.ret (.tcons (.sym 15) (.tcons (.sym 2) .tnil))))))
noncomputable def e97 : Entry := { f := 97, kn := .plain, cf := (autoCfg true WRA PAN [] [] Try.f97), own := false, ones := [true, true], t := t97 }
theorem ok97 : EntOk Try.prog e97 := EntOk.ofPlain Try.func97 (by kernel_rfl) (by kernel_rfl)

noncomputable def t86 : T := (wrapBinds [(.ev (.lenL (.sym 0)))]
  (.join 0 2 (.loop 1 [(ki 0)] (wrapBinds [(.ev (.bin .lss .int (.sym 4) (.sym 3)))]
  (.ite (.sym 5) (.join 2 3 (wrapBinds [(.ev (.eaddr 12 (.sym 0) (.sym 4))),
  (.ev (.ld true 12 (.sym 2) (.sym 6))),
  (.callv [] (.sym 1) (.sym 2) [(.sym 7)] [true])]
  (.ite (.sym 8) (.ret (.tcons (.sym 4) (.tcons (.sym 2) .tnil))) (.jump 2 [(.sym 6), (.sym 7), (.sym 8)]))) (wrapBinds [(.ev (.bin .add .int (.sym 4) (ki 1)))]
  (.jump 1 [(.sym 9)]))) (.jump 0 [(.sym 4), (.sym 5)])))) (.ret (.tcons (ki (-1)) (.tcons (.sym 2) .tnil)))))
noncomputable def e86 : Entry := { f := 86, kn := .plain, cf := (autoCfg true WRA PAN [] [] Try.f86), own := false, ones := [true, true], t := t86 }
theorem ok86 : EntOk Try.prog e86 := EntOk.ofPlain Try.func86 (by kernel_rfl) (by kernel_rfl)

noncomputable def t110 : T := (wrapBinds [(.ev (.aggN 12 (.sym 0))),
  (.ev (.bin .eql .int (.cell 0 (.sym 3)) (ki 1))),
  (.ev (.guard (.sym 4) true (.cell 2 (.sym 3)))),
  (.ev (.guard (.sym 4) true (.ld false 1 (.sym 2) (.sym 1)))),
  (.ev (.guard (.sym 4) true (.bin .eql .int (.sym 5) (.sym 6)))),
  (.ev (.ite (.sym 4) (.sym 7) (kb false)))]
  (.ret (.tcons (.sym 8) (.tcons (.sym 2) .tnil))))
noncomputable def e110 : Entry := { f := 110, kn := .plain, cf := (autoCfg true WRA PAN [] [] Try.f110), own := false, ones := [false, true], t := t110 }
theorem ok110 : EntOk Try.prog e110 := EntOk.ofPlain Try.func110 (by kernel_rfl) (by kernel_rfl)

noncomputable def t81 : T := (wrapBinds [(.ev (.aggN 6 (.sym 0))),
  (.ev (.lenL (.cell 1 (.sym 4))))]
  (.join 0 3 (.loop 1 [(ki (-1)), (ki 0)] (wrapBinds [(.ev (.bin .lss .int (.sym 7) (.sym 5)))]
  (.ite (.sym 8) (.join 2 11 (wrapBinds [(.ev (.eaddr 4 (.cell 1 (.sym 4)) (.sym 7))),
  (.ev (.ld true 4 (.sym 3) (.sym 9))),
  (.ev (.aggN 4 (.sym 10))),
  (.ev (.bin .eql .int (.cell 0 (.sym 11)) (.sym 1))),
  (.ev (.guard (.sym 12) true (.cell 1 (.sym 11)))),
  (.ev (.guard (.sym 12) true (.bin .leq .int (.sym 13) (.sym 2)))),
  (.ev (.ite (.sym 12) (.sym 14) (kb false)))]
  (.join 3 1 (.ite (.sym 15) (.jump 3 [(.sym 7)]) (.jump 3 [(.sym 6)])) (.jump 2 [(.sym 16), (.sym 9), (.sym 10), (.cell 0 (.sym 11)), (.sym 12), (.sym 12), (.sym 15), (.cell 0 (.sym 11)), (.cell 1 (.sym 11)), (.cell 2 (.sym 11)), (.cell 3 (.sym 11))]))) (wrapBinds [(.ev (.bin .add .int (.sym 7) (ki 1)))]
  (.jump 1 [(.sym 9), (.sym 20)]))) (.jump 0 [(.sym 6), (.sym 7), (.sym 8)])))) (wrapBinds [(.ev (.bin .geq .int (.sym 6) (ki 0)))]
  (.ret (.tcons (.tcons (.sym 6) (.tcons (.sym 9) .tnil)) (.tcons (.sym 3) .tnil))))))
noncomputable def e81 : Entry := { f := 81, kn := .plain, cf := (autoCfg true WRA PAN [] [] Try.f81), own := false, ones := [false, true, true], t := t81 }
theorem ok81 : EntOk Try.prog e81 := EntOk.ofPlain Try.func81 (by kernel_rfl) (by kernel_rfl)

noncomputable def t98 : T := (wrapBinds [(.ev (.nn (.sym 0))),
  (.ev (.padd 8 (.sym 3))),
  (.ev (.ld false 1 (.sym 2) (.sym 4))),
  (.ev (.lenL (.sym 5))),
  (.ev (.bin .geq .int (.sym 1) (.sym 6)))]
  (.pcall 96 (.sym 2) [(.sym 7), (ki 5)] [] [] [] (wrapBinds [(.ev (.nn (.sym 0))),
  (.ev (.padd 8 (.sym 9))),
  (.ev (.ld false 1 (.sym 2) (.sym 10))),
  (.ev (.eaddr 2 (.sym 11) (.sym 1))),
  (.ev (.ld true 2 (.sym 2) (.sym 12))),
  (.ev (.aggN 2 (.sym 13)))]
  (.ret (.tcons (agc 2 (.sym 14)) (.tcons (.sym 2) .tnil))))))
noncomputable def e98 : Entry := { f := 98, kn := .plain, cf := (autoCfg true WRA PAN [] [] Try.f98), own := false, ones := [true, true], t := t98 }
theorem ok98 : EntOk Try.prog e98 := EntOk.ofPlain Try.func98 (by kernel_rfl) (by kernel_rfl)

noncomputable def t99 : T := (wrapBinds [(.ev (.aggN 2 (.sym 1))),
  (.ev (.nn (.sym 0))),
  (.ev (.padd 7 (.sym 4))),
  (.ev (.ld false 1 (.sym 2) (.sym 5))),
  (.ev (.lenL (.cell 1 (.sym 3)))),
  (.ev (.bin .sub .int (.sym 7) (ki 1))),
  (.ev (.eaddr 1 (.cell 1 (.sym 3)) (.sym 8))),
  (.ev (.ld false 1 (.sym 2) (.sym 9))),
  (.ev (.eaddr 12 (.sym 6) (.sym 10))),
  (.ev (.padd 1 (.sym 11))),
  (.ev (.ld false 1 (.sym 2) (.sym 12))),
  (.call [] 73 (.sym 2) [(.sym 0), (agc 2 (.sym 3)), (.sym 13)] [true])]
  (.ret (.tcons (.sym 14) (.tcons (.sym 2) .tnil))))
noncomputable def e99 : Entry := { f := 99, kn := .plain, cf := (autoCfg true WRA PAN [] [] Try.f99), own := false, ones := [true, false], t := t99 }
theorem ok99 : EntOk Try.prog e99 := EntOk.ofPlain Try.func99 (by kernel_rfl) (by kernel_rfl)

noncomputable def t73 : T := (wrapBinds [(.ev (.aggN 2 (.sym 1))),
  (.ev (.lenL (.cell 1 (.sym 4))))]
  (.join 0 3 (.loop 1 [(ki 1), (ki 0)] (wrapBinds [(.ev (.bin .lss .int (.sym 7) (.sym 5)))]
  (.ite (.sym 8) (.join 2 27 (wrapBinds [(.ev (.eaddr 1 (.cell 1 (.sym 4)) (.sym 7))),
  (.ev (.ld false 1 (.sym 3) (.sym 9))),
  (.ev (.nn (.sym 0))),
  (.ev (.padd 7 (.sym 11))),
  (.ev (.ld false 1 (.sym 3) (.sym 12))),
  (.ev (.eaddr 12 (.sym 13) (.sym 10))),
  (.ev (.ld true 12 (.sym 3) (.sym 14))),
  (.ev (.aggN 12 (.sym 15))),
  (.ev (.bin .gtr .int (.cell 1 (.sym 16)) (.sym 2)))]
  (.ite (.sym 17) (.jump 0 [(.sym 6), (.sym 7), (.sym 8)]) (.join 3 3 (wrapBinds [(.ev (.bin .eql .int (.cell 0 (.sym 16)) (ki 6)))]
  (.join 4 1 (.ite (.sym 18) (.jump 4 [(ki 2)]) (wrapBinds [(.ev (.bin .eql .int (.cell 0 (.sym 16)) (ki 3)))]
  (.join 5 1 (.ite (.sym 19) (wrapBinds [(.ev (.bin .sub .int (.sym 2) (.cell 1 (.sym 16)))),
  (.ev (.nn (.sym 0))),
  (.ev (.padd 0 (.sym 21))),
  (.ev (.padd 3 (.sym 22))),
  (.ev (.ld false 1 (.sym 3) (.sym 23))),
  (.ev (.bin .gtr .int (.sym 20) (.sym 24)))]
  (.join 6 1 (.ite (.sym 25) (.jump 6 [(ki 5)]) (.jump 6 [(ki 3)])) (.jump 5 [(.sym 26)]))) (wrapBinds [(.ev (.bin .eql .int (.cell 0 (.sym 16)) (ki 4)))]
  (.join 6 1 (.ite (.sym 20) (.jump 6 [(ki 4)]) (wrapBinds [(.ev (.bin .eql .int (.cell 0 (.sym 16)) (ki 5)))]
  (.join 7 1 (.ite (.sym 21) (.jump 7 [(ki 5)]) (.jump 7 [(.sym 6)])) (.jump 6 [(.sym 22)])))) (.jump 5 [(.sym 21)])))) (.jump 4 [(.sym 20)])))) (.jump 3 [(.sym 19), (.sym 18), (.sym 18)]))) (.jump 2 [(.sym 18), (.sym 10), (.sym 9), (.sym 10), (.sym 11), (.sym 12), (.sym 13), (.sym 10), (.sym 14), (.sym 15), (.cell 1 (.sym 16)), (.sym 17), (.cell 0 (.sym 16)), (.sym 19), (.sym 20), (.cell 0 (.sym 16)), (.cell 1 (.sym 16)), (.cell 2 (.sym 16)), (.cell 3 (.sym 16)), (.cell 4 (.sym 16)), (.cell 5 (.sym 16)), (.cell 6 (.sym 16)), (.cell 7 (.sym 16)), (.cell 8 (.sym 16)), (.cell 9 (.sym 16)), (.cell 10 (.sym 16)), (.cell 11 (.sym 16))])))) (wrapBinds [(.ev (.bin .add .int (.sym 7) (ki 1)))]
  (.jump 1 [(.sym 9), (.sym 36)]))) (.jump 0 [(.sym 6), (.sym 7), (.sym 8)])))) (.ret (.tcons (.sym 6) (.tcons (.sym 3) .tnil)))))
noncomputable def e73 : Entry := { f := 73, kn := .plain, cf := (autoCfg true WRA PAN [] [] Try.f73), own := false, ones := [true, false, true], t := t73 }
theorem ok73 : EntOk Try.prog e73 := EntOk.ofPlain Try.func73 (by kernel_rfl) (by kernel_rfl)

noncomputable def t100 : T := (wrapBinds [(.ev (.aggN 2 (.sym 1))),
  (.ev (.aggN 12 (.sym 2))),
  (.ev (.nn (.sym 0))),
  (.ev (.padd 7 (.sym 6))),
  (.ev (.ld false 1 (.sym 3) (.sym 7))),
  (.ev (.eaddr 12 (.sym 8) (.cell 0 (.sym 4)))),
  (.ev (.ld true 12 (.sym 3) (.sym 9))),
  (.ev (.aggN 12 (.sym 10))),
  (.ev (.nn (.sym 0))),
  (.ev (.padd 0 (.sym 12))),
  (.ev (.ld true 6 (.sym 3) (.sym 13))),
  (.call [] 81 (.sym 3) [(.sym 14), (.cell 6 (.sym 11)), (.cell 7 (.sym 11))] [true, true]),
  (.ev (.nn (.sym 0))),
  (.ev (.padd 0 (.sym 16))),
  (.ev (.padd 1 (.sym 17))),
  (.ev (.ld false 1 (.sym 3) (.sym 18))),
  (.ev (.eaddr 4 (.sym 19) (.tget 0 (.sym 15)))),
  (.ev (.ld true 4 (.sym 3) (.sym 20))),
  (.ev (.aggN 4 (.sym 21))),
  (.ev (.guard (.cell 10 (.sym 5)) true (.cell 11 (.sym 5)))),
  (.ev (.guard (.cell 10 (.sym 5)) true (.cell 2 (.sym 22)))),
  (.ev (.guard (.cell 10 (.sym 5)) true (.cell 3 (.sym 22)))),
  (.call [((.cell 10 (.sym 5)), true)] 52 (.sym 3) [(.sym 23), (.sym 24), (.sym 25)] [true]),
  (.ev (.guard (.cell 10 (.sym 5)) true (.un .not (.sym 26)))),
  (.ev (.ite (.cell 10 (.sym 5)) (.sym 27) (kb false))),
  (.ev (.guard (.sym 28) false (.cell 10 (.sym 5)))),
  (.ev (.guard (.sym 28) false (.un .not (.sym 29)))),
  (.ev (.guard (.sym 28) false (.guard (.sym 30) true (.cell 11 (.sym 5))))),
  (.ev (.guard (.sym 28) false (.guard (.sym 30) true (.bin .neq .int (.sym 31) (ki 0))))),
  (.ev (.guard (.sym 28) false (.ite (.sym 30) (.sym 32) (kb false)))),
  (.ev (.ite (.sym 28) (kb true) (.sym 33)))]
  (.pcall 96 (.sym 3) [(.sym 34), (ki 7)] [] [] [] (.ret (.tcons .tnil (.tcons (.sym 3) .tnil)))))
noncomputable def e100 : Entry := { f := 100, kn := .plain, cf := (autoCfg true WRA PAN [] [] Try.f100), own := false, ones := [true, false, false], t := t100 }
theorem ok100 : EntOk Try.prog e100 := EntOk.ofPlain Try.func100 (by kernel_rfl) (by kernel_rfl)

noncomputable def t70 : T := (.nilq (.sym 0) false (.ite (.sym 2) (.ret (.tcons (.const (.lst [])) (.tcons (.sym 1) .tnil))) (wrapBinds [(.ev (.const (.lst []))),
  (.ev (.app 1 8 (.sym 3) (.sym 0)))]
  (.ret (.tcons (.sym 4) (.tcons (.sym 1) .tnil))))))
noncomputable def e70 : Entry := { f := 70, kn := .plain, cf := (autoCfg true WRA PAN [] [] Try.f70), own := false, ones := [true], t := t70 }
theorem ok70 : EntOk Try.prog e70 := EntOk.ofPlain Try.func70 (by kernel_rfl) (by kernel_rfl)

noncomputable def t74 : T := (wrapBinds [(.call [] 61 (.sym 3) [(.sym 0)] [true]),
  (.ev (.un .not (.sym 4)))]
  (.ite (.sym 5) (.ret (.tcons (ki 1) (.tcons (.sym 3) .tnil))) (wrapBinds [(.ev (.nn (.sym 0))),
  (.ev (.padd 0 (.sym 6))),
  (.ev (.padd 0 (.sym 7))),
  (.ev (.ld false 1 (.sym 3) (.sym 8))),
  (.call [] 52 (.sym 3) [(.sym 1), (ki 1), (.sym 9)] [true]),
  (.ev (.un .not (.sym 10))),
  (.call [((.sym 11), false)] 52 (.sym 3) [(.sym 2), (ki 0), (ki 10000000)] [true]),
  (.ev (.guard (.sym 11) false (.un .not (.sym 12)))),
  (.ev (.ite (.sym 11) (kb true) (.sym 13)))]
  (.ite (.sym 14) (.ret (.tcons (ki 2) (.tcons (.sym 3) .tnil))) (.ret (.tcons (ki 0) (.tcons (.sym 3) .tnil)))))))
noncomputable def e74 : Entry := { f := 74, kn := .plain, cf := (autoCfg true WRA PAN [] [] Try.f74), own := false, ones := [true, true, true], t := t74 }
theorem ok74 : EntOk Try.prog e74 := EntOk.ofPlain Try.func74 (by kernel_rfl) (by kernel_rfl)

noncomputable def t75 : T := (wrapBinds [(.ev (.nn (.sym 0))),
  (.ev (.padd 8 (.sym 4))),
  (.ev (.ld false 1 (.sym 3) (.sym 5))),
  (.ev (.lenL (.sym 6)))]
  (.join 0 3 (.loop 1 [(.const (.lst [])), (ki 0)] (wrapBinds [(.ev (.bin .lss .int (.sym 9) (.sym 7)))]
  (.ite (.sym 10) (.join 2 9 (wrapBinds [(.ev (.eaddr 2 (.sym 6) (.sym 9))),
  (.ev (.ld true 2 (.sym 3) (.sym 11))),
  (.ev (.aggN 2 (.sym 12))),
  (.call [] 72 (.sym 3) [(.sym 0), (agc 2 (.sym 13)), (.sym 2)] [true]),
  (.ev (.guard (.sym 14) true (.nn (.sym 0)))),
  (.ev (.guard (.sym 14) true (.padd 7 (.sym 15)))),
  (.ev (.guard (.sym 14) true (.ld false 1 (.sym 3) (.sym 16)))),
  (.ev (.guard (.sym 14) true (.cell 0 (.sym 13)))),
  (.ev (.guard (.sym 14) true (.eaddr 12 (.sym 17) (.sym 18)))),
  (.ev (.guard (.sym 14) true (.padd 5 (.sym 19)))),
  (.ev (.guard (.sym 14) true (.ld false 1 (.sym 3) (.sym 20)))),
  (.ev (.guard (.sym 14) true (.bin .eql .int (.sym 21) (.sym 1)))),
  (.ev (.ite (.sym 14) (.sym 22) (kb false)))]
  (.join 3 1 (.ite (.sym 23) (wrapBinds [(.ev (.lcons (.aggN 2 (agc 2 (.sym 13))) (.const (.lst [])))),
  (.ev (.app 2 32 (.sym 8) (.sym 24)))]
  (.jump 3 [(.sym 25)])) (.jump 3 [(.sym 8)])) (.jump 2 [(.sym 24), (.sym 11), (.sym 12), (agc 2 (.sym 13)), (.sym 14), (.sym 14), (.sym 23), (.cell 0 (.sym 13)), (.cell 1 (.sym 13))]))) (wrapBinds [(.ev (.bin .add .int (.sym 9) (ki 1)))]
  (.jump 1 [(.sym 11), (.sym 20)]))) (.jump 0 [(.sym 8), (.sym 9), (.sym 10)])))) (.ret (.tcons (.sym 8) (.tcons (.sym 3) .tnil)))))
noncomputable def e75 : Entry := { f := 75, kn := .plain, cf := (autoCfg true WRA PAN [] [] Try.f75), own := false, ones := [true, true, true], t := t75 }
theorem ok75 : EntOk Try.prog e75 := EntOk.ofPlain Try.func75 (by kernel_rfl) (by kernel_rfl)

noncomputable def t72 : T := (wrapBinds [(.ev (.aggN 2 (.sym 1))),
  (.ev (.nn (.sym 0))),
  (.ev (.padd 7 (.sym 5))),
  (.ev (.ld false 1 (.sym 3) (.sym 6))),
  (.ev (.eaddr 12 (.sym 7) (.cell 0 (.sym 4)))),
  (.ev (.padd 1 (.sym 8))),
  (.ev (.ld false 1 (.sym 3) (.sym 9))),
  (.ev (.bin .leq .int (.sym 10) (.sym 2)))]
  (.ret (.tcons (.sym 11) (.tcons (.sym 3) .tnil))))
noncomputable def e72 : Entry := { f := 72, kn := .plain, cf := (autoCfg true WRA PAN [] [] Try.f72), own := false, ones := [true, false, true], t := t72 }
theorem ok72 : EntOk Try.prog e72 := EntOk.ofPlain Try.func72 (by kernel_rfl) (by kernel_rfl)

noncomputable def t76 : T := (wrapBinds [(.ev (.aggN 2 (.sym 1))),
  (.call [] 73 (.sym 3) [(.sym 0), (agc 2 (.sym 4)), (.sym 2)] [true]),
  (.ev (.bin .neq .int (.sym 5) (ki 3))),
  (.ev (.guard (.sym 6) true (.bin .neq .int (.sym 5) (ki 5)))),
  (.ev (.ite (.sym 6) (.sym 7) (kb false)))]
  (.ite (.sym 8) (.ret (.tcons (.tcons (ki 0) (.tcons (kb false) .tnil)) (.tcons (.sym 3) .tnil))) (wrapBinds [(.call [] 84 (.sym 3) [(.sym 0), (agc 2 (.sym 4)), (.sym 2)] [false, true]),
  (.ev (.aggN 12 (.tget 0 (.sym 9)))),
  (.ev (.guard (.tget 1 (.sym 9)) true (.cell 10 (.sym 10)))),
  (.ev (.ite (.tget 1 (.sym 9)) (.sym 11) (kb false)))]
  (.ret (.tcons (.tcons (.cell 11 (.sym 10)) (.tcons (.sym 12) .tnil)) (.tcons (.sym 3) .tnil))))))
noncomputable def e76 : Entry := { f := 76, kn := .plain, cf := (autoCfg true WRA PAN [] [] Try.f76), own := false, ones := [true, false, true], t := t76 }
theorem ok76 : EntOk Try.prog e76 := EntOk.ofPlain Try.func76 (by kernel_rfl) (by kernel_rfl)

noncomputable def t84 : T := (wrapBinds [(.ev (.aggN 2 (.sym 1))),
  (.ev (.lenL (.cell 1 (.sym 4))))]
  (.join 0 15 (.loop 1 [(kb false), (ki 0), (ki 0), (ki 0), (ki 0), (ki 0), (ki 0), (ki 0), (ki 0), (ki 0), (.const (.lst [])), (ki 0), (kb false), (ki 0)] (wrapBinds [(.ev (.bin .lss .int (.sym 7) (.sym 5)))]
  (.ite (.sym 20) (.join 2 38 (wrapBinds [(.ev (.eaddr 1 (.cell 1 (.sym 4)) (.sym 7))),
  (.ev (.ld false 1 (.sym 3) (.sym 21))),
  (.ev (.nn (.sym 0))),
  (.ev (.padd 7 (.sym 23))),
  (.ev (.ld false 1 (.sym 3) (.sym 24))),
  (.ev (.eaddr 12 (.sym 25) (.sym 22))),
  (.ev (.ld true 12 (.sym 3) (.sym 26))),
  (.ev (.aggN 12 (.sym 27))),
  (.ev (.bin .leq .int (.cell 1 (.sym 28)) (.sym 2))),
  (.ev (.guard (.sym 29) true (.cell 0 (.sym 28)))),
  (.ev (.guard (.sym 29) true (.bin .eql .int (.sym 30) (ki 3)))),
  (.ev (.guard (.sym 29) true (.guard (.sym 31) false (.cell 0 (.sym 28))))),
  (.ev (.guard (.sym 29) true (.guard (.sym 31) false (.bin .eql .int (.sym 32) (ki 5))))),
  (.ev (.guard (.sym 29) true (.ite (.sym 31) (kb true) (.sym 33)))),
  (.ev (.ite (.sym 29) (.sym 34) (kb false)))]
  (.join 3 13 (.ite (.sym 35) (.jump 3 [(kb true), (.cell 0 (.sym 28)), (.cell 1 (.sym 28)), (.cell 2 (.sym 28)), (.cell 3 (.sym 28)), (.cell 4 (.sym 28)), (.cell 5 (.sym 28)), (.cell 6 (.sym 28)), (.cell 7 (.sym 28)), (.cell 8 (.sym 28)), (.cell 9 (.sym 28)), (.cell 10 (.sym 28)), (.cell 11 (.sym 28))]) (.jump 3 [(.sym 6), (.sym 8), (.sym 9), (.sym 10), (.sym 11), (.sym 12), (.sym 13), (.sym 14), (.sym 15), (.sym 16), (.sym 17), (.sym 18), (.sym 19)])) (.jump 2 [(.sym 36), (.sym 22), (.sym 21), (.sym 22), (.sym 23), (.sym 24), (.sym 25), (.sym 22), (.sym 26), (.sym 27), (.cell 1 (.sym 28)), (.sym 29), (.sym 29), (.sym 35), (.sym 37), (.sym 38), (.sym 39), (.sym 40), (.sym 41), (.sym 42), (.sym 43), (.sym 44), (.sym 45), (.sym 46), (.sym 47), (.sym 48), (.cell 0 (.sym 28)), (.cell 1 (.sym 28)), (.cell 2 (.sym 28)), (.cell 3 (.sym 28)), (.cell 4 (.sym 28)), (.cell 5 (.sym 28)), (.cell 6 (.sym 28)), (.cell 7 (.sym 28)), (.cell 8 (.sym 28)), (.cell 9 (.sym 28)), (.cell 10 (.sym 28)), (.cell 11 (.sym 28))]))) (wrapBinds [(.ev (.bin .add .int (.sym 7) (ki 1)))]
  (.jump 1 [(.sym 21), (.sym 59), (.sym 35), (.sym 36), (.sym 37), (.sym 38), (.sym 39), (.sym 40), (.sym 41), (.sym 42), (.sym 43), (.sym 44), (.sym 45), (.sym 46)]))) (.jump 0 [(.sym 6), (.sym 7), (.sym 20), (.sym 8), (.sym 9), (.sym 10), (.sym 11), (.sym 12), (.sym 13), (.sym 14), (.sym 15), (.sym 16), (.sym 17), (.sym 18), (.sym 19)])))) (.ret (.tcons (.tcons (.cons (.sym 9) (.cons (.sym 10) (.cons (.sym 11) (.cons (.sym 12) (.cons (.sym 13) (.cons (.sym 14) (.cons (.sym 15) (.cons (.sym 16) (.cons (.sym 17) (.cons (.sym 18) (.cons (.sym 19) (.cons (.sym 20) .nil)))))))))))) (.tcons (.sym 6) .tnil)) (.tcons (.sym 3) .tnil)))))
noncomputable def e84 : Entry := { f := 84, kn := .plain, cf := (autoCfg true WRA PAN [] [] Try.f84), own := false, ones := [true, false, true], t := t84 }
theorem ok84 : EntOk Try.prog e84 := EntOk.ofPlain Try.func84 (by kernel_rfl) (by kernel_rfl)

noncomputable def t77 : T := (wrapBinds [(.ev (.mkptr (.cons (.scal (.sym 0)) .nil))),
  (.ev (.mkptr (.cons (.scal (.sym 1)) .nil))),
  (.ev (.mkfn 101 .tnil (.tcons (.sym 3) (.tcons (.sym 4) .tnil))))]
  (.ret (.tcons (.sym 5) (.tcons (.sym 2) .tnil))))
noncomputable def e77 : Entry := { f := 77, kn := .plain, cf := (autoCfg true WRA PAN [] [] Try.f77), own := false, ones := [true, true], t := t77 }
theorem ok77 : EntOk Try.prog e77 := EntOk.ofPlain Try.func77 (by kernel_rfl) (by kernel_rfl)

noncomputable def t17 : T := (wrapBinds [(.call [] 52 (.sym 2) [(.sym 0), (ki 0), (ki 1000000000000)] [true]),
  (.ev (.un .not (.sym 3))),
  (.call [((.sym 4), false)] 53 (.sym 2) [(.sym 1)] [true]),
  (.ev (.guard (.sym 4) false (.un .not (.sym 5)))),
  (.ev (.ite (.sym 4) (kb true) (.sym 6)))]
  (.ite (.sym 7) (.ret (.tcons (.tcons (.const (.lst [])) (.tcons (ki 2) .tnil)) (.tcons (.sym 2) .tnil))) (wrapBinds [(.call [] 54 (.sym 2) [(.sym 0), (.sym 1)] [true])]
  (.ret (.tcons (.tcons (.sym 8) (.tcons (ki 0) .tnil)) (.tcons (.sym 2) .tnil))))))
noncomputable def e17 : Entry := { f := 17, kn := .plain, cf := (autoCfg true WRA PAN [] [] Try.f17), own := false, ones := [true, true], t := t17 }
theorem ok17 : EntOk Try.prog e17 := EntOk.ofPlain Try.func17 (by kernel_rfl) (by kernel_rfl)

noncomputable def t53 : T := (wrapBinds [(.ev (.lenL (.sym 0))),
  (.call [] 52 (.sym 1) [(.sym 2), (ki 1), (ki 100)] [true]),
  (.call [((.sym 3), true)] 79 (.sym 1) [(.sym 0), (.const (.fn 90 [] []))] [true]),
  (.ev (.guard (.sym 3) true (.un .not (.sym 4)))),
  (.ev (.ite (.sym 3) (.sym 5) (kb false))),
  (.call [((.sym 6), true)] 91 (.sym 1) [(.sym 0)] [true]),
  (.ev (.guard (.sym 6) true (.bin .gtr .int (.sym 7) (ki 0)))),
  (.ev (.ite (.sym 6) (.sym 8) (kb false)))]
  (.ret (.tcons (.sym 9) (.tcons (.sym 1) .tnil))))
noncomputable def e53 : Entry := { f := 53, kn := .plain, cf := (autoCfg true WRA PAN [] [] Try.f53), own := false, ones := [true], t := t53 }
theorem ok53 : EntOk Try.prog e53 := EntOk.ofPlain Try.func53 (by kernel_rfl) (by kernel_rfl)

noncomputable def t79 : T := (wrapBinds [(.call [] 103 (.sym 2) [(.sym 0), (.sym 1)] [true]),
  (.ev (.bin .geq .int (.sym 3) (ki 0)))]
  (.ret (.tcons (.sym 4) (.tcons (.sym 2) .tnil))))
noncomputable def e79 : Entry := { f := 79, kn := .plain, cf := (autoCfg true WRA PAN [] [] Try.f79), own := false, ones := [true, true], t := t79 }
theorem ok79 : EntOk Try.prog e79 := EntOk.ofPlain Try.func79 (by kernel_rfl) (by kernel_rfl)

noncomputable def t90 : T := (wrapBinds [(.call [] 52 (.sym 1) [(.sym 0), (ki 0), (ki 1000000)] [true]),
  (.ev (.un .not (.sym 2)))]
  (.ret (.tcons (.sym 3) (.tcons (.sym 1) .tnil))))
noncomputable def e90 : Entry := { f := 90, kn := .plain, cf := (autoCfg true WRA PAN [] [] Try.f90), own := false, ones := [true], t := t90 }
theorem ok90 : EntOk Try.prog e90 := EntOk.ofPlain Try.func90 (by kernel_rfl) (by kernel_rfl)

noncomputable def t91 : T := (wrapBinds [(.ev (.lenL (.sym 0))),
  (.ev (.bin .lss .int (.sym 2) (ki 1)))]
  (.join 0 0 (.ite (.sym 3) (.pan (.m4 .isifc (.ifc 9 (.const (.v (.string ⟨#[115, 108, 105, 99, 101, 115, 46, 77, 97, 120, 58, 32, 101, 109, 112, 116, 121, 32, 108, 105, 115, 116]⟩)))) .nil .nil .nil) (.sym 1) [] []) (.jump 0 [])) (wrapBinds [(.ev (.eaddr 1 (.sym 0) (ki 0))),
  (.ev (.ld false 1 (.sym 1) (.sym 4)))]
  (.join 0 5 (.loop 1 [(.sym 5), (ki 1)] (wrapBinds [(.ev (.lenL (.sym 0))),
  (.ev (.bin .lss .int (.sym 7) (.sym 8)))]
  (.ite (.sym 9) (.join 2 4 (wrapBinds [(.ev (.eaddr 1 (.sym 0) (.sym 7))),
  (.ev (.ld false 1 (.sym 1) (.sym 10))),
  (.ev (.mm true (.sym 6) (.sym 11)))]
  (.jump 2 [(.sym 12), (.sym 10), (.sym 11), (.sym 12)])) (wrapBinds [(.ev (.bin .add .int (.sym 7) (ki 1)))]
  (.jump 1 [(.sym 10), (.sym 14)]))) (.jump 0 [(.sym 6), (.sym 7), (.sym 7), (.sym 8), (.sym 9)])))) (.ret (.tcons (.sym 6) (.tcons (.sym 1) .tnil)))))))
noncomputable def e91 : Entry := { f := 91, kn := .plain, cf := (autoCfg true WRA PAN [] [] Try.f91), own := false, ones := [true], t := t91 }
theorem ok91 : EntOk Try.prog e91 := EntOk.ofPlain Try.func91 (by kernel_rfl) (by kernel_rfl)

noncomputable def t103 : T := (wrapBinds [(.ev (.lenL (.sym 0)))]
  (.join 0 2 (.loop 1 [(ki 0)] (wrapBinds [(.ev (.bin .lss .int (.sym 4) (.sym 3)))]
  (.ite (.sym 5) (.join 2 3 (wrapBinds [(.ev (.eaddr 1 (.sym 0) (.sym 4))),
  (.ev (.ld false 1 (.sym 2) (.sym 6))),
  (.callv [] (.sym 1) (.sym 2) [(.sym 7)] [true])]
  (.ite (.sym 8) (.ret (.tcons (.sym 4) (.tcons (.sym 2) .tnil))) (.jump 2 [(.sym 6), (.sym 7), (.sym 8)]))) (wrapBinds [(.ev (.bin .add .int (.sym 4) (ki 1)))]
  (.jump 1 [(.sym 9)]))) (.jump 0 [(.sym 4), (.sym 5)])))) (.ret (.tcons (ki (-1)) (.tcons (.sym 2) .tnil)))))
noncomputable def e103 : Entry := { f := 103, kn := .plain, cf := (autoCfg true WRA PAN [] [] Try.f103), own := false, ones := [true, true], t := t103 }
theorem ok103 : EntOk Try.prog e103 := EntOk.ofPlain Try.func103 (by kernel_rfl) (by kernel_rfl)

noncomputable def t93 : T := (wrapBinds [(.call [] 83 (.sym 2) [(.sym 1), (.sym 0)] [true])]
  (.ret (.tcons (.sym 3) (.tcons (.sym 2) .tnil))))
noncomputable def e93 : Entry := { f := 93, kn := .plain, cf := (autoCfg true WRA PAN [] [] Try.f93), own := false, ones := [true, true], t := t93 }
theorem ok93 : EntOk Try.prog e93 := EntOk.ofPlain Try.func93 (by kernel_rfl) (by kernel_rfl)

noncomputable def t109 : T := (wrapBinds [(.ev (.ld false 1 (.sym 4) (.sym 2))),
  (.ev (.ld false 1 (.sym 4) (.sym 3))),
  (.ev (.eaddr 1 (.sym 6) (.sym 0))),
  (.ev (.ld false 1 (.sym 4) (.sym 7))),
  (.ev (.ld false 1 (.sym 4) (.sym 3))),
  (.ev (.eaddr 1 (.sym 9) (.sym 1))),
  (.ev (.ld false 1 (.sym 4) (.sym 10))),
  (.callv [] (.sym 5) (.sym 4) [(.sym 8), (.sym 11)] [true])]
  (.ret (.tcons (.sym 12) (.tcons (.sym 4) .tnil))))
noncomputable def e109 : Entry := { f := 109, kn := .plain, cf := (autoCfg true WRA PAN [] [] Try.f109), own := false, ones := [true, true, true, true], t := t109 }
theorem ok109 : EntOk Try.prog e109 := EntOk.ofPlain Try.func109 (by kernel_rfl) (by kernel_rfl)

noncomputable def t19 : T := (wrapBinds [(.ev (.lenL (.sym 0))),
  (.ev (.lenL (.sym 1))),
  (.ev (.bin .neq .int (.sym 3) (.sym 4)))]
  (.ite (.sym 5) (.ret (.tcons (kb false) (.tcons (.sym 2) .tnil))) (.join 0 4 (.loop 1 [(ki 0)] (wrapBinds [(.ev (.lenL (.sym 0))),
  (.ev (.bin .lss .int (.sym 6) (.sym 7)))]
  (.ite (.sym 8) (.join 2 5 (wrapBinds [(.ev (.eaddr 1 (.sym 0) (.sym 6))),
  (.ev (.ld false 1 (.sym 2) (.sym 9))),
  (.ev (.eaddr 1 (.sym 1) (.sym 6))),
  (.ev (.ld false 1 (.sym 2) (.sym 11))),
  (.ev (.bin .neq .int (.sym 10) (.sym 12)))]
  (.ite (.sym 13) (.ret (.tcons (kb false) (.tcons (.sym 2) .tnil))) (.jump 2 [(.sym 9), (.sym 10), (.sym 11), (.sym 12), (.sym 13)]))) (wrapBinds [(.ev (.bin .add .int (.sym 6) (ki 1)))]
  (.jump 1 [(.sym 14)]))) (.jump 0 [(.sym 6), (.sym 6), (.sym 7), (.sym 8)])))) (.ret (.tcons (kb true) (.tcons (.sym 2) .tnil))))))
noncomputable def e19 : Entry := { f := 19, kn := .plain, cf := (autoCfg true WRA PAN [] [] Try.f19), own := false, ones := [true, true], t := t19 }
theorem ok19 : EntOk Try.prog e19 := EntOk.ofPlain Try.func19 (by kernel_rfl) (by kernel_rfl)

noncomputable def t44 : T := (wrapBinds [(.ev (.cons (.scal (ki 5)) (.cons zI (.cons (.scal (ki 1000)) (.cons (.scal (ki 5000)) .nil))))),
  (.ev (.cons (.scal (ki 5)) (.cons (.scal (ki 100)) (.cons (.scal (ki 2000)) (.cons (.scal (ki 9000)) .nil))))),
  (.ev (.lcons (.aggN 4 (.sym 1)) (.lcons (.aggN 4 (.sym 2)) (.const (.lst []))))),
  (.ev (.cons (.scal (ki 3)) (.cons (.scal (.sym 3)) (.cons (.scal (ki 30)) (.cons (.scal (ki 60)) (.cons (.scal (ki 500)) (.cons (.scal (ki 2000)) .nil))))))),
  (.ev (.aggN 6 (.sym 4)))]
  (.ret (.tcons (agc 6 (.sym 5)) (.tcons (.sym 0) .tnil))))
noncomputable def e44 : Entry := { f := 44, kn := .plain, cf := (autoCfg true WRA PAN [] [] Try.f44), own := false, ones := [], t := t44 }
theorem ok44 : EntOk Try.prog e44 := EntOk.ofPlain Try.func44 (by kernel_rfl) (by kernel_rfl)

noncomputable def tabKnown : Tab := [e16, e24, e26, e63, e65, e32, e101, e54, e92, e108, e122, e128, e129, e131, e132, e41, e52, e82, e83, e104, e56, e61, e62, e95, e64, e66, e67, e68, e69, e96, e97, e86, e110, e81, e98, e99, e73, e100, e70, e74, e75, e72, e76, e84, e77, e17, e53, e79, e90, e91, e103, e93, e109, e19, e44]

theorem tabKnown_ok : ∀ e, e ∈ tabKnown → EntOk Try.prog e := by
  intro e he
  simp only [tabKnown, List.mem_cons, List.not_mem_nil, or_false] at he
  rcases he with rfl | rfl | rfl | rfl | rfl | rfl | rfl | rfl | rfl | rfl | rfl | rfl | rfl | rfl | rfl | rfl | rfl | rfl | rfl | rfl | rfl | rfl | rfl | rfl | rfl | rfl | rfl | rfl | rfl | rfl | rfl | rfl | rfl | rfl | rfl | rfl | rfl | rfl | rfl | rfl | rfl | rfl | rfl | rfl | rfl | rfl | rfl | rfl | rfl | rfl | rfl | rfl | rfl | rfl | rfl
  · exact ok16
  · exact ok24
  · exact ok26
  · exact ok63
  · exact ok65
  · exact ok32
  · exact ok101
  · exact ok54
  · exact ok92
  · exact ok108
  · exact ok122
  · exact ok128
  · exact ok129
  · exact ok131
  · exact ok132
  · exact ok41
  · exact ok52
  · exact ok82
  · exact ok83
  · exact ok104
  · exact ok56
  · exact ok61
  · exact ok62
  · exact ok95
  · exact ok64
  · exact ok66
  · exact ok67
  · exact ok68
  · exact ok69
  · exact ok96
  · exact ok97
  · exact ok86
  · exact ok110
  · exact ok81
  · exact ok98
  · exact ok99
  · exact ok73
  · exact ok100
  · exact ok70
  · exact ok74
  · exact ok75
  · exact ok72
  · exact ok76
  · exact ok84
  · exact ok77
  · exact ok17
  · exact ok53
  · exact ok79
  · exact ok90
  · exact ok91
  · exact ok103
  · exact ok93
  · exact ok109
  · exact ok19
  · exact ok44

end Go.Am.Ap
