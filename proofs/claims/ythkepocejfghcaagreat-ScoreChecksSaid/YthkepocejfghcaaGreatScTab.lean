/-
  The functions that the chapter's examples reach, as texts.
-/
import Derived.Test.YthkepocejfghcaaGreatAmFntoAmSt2
import Derived.Test.YthkepocejfghcaaGreatScCfg
import Derived.Test.YthkepocejfghcaaGreatProg
import Derived.KernelRfl
set_option linter.unusedSimpArgs false
set_option linter.unusedVariables false
namespace Go.Am.Sc
open Go.Proofs

noncomputable def t17 : T := (wrapBinds [(.call [] 44 (.sym 0) [] [false]),
  (.call [] 45 (.sym 0) [] [true]),
  (.ev (.aggN 14 (.sym 1))),
  (.ev (.eaddr 3 (.sym 2) (.const (.v (.int .i64 0))))),
  (.ev (.ld true 3 (.sym 0) (.sym 4))),
  (.call [] 35 (.sym 0) [(.cons (.cell 0 (.sym 3)) (.cons (.cell 1 (.sym 3)) (.cons (.cell 2 (.sym 3)) (.cons (.cell 3 (.sym 3)) (.cons (.cell 4 (.sym 3)) (.cons (.cell 5 (.sym 3)) (.cons (.cell 6 (.sym 3)) (.cons (.cell 7 (.sym 3)) (.cons (.cell 8 (.sym 3)) (.cons (.cell 9 (.sym 3)) (.cons (.cell 10 (.sym 3)) (.cons (.cell 11 (.sym 3)) (.cons (.cell 12 (.sym 3)) (.cons (.cell 13 (.sym 3)) .nil)))))))))))))), (.sym 5), (.const (.v (.int .i64 2)))] [true, true]),
  (.call [] 23 (.sym 0) [(.cons (.cell 0 (.sym 3)) (.cons (.cell 1 (.sym 3)) (.cons (.cell 2 (.sym 3)) (.cons (.cell 3 (.sym 3)) (.cons (.cell 4 (.sym 3)) (.cons (.cell 5 (.sym 3)) (.cons (.cell 6 (.sym 3)) (.cons (.cell 7 (.sym 3)) (.cons (.cell 8 (.sym 3)) (.cons (.cell 9 (.sym 3)) (.cons (.cell 10 (.sym 3)) (.cons (.cell 11 (.sym 3)) (.cons (.cell 12 (.sym 3)) (.cons (.cell 13 (.sym 3)) .nil)))))))))))))), (.sym 2), (.const (.v (.int .i64 0)))] [true, true]),
  (.call [] 23 (.sym 0) [(.cons (.cell 0 (.sym 3)) (.cons (.cell 1 (.sym 3)) (.cons (.cell 2 (.sym 3)) (.cons (.cell 3 (.sym 3)) (.cons (.cell 4 (.sym 3)) (.cons (.cell 5 (.sym 3)) (.cons (.cell 6 (.sym 3)) (.cons (.cell 7 (.sym 3)) (.cons (.cell 8 (.sym 3)) (.cons (.cell 9 (.sym 3)) (.cons (.cell 10 (.sym 3)) (.cons (.cell 11 (.sym 3)) (.cons (.cell 12 (.sym 3)) (.cons (.cell 13 (.sym 3)) .nil)))))))))))))), (.sym 2), (.const (.v (.int .i64 1)))] [true, true]),
  (.call [] 22 (.sym 0) [(.cons (.cell 0 (.sym 3)) (.cons (.cell 1 (.sym 3)) (.cons (.cell 2 (.sym 3)) (.cons (.cell 3 (.sym 3)) (.cons (.cell 4 (.sym 3)) (.cons (.cell 5 (.sym 3)) (.cons (.cell 6 (.sym 3)) (.cons (.cell 7 (.sym 3)) (.cons (.cell 8 (.sym 3)) (.cons (.cell 9 (.sym 3)) (.cons (.cell 10 (.sym 3)) (.cons (.cell 11 (.sym 3)) (.cons (.cell 12 (.sym 3)) (.cons (.cell 13 (.sym 3)) .nil)))))))))))))), (.sym 2), (.const (.v (.int .i64 2))), (.const (.v (.int .i64 1)))] [true, true]),
  (.call [] 29 (.sym 0) [(.cons (.cell 0 (.sym 3)) (.cons (.cell 1 (.sym 3)) (.cons (.cell 2 (.sym 3)) (.cons (.cell 3 (.sym 3)) (.cons (.cell 4 (.sym 3)) (.cons (.cell 5 (.sym 3)) (.cons (.cell 6 (.sym 3)) (.cons (.cell 7 (.sym 3)) (.cons (.cell 8 (.sym 3)) (.cons (.cell 9 (.sym 3)) (.cons (.cell 10 (.sym 3)) (.cons (.cell 11 (.sym 3)) (.cons (.cell 12 (.sym 3)) (.cons (.cell 13 (.sym 3)) .nil)))))))))))))), (.sym 2)] [true, true]),
  (.ev (.lcons (.scal (.const (.v (.int .i64 10)))) (.lcons (.scal (.const (.v (.int .i64 6)))) (.lcons (.scal (.const (.v (.int .i64 0)))) (.const (.lst [])))))),
  (.ev (.lcons (.scal (.const (.v (.int .i64 8)))) (.lcons (.scal (.const (.v (.int .i64 8)))) (.lcons (.scal (.const (.v (.int .i64 4)))) (.const (.lst [])))))),
  (.ev (.lcons (.scal (.sym 11)) (.lcons (.scal (.sym 12)) (.const (.lst []))))),
  (.call [] 31 (.sym 0) [(.sym 13), (.const (.v (.int .i64 1)))] [true, true, true]),
  (.ev (.bin .neq .int (.tget 1 (.sym 6)) (.const (.v (.int .i64 0))))),
  (.ev (.guard (.sym 15) false (.tget 1 (.sym 7)))),
  (.ev (.guard (.sym 15) false (.bin .neq .int (.sym 16) (.const (.v (.int .i64 0)))))),
  (.ev (.ite (.sym 15) (.const (.v (.bool true))) (.sym 17))),
  (.ev (.guard (.sym 18) false (.tget 1 (.sym 8)))),
  (.ev (.guard (.sym 18) false (.bin .neq .int (.sym 19) (.const (.v (.int .i64 0)))))),
  (.ev (.ite (.sym 18) (.const (.v (.bool true))) (.sym 20))),
  (.ev (.guard (.sym 21) false (.tget 1 (.sym 9)))),
  (.ev (.guard (.sym 21) false (.bin .neq .int (.sym 22) (.const (.v (.int .i64 0)))))),
  (.ev (.ite (.sym 21) (.const (.v (.bool true))) (.sym 23))),
  (.ev (.guard (.sym 24) false (.tget 1 (.sym 10)))),
  (.ev (.guard (.sym 24) false (.bin .neq .int (.sym 25) (.const (.v (.int .i64 0)))))),
  (.ev (.ite (.sym 24) (.const (.v (.bool true))) (.sym 26))),
  (.ev (.guard (.sym 27) false (.tget 2 (.sym 14)))),
  (.ev (.guard (.sym 27) false (.bin .neq .int (.sym 28) (.const (.v (.int .i64 0)))))),
  (.ev (.ite (.sym 27) (.const (.v (.bool true))) (.sym 29))),
  (.ev (.guard (.sym 30) false (.tget 0 (.sym 10)))),
  (.ev (.guard (.sym 30) false (.lenL (.sym 31)))),
  (.ev (.guard (.sym 30) false (.bin .neq .int (.sym 32) (.const (.v (.int .i64 3)))))),
  (.ev (.ite (.sym 30) (.const (.v (.bool true))) (.sym 33)))]
  (.ite (.sym 34) (.ret (.tcons (.const (.v (.bool false))) (.tcons (.sym 0) .tnil))) (wrapBinds [(.ev (.bin .eql .int (.tget 0 (.sym 6)) (.const (.v (.int .i64 693))))),
  (.ev (.guard (.sym 35) true (.tget 0 (.sym 7)))),
  (.ev (.guard (.sym 35) true (.bin .eql .int (.sym 36) (.const (.v (.int .i64 310000)))))),
  (.ev (.ite (.sym 35) (.sym 37) (.const (.v (.bool false))))),
  (.ev (.guard (.sym 38) true (.tget 0 (.sym 8)))),
  (.ev (.guard (.sym 38) true (.bin .eql .int (.sym 39) (.const (.v (.int .i64 400000)))))),
  (.ev (.ite (.sym 38) (.sym 40) (.const (.v (.bool false))))),
  (.ev (.guard (.sym 41) true (.tget 0 (.sym 9)))),
  (.ev (.guard (.sym 41) true (.bin .eql .int (.sym 42) (.const (.v (.int .i64 300000)))))),
  (.ev (.ite (.sym 41) (.sym 43) (.const (.v (.bool false))))),
  (.ev (.guard (.sym 44) true (.tget 0 (.sym 10)))),
  (.ev (.guard (.sym 44) true (.eaddr 7 (.sym 45) (.const (.v (.int .i64 0)))))),
  (.ev (.guard (.sym 44) true (.padd 0 (.sym 46)))),
  (.ev (.guard (.sym 44) true (.ld false 1 (.sym 0) (.sym 47)))),
  (.ev (.guard (.sym 44) true (.bin .eql .int (.sym 48) (.const (.v (.int .i64 2)))))),
  (.ev (.ite (.sym 44) (.sym 49) (.const (.v (.bool false))))),
  (.ev (.guard (.sym 50) true (.tget 0 (.sym 10)))),
  (.ev (.guard (.sym 50) true (.eaddr 7 (.sym 51) (.const (.v (.int .i64 0)))))),
  (.ev (.guard (.sym 50) true (.padd 6 (.sym 52)))),
  (.ev (.guard (.sym 50) true (.ld false 1 (.sym 0) (.sym 53)))),
  (.ev (.guard (.sym 50) true (.bin .eql .int (.sym 54) (.const (.v (.int .i64 10)))))),
  (.ev (.ite (.sym 50) (.sym 55) (.const (.v (.bool false))))),
  (.ev (.guard (.sym 56) true (.tget 0 (.sym 10)))),
  (.ev (.guard (.sym 56) true (.eaddr 7 (.sym 57) (.const (.v (.int .i64 1)))))),
  (.ev (.guard (.sym 56) true (.padd 0 (.sym 58)))),
  (.ev (.guard (.sym 56) true (.ld false 1 (.sym 0) (.sym 59)))),
  (.ev (.guard (.sym 56) true (.bin .eql .int (.sym 60) (.const (.v (.int .i64 0)))))),
  (.ev (.ite (.sym 56) (.sym 61) (.const (.v (.bool false))))),
  (.ev (.guard (.sym 62) true (.tget 0 (.sym 10)))),
  (.ev (.guard (.sym 62) true (.eaddr 7 (.sym 63) (.const (.v (.int .i64 1)))))),
  (.ev (.guard (.sym 62) true (.padd 6 (.sym 64)))),
  (.ev (.guard (.sym 62) true (.ld false 1 (.sym 0) (.sym 65)))),
  (.ev (.guard (.sym 62) true (.bin .eql .int (.sym 66) (.const (.v (.int .i64 9)))))),
  (.ev (.ite (.sym 62) (.sym 67) (.const (.v (.bool false))))),
  (.ev (.guard (.sym 68) true (.tget 0 (.sym 10)))),
  (.ev (.guard (.sym 68) true (.eaddr 7 (.sym 69) (.const (.v (.int .i64 2)))))),
  (.ev (.guard (.sym 68) true (.padd 0 (.sym 70)))),
  (.ev (.guard (.sym 68) true (.ld false 1 (.sym 0) (.sym 71)))),
  (.ev (.guard (.sym 68) true (.bin .eql .int (.sym 72) (.const (.v (.int .i64 1)))))),
  (.ev (.ite (.sym 68) (.sym 73) (.const (.v (.bool false))))),
  (.ev (.guard (.sym 74) true (.tget 0 (.sym 10)))),
  (.ev (.guard (.sym 74) true (.eaddr 7 (.sym 75) (.const (.v (.int .i64 2)))))),
  (.ev (.guard (.sym 74) true (.padd 6 (.sym 76)))),
  (.ev (.guard (.sym 74) true (.ld false 1 (.sym 0) (.sym 77)))),
  (.ev (.guard (.sym 74) true (.bin .eql .int (.sym 78) (.const (.v (.int .i64 0)))))),
  (.ev (.ite (.sym 74) (.sym 79) (.const (.v (.bool false))))),
  (.ev (.guard (.sym 80) true (.tget 0 (.sym 14)))),
  (.ev (.guard (.sym 80) true (.lcons (.scal (.const (.v (.int .i64 0)))) (.lcons (.scal (.const (.v (.int .i64 1)))) (.const (.lst [])))))),
  (.call [((.sym 80), true)] 34 (.sym 0) [(.sym 81), (.sym 82)] [true]),
  (.ev (.ite (.sym 80) (.sym 83) (.const (.v (.bool false))))),
  (.ev (.guard (.sym 84) true (.tget 1 (.sym 14)))),
  (.ev (.guard (.sym 84) true (.lcons (.scal (.const (.v (.int .i64 16)))) (.lcons (.scal (.const (.v (.int .i64 16)))) (.const (.lst [])))))),
  (.call [((.sym 84), true)] 34 (.sym 0) [(.sym 85), (.sym 86)] [true]),
  (.ev (.ite (.sym 84) (.sym 87) (.const (.v (.bool false)))))]
  (.ret (.tcons (.sym 88) (.tcons (.sym 0) .tnil))))))
noncomputable def e17 : Entry := { f := 17, kn := .plain, cf := (scf true [] [] Tryz.f17), own := false, ones := [], t := t17 }
theorem ok17 : EntOk Tryz.prog e17 := EntOk.ofPlain Tryz.func17 (by kernel_rfl) (by kernel_rfl)

noncomputable def t44 : T := (wrapBinds [(.ev (.cons (.scal (.const (.v (.int .i64 1)))) (.cons (.const (.agg [(.v (.int .i64 0))])) (.cons (.scal (.const (.v (.int .i64 30)))) (.cons (.const (.agg [(.v (.bool false))])) .nil))))),
  (.ev (.cons (.scal (.const (.v (.int .i64 2)))) (.cons (.const (.agg [(.v (.int .i64 0))])) (.cons (.const (.agg [(.v (.int .i64 0))])) (.cons (.const (.agg [(.v (.bool false))])) .nil))))),
  (.ev (.cons (.scal (.const (.v (.int .i64 1)))) (.cons (.const (.agg [(.v (.int .i64 0))])) (.cons (.scal (.const (.v (.int .i64 60)))) (.cons (.const (.agg [(.v (.bool false))])) .nil))))),
  (.ev (.lcons (.aggN 4 (.sym 1)) (.lcons (.aggN 4 (.sym 2)) (.lcons (.aggN 4 (.sym 3)) (.const (.lst [])))))),
  (.ev (.lcons (.scal (.const (.v (.int .i64 10000)))) (.lcons (.scal (.const (.v (.int .i64 60000)))) (.const (.lst []))))),
  (.ev (.lcons (.scal (.const (.v (.int .i64 10)))) (.lcons (.scal (.const (.v (.int .i64 6)))) (.const (.lst []))))),
  (.ev (.lcons (.scal (.const (.v (.int .i64 3)))) (.const (.lst [])))),
  (.ev (.cons (.scal (.const (.v (.int .i64 10000)))) (.cons (.scal (.const (.v (.int .i64 60000)))) (.cons (.scal (.const (.v (.int .i64 15)))) (.cons (.scal (.const (.v (.int .i64 30)))) (.cons (.scal (.sym 5)) (.cons (.const (.agg [(.v (.bool false))])) (.cons (.const (.agg [(.v (.int .i64 0))])) (.cons (.scal (.const (.v (.int .i64 1)))) (.cons (.scal (.const (.v (.int .i64 100)))) (.cons (.scal (.const (.v (.int .i64 1)))) (.cons (.scal (.sym 6)) (.cons (.scal (.sym 7)) .nil))))))))))))),
  (.ev (.cons (.scal (.sym 4)) (.cons (.scal (.const (.v (.int .i64 1)))) (.cons (.aggN 12 (.sym 8)) .nil)))),
  (.ev (.aggN 14 (.sym 9)))]
  (.ret (.tcons (.cons (.cell 0 (.sym 10)) (.cons (.cell 1 (.sym 10)) (.cons (.cell 2 (.sym 10)) (.cons (.cell 3 (.sym 10)) (.cons (.cell 4 (.sym 10)) (.cons (.cell 5 (.sym 10)) (.cons (.cell 6 (.sym 10)) (.cons (.cell 7 (.sym 10)) (.cons (.cell 8 (.sym 10)) (.cons (.cell 9 (.sym 10)) (.cons (.cell 10 (.sym 10)) (.cons (.cell 11 (.sym 10)) (.cons (.cell 12 (.sym 10)) (.cons (.cell 13 (.sym 10)) .nil)))))))))))))) (.tcons (.sym 0) .tnil))))
noncomputable def e44 : Entry := { f := 44, kn := .plain, cf := (scf true [] [] Tryz.f44), own := false, ones := [], t := t44 }
theorem ok44 : EntOk Tryz.prog e44 := EntOk.ofPlain Tryz.func44 (by kernel_rfl) (by kernel_rfl)

noncomputable def t45 : T := (wrapBinds [(.ev (.lcons (.scal (.const (.v (.int .i64 600)))) (.const (.lst [])))),
  (.ev (.cons (.scal (.const (.v (.int .i64 630)))) (.cons (.const (.agg [(.v (.int .i64 0))])) (.cons (.const (.agg [(.v (.bool false))])) (.cons (.const (.agg [(.v (.int .i64 0))])) .nil))))),
  (.ev (.cons (.scal (.const (.v (.int .i64 633)))) (.cons (.scal (.const (.v (.int .i64 300000)))) (.cons (.const (.agg [(.v (.bool false))])) (.cons (.const (.agg [(.v (.int .i64 0))])) .nil))))),
  (.ev (.cons (.scal (.const (.v (.int .i64 694)))) (.cons (.const (.agg [(.v (.int .i64 0))])) (.cons (.const (.agg [(.v (.bool false))])) (.cons (.const (.agg [(.v (.int .i64 0))])) .nil))))),
  (.ev (.lcons (.aggN 4 (.sym 2)) (.lcons (.aggN 4 (.sym 3)) (.lcons (.aggN 4 (.sym 4)) (.const (.lst [])))))),
  (.ev (.cons (.const (.agg [(.v (.int .i64 0))])) (.cons (.scal (.sym 1)) (.cons (.scal (.sym 5)) .nil)))),
  (.ev (.lcons (.scal (.const (.v (.int .i64 600)))) (.const (.lst [])))),
  (.ev (.cons (.scal (.const (.v (.int .i64 632)))) (.cons (.const (.agg [(.v (.int .i64 0))])) (.cons (.const (.agg [(.v (.bool false))])) (.cons (.const (.agg [(.v (.int .i64 0))])) .nil))))),
  (.ev (.cons (.scal (.const (.v (.int .i64 635)))) (.cons (.scal (.const (.v (.int .i64 310000)))) (.cons (.scal (.const (.v (.bool true)))) (.cons (.const (.agg [(.v (.int .i64 0))])) .nil))))),
  (.ev (.cons (.scal (.const (.v (.int .i64 694)))) (.cons (.const (.agg [(.v (.int .i64 0))])) (.cons (.const (.agg [(.v (.bool false))])) (.cons (.const (.agg [(.v (.int .i64 0))])) .nil))))),
  (.ev (.lcons (.aggN 4 (.sym 8)) (.lcons (.aggN 4 (.sym 9)) (.lcons (.aggN 4 (.sym 10)) (.const (.lst [])))))),
  (.ev (.cons (.const (.agg [(.v (.int .i64 0))])) (.cons (.scal (.sym 7)) (.cons (.scal (.sym 11)) .nil)))),
  (.ev (.lcons (.scal (.const (.v (.int .i64 600)))) (.const (.lst [])))),
  (.ev (.cons (.scal (.const (.v (.int .i64 630)))) (.cons (.const (.agg [(.v (.int .i64 0))])) (.cons (.const (.agg [(.v (.bool false))])) (.cons (.const (.agg [(.v (.int .i64 0))])) .nil))))),
  (.ev (.cons (.scal (.const (.v (.int .i64 636)))) (.cons (.const (.agg [(.v (.int .i64 0))])) (.cons (.const (.agg [(.v (.bool false))])) (.cons (.scal (.const (.v (.int .i64 1)))) .nil))))),
  (.ev (.cons (.scal (.const (.v (.int .i64 696)))) (.cons (.const (.agg [(.v (.int .i64 0))])) (.cons (.const (.agg [(.v (.bool false))])) (.cons (.const (.agg [(.v (.int .i64 0))])) .nil))))),
  (.ev (.lcons (.aggN 4 (.sym 14)) (.lcons (.aggN 4 (.sym 15)) (.lcons (.aggN 4 (.sym 16)) (.const (.lst [])))))),
  (.ev (.cons (.const (.agg [(.v (.int .i64 0))])) (.cons (.scal (.sym 13)) (.cons (.scal (.sym 17)) .nil)))),
  (.ev (.lcons (.aggN 3 (.sym 6)) (.lcons (.aggN 3 (.sym 12)) (.lcons (.aggN 3 (.sym 18)) (.const (.lst []))))))]
  (.ret (.tcons (.sym 19) (.tcons (.sym 0) .tnil))))
noncomputable def e45 : Entry := { f := 45, kn := .plain, cf := (scf true [] [] Tryz.f45), own := false, ones := [], t := t45 }
theorem ok45 : EntOk Tryz.prog e45 := EntOk.ofPlain Tryz.func45 (by kernel_rfl) (by kernel_rfl)

noncomputable def t35 : T := (wrapBinds [(.ev (.aggN 14 (.sym 0))),
  (.ev (.aggN 3 (.sym 1))),
  (.call [] 19 (.sym 3) [(.cons (.cell 0 (.sym 4)) (.cons (.cell 1 (.sym 4)) (.cons (.cell 2 (.sym 4)) (.cons (.cell 3 (.sym 4)) (.cons (.cell 4 (.sym 4)) (.cons (.cell 5 (.sym 4)) (.cons (.cell 6 (.sym 4)) (.cons (.cell 7 (.sym 4)) (.cons (.cell 8 (.sym 4)) (.cons (.cell 9 (.sym 4)) (.cons (.cell 10 (.sym 4)) (.cons (.cell 11 (.sym 4)) (.cons (.cell 12 (.sym 4)) (.cons (.cell 13 (.sym 4)) .nil)))))))))))))), (.cons (.cell 0 (.sym 5)) (.cons (.cell 1 (.sym 5)) (.cons (.cell 2 (.sym 5)) .nil)))] [true]),
  (.ev (.bin .neq .int (.sym 6) (.const (.v (.int .i64 0))))),
  (.ev (.guard (.sym 7) false (.cell 0 (.sym 4)))),
  (.ev (.guard (.sym 7) false (.lenL (.sym 8)))),
  (.ev (.guard (.sym 7) false (.bin .sub .int (.sym 9) (.const (.v (.int .i64 1)))))),
  (.call [((.sym 7), false)] 46 (.sym 3) [(.sym 2), (.const (.v (.int .i64 0))), (.sym 10)] [true]),
  (.ev (.guard (.sym 7) false (.un .not (.sym 11)))),
  (.ev (.ite (.sym 7) (.const (.v (.bool true))) (.sym 12))),
  (.ev (.guard (.sym 13) false (.cell 0 (.sym 4)))),
  (.ev (.guard (.sym 13) false (.eaddr 4 (.sym 14) (.sym 2)))),
  (.ev (.guard (.sym 13) false (.padd 0 (.sym 15)))),
  (.ev (.guard (.sym 13) false (.ld false 1 (.sym 3) (.sym 16)))),
  (.ev (.guard (.sym 13) false (.bin .neq .int (.sym 17) (.const (.v (.int .i64 1)))))),
  (.ev (.ite (.sym 13) (.const (.v (.bool true))) (.sym 18)))]
  (.ite (.sym 19) (.ret (.tcons (.tcons (.const (.v (.int .i64 0))) (.tcons (.const (.v (.int .i64 2))) .tnil)) (.tcons (.sym 3) .tnil))) (wrapBinds [(.ev (.eaddr 4 (.cell 2 (.sym 5)) (.sym 2))),
  (.ev (.padd 3 (.sym 20))),
  (.ev (.ld false 1 (.sym 3) (.sym 21))),
  (.ev (.bin .eql .int (.sym 22) (.const (.v (.int .i64 2)))))]
  (.ite (.sym 23) (.ret (.tcons (.tcons (.const (.v (.int .i64 0))) (.tcons (.const (.v (.int .i64 5))) .tnil)) (.tcons (.sym 3) .tnil))) (wrapBinds [(.call [] 88 (.sym 3) [(.cons (.cell 0 (.sym 4)) (.cons (.cell 1 (.sym 4)) (.cons (.cell 2 (.sym 4)) (.cons (.cell 3 (.sym 4)) (.cons (.cell 4 (.sym 4)) (.cons (.cell 5 (.sym 4)) (.cons (.cell 6 (.sym 4)) (.cons (.cell 7 (.sym 4)) (.cons (.cell 8 (.sym 4)) (.cons (.cell 9 (.sym 4)) (.cons (.cell 10 (.sym 4)) (.cons (.cell 11 (.sym 4)) (.cons (.cell 12 (.sym 4)) (.cons (.cell 13 (.sym 4)) .nil)))))))))))))), (.cons (.cell 0 (.sym 5)) (.cons (.cell 1 (.sym 5)) (.cons (.cell 2 (.sym 5)) .nil))), (.sym 2)] [true])]
  (.ret (.tcons (.tcons (.sym 24) (.tcons (.const (.v (.int .i64 0))) .tnil)) (.tcons (.sym 3) .tnil))))))))
noncomputable def e35 : Entry := { f := 35, kn := .plain, cf := (scf true [] [] Tryz.f35), own := false, ones := [false, false, true], t := t35 }
theorem ok35 : EntOk Tryz.prog e35 := EntOk.ofPlain Tryz.func35 (by kernel_rfl) (by kernel_rfl)

noncomputable def t23 : T := (wrapBinds [(.ev (.aggN 14 (.sym 0))),
  (.call [] 53 (.sym 3) [(.cons (.cell 0 (.sym 4)) (.cons (.cell 1 (.sym 4)) (.cons (.cell 2 (.sym 4)) (.cons (.cell 3 (.sym 4)) (.cons (.cell 4 (.sym 4)) (.cons (.cell 5 (.sym 4)) (.cons (.cell 6 (.sym 4)) (.cons (.cell 7 (.sym 4)) (.cons (.cell 8 (.sym 4)) (.cons (.cell 9 (.sym 4)) (.cons (.cell 10 (.sym 4)) (.cons (.cell 11 (.sym 4)) (.cons (.cell 12 (.sym 4)) (.cons (.cell 13 (.sym 4)) .nil)))))))))))))), (.sym 1)] [true, true]),
  (.ev (.un .not (.tget 1 (.sym 5)))),
  (.ev (.guard (.sym 6) false (.lenL (.sym 1)))),
  (.ev (.guard (.sym 6) false (.bin .sub .int (.sym 7) (.const (.v (.int .i64 1)))))),
  (.call [((.sym 6), false)] 46 (.sym 3) [(.sym 2), (.const (.v (.int .i64 0))), (.sym 8)] [true]),
  (.ev (.guard (.sym 6) false (.un .not (.sym 9)))),
  (.ev (.ite (.sym 6) (.const (.v (.bool true))) (.sym 10)))]
  (.ite (.sym 11) (.ret (.tcons (.tcons (.const (.v (.int .i64 0))) (.tcons (.const (.v (.int .i64 2))) .tnil)) (.tcons (.sym 3) .tnil))) (wrapBinds [(.call [] 57 (.sym 3) [(.tget 0 (.sym 5)), (.sym 2)] [true])]
  (.ret (.tcons (.tcons (.sym 12) (.tcons (.const (.v (.int .i64 0))) .tnil)) (.tcons (.sym 3) .tnil))))))
noncomputable def e23 : Entry := { f := 23, kn := .plain, cf := (scf true [] [] Tryz.f23), own := false, ones := [false, true, true], t := t23 }
theorem ok23 : EntOk Tryz.prog e23 := EntOk.ofPlain Tryz.func23 (by kernel_rfl) (by kernel_rfl)

noncomputable def t22 : T := (wrapBinds [(.ev (.aggN 14 (.sym 0))),
  (.call [] 53 (.sym 4) [(.cons (.cell 0 (.sym 5)) (.cons (.cell 1 (.sym 5)) (.cons (.cell 2 (.sym 5)) (.cons (.cell 3 (.sym 5)) (.cons (.cell 4 (.sym 5)) (.cons (.cell 5 (.sym 5)) (.cons (.cell 6 (.sym 5)) (.cons (.cell 7 (.sym 5)) (.cons (.cell 8 (.sym 5)) (.cons (.cell 9 (.sym 5)) (.cons (.cell 10 (.sym 5)) (.cons (.cell 11 (.sym 5)) (.cons (.cell 12 (.sym 5)) (.cons (.cell 13 (.sym 5)) .nil)))))))))))))), (.sym 1)] [true, true]),
  (.ev (.un .not (.tget 1 (.sym 6)))),
  (.ev (.guard (.sym 7) false (.lenL (.sym 1)))),
  (.ev (.guard (.sym 7) false (.bin .sub .int (.sym 8) (.const (.v (.int .i64 1)))))),
  (.call [((.sym 7), false)] 46 (.sym 4) [(.sym 2), (.const (.v (.int .i64 0))), (.sym 9)] [true]),
  (.ev (.guard (.sym 7) false (.un .not (.sym 10)))),
  (.ev (.ite (.sym 7) (.const (.v (.bool true))) (.sym 11))),
  (.ev (.guard (.sym 12) false (.cell 0 (.sym 5)))),
  (.ev (.guard (.sym 12) false (.lenL (.sym 13)))),
  (.ev (.guard (.sym 12) false (.bin .sub .int (.sym 14) (.const (.v (.int .i64 1)))))),
  (.call [((.sym 12), false)] 46 (.sym 4) [(.sym 3), (.const (.v (.int .i64 0))), (.sym 15)] [true]),
  (.ev (.guard (.sym 12) false (.un .not (.sym 16)))),
  (.ev (.ite (.sym 12) (.const (.v (.bool true))) (.sym 17))),
  (.ev (.guard (.sym 18) false (.tget 0 (.sym 6)))),
  (.call [((.sym 18), false)] 54 (.sym 4) [(.sym 19), (.sym 3)] [true]),
  (.ev (.guard (.sym 18) false (.un .not (.sym 20)))),
  (.ev (.ite (.sym 18) (.const (.v (.bool true))) (.sym 21)))]
  (.ite (.sym 22) (.ret (.tcons (.tcons (.const (.v (.int .i64 0))) (.tcons (.const (.v (.int .i64 2))) .tnil)) (.tcons (.sym 4) .tnil))) (wrapBinds [(.call [] 55 (.sym 4) [(.tget 0 (.sym 6)), (.sym 2), (.sym 3)] [true]),
  (.ev (.un .not (.sym 23)))]
  (.ite (.sym 24) (.ret (.tcons (.tcons (.const (.v (.int .i64 0))) (.tcons (.const (.v (.int .i64 5))) .tnil)) (.tcons (.sym 4) .tnil))) (wrapBinds [(.call [] 56 (.sym 4) [(.tget 0 (.sym 6)), (.sym 2), (.sym 3)] [true])]
  (.ret (.tcons (.tcons (.sym 25) (.tcons (.const (.v (.int .i64 0))) .tnil)) (.tcons (.sym 4) .tnil))))))))
noncomputable def e22 : Entry := { f := 22, kn := .plain, cf := (scf true [] [] Tryz.f22), own := false, ones := [false, true, true, true], t := t22 }
theorem ok22 : EntOk Tryz.prog e22 := EntOk.ofPlain Tryz.func22 (by kernel_rfl) (by kernel_rfl)

noncomputable def t34 : T := (wrapBinds [(.ev (.lenL (.sym 0))),
  (.ev (.lenL (.sym 1))),
  (.ev (.bin .neq .int (.sym 3) (.sym 4)))]
  (.ite (.sym 5) (.ret (.tcons (.const (.v (.bool false))) (.tcons (.sym 2) .tnil))) (.join 0 4 (.loop 1 [(.const (.v (.int .i64 0)))] (wrapBinds [(.ev (.lenL (.sym 0))),
  (.ev (.bin .lss .int (.sym 6) (.sym 7)))]
  (.ite (.sym 8) (.join 2 5 (wrapBinds [(.ev (.eaddr 1 (.sym 0) (.sym 6))),
  (.ev (.ld false 1 (.sym 2) (.sym 9))),
  (.ev (.eaddr 1 (.sym 1) (.sym 6))),
  (.ev (.ld false 1 (.sym 2) (.sym 11))),
  (.ev (.bin .neq .int (.sym 10) (.sym 12)))]
  (.ite (.sym 13) (.ret (.tcons (.const (.v (.bool false))) (.tcons (.sym 2) .tnil))) (.jump 2 [(.sym 9), (.sym 10), (.sym 11), (.sym 12), (.sym 13)]))) (wrapBinds [(.ev (.bin .add .int (.sym 6) (.const (.v (.int .i64 1)))))]
  (.jump 1 [(.sym 14)]))) (.jump 0 [(.sym 6), (.sym 6), (.sym 7), (.sym 8)])))) (.ret (.tcons (.const (.v (.bool true))) (.tcons (.sym 2) .tnil))))))
noncomputable def e34 : Entry := { f := 34, kn := .plain, cf := (scf true [] [] Tryz.f34), own := false, ones := [true, true], t := t34 }
theorem ok34 : EntOk Tryz.prog e34 := EntOk.ofPlain Tryz.func34 (by kernel_rfl) (by kernel_rfl)

noncomputable def t18 : T := (wrapBinds [(.ev (.aggN 14 (.sym 0))),
  (.ev (.lenL (.cell 0 (.sym 2)))),
  (.call [] 46 (.sym 1) [(.sym 3), (.const (.v (.int .i64 1))), (.const (.v (.int .i64 100)))] [true]),
  (.ev (.un .not (.sym 4))),
  (.ev (.guard (.sym 5) false (.cell 1 (.sym 2)))),
  (.call [((.sym 5), false)] 46 (.sym 1) [(.sym 6), (.const (.v (.int .i64 1))), (.const (.v (.int .i64 20)))] [true]),
  (.ev (.guard (.sym 5) false (.un .not (.sym 7)))),
  (.ev (.ite (.sym 5) (.const (.v (.bool true))) (.sym 8))),
  (.ev (.guard (.sym 9) false (.cell 0 (.sym 2)))),
  (.ev (.guard (.sym 9) false (.eaddr 4 (.sym 10) (.const (.v (.int .i64 0)))))),
  (.ev (.guard (.sym 9) false (.padd 1 (.sym 11)))),
  (.ev (.guard (.sym 9) false (.ld false 1 (.sym 1) (.sym 12)))),
  (.ev (.guard (.sym 9) false (.bin .neq .int (.sym 13) (.const (.v (.int .i64 0)))))),
  (.ev (.ite (.sym 9) (.const (.v (.bool true))) (.sym 14)))]
  (.ite (.sym 15) (.ret (.tcons (.const (.v (.int .i64 2))) (.tcons (.sym 1) .tnil))) (wrapBinds [(.ev (.lenL (.cell 0 (.sym 2))))]
  (.join 0 2 (.loop 1 [(.const (.v (.int .i64 0)))] (wrapBinds [(.ev (.bin .lss .int (.sym 17) (.sym 16)))]
  (.ite (.sym 18) (.join 2 14 (wrapBinds [(.ev (.eaddr 4 (.cell 0 (.sym 2)) (.sym 17))),
  (.ev (.ld true 4 (.sym 1) (.sym 19))),
  (.ev (.aggN 4 (.sym 20))),
  (.ev (.bin .gtr .int (.sym 17) (.const (.v (.int .i64 0))))),
  (.ev (.guard (.sym 22) true (.cell 1 (.sym 21)))),
  (.ev (.guard (.sym 22) true (.cell 0 (.sym 2)))),
  (.ev (.guard (.sym 22) true (.bin .sub .int (.sym 17) (.const (.v (.int .i64 1)))))),
  (.ev (.guard (.sym 22) true (.eaddr 4 (.sym 24) (.sym 25)))),
  (.ev (.guard (.sym 22) true (.padd 1 (.sym 26)))),
  (.ev (.guard (.sym 22) true (.ld false 1 (.sym 1) (.sym 27)))),
  (.ev (.guard (.sym 22) true (.bin .sub .int (.sym 23) (.sym 28)))),
  (.call [((.sym 22), true)] 46 (.sym 1) [(.sym 29), (.const (.v (.int .i64 0))), (.const (.v (.int .i64 1)))] [true]),
  (.ev (.guard (.sym 22) true (.un .not (.sym 30)))),
  (.ev (.ite (.sym 22) (.sym 31) (.const (.v (.bool false))))),
  (.ev (.guard (.sym 32) false (.cell 1 (.sym 21)))),
  (.ev (.guard (.sym 32) false (.bin .geq .int (.sym 33) (.const (.v (.int .i64 6)))))),
  (.ev (.ite (.sym 32) (.const (.v (.bool true))) (.sym 34)))]
  (.ite (.sym 35) (.ret (.tcons (.const (.v (.int .i64 2))) (.tcons (.sym 1) .tnil))) (.join 3 2 (wrapBinds [(.ev (.bin .eql .int (.cell 0 (.sym 21)) (.const (.v (.int .i64 1)))))]
  (.join 4 0 (.ite (.sym 36) (wrapBinds [(.call [] 46 (.sym 1) [(.cell 2 (.sym 21)), (.const (.v (.int .i64 0))), (.const (.v (.int .i64 1440)))] [true]),
  (.ev (.un .not (.sym 37)))]
  (.ite (.sym 38) (.ret (.tcons (.const (.v (.int .i64 2))) (.tcons (.sym 1) .tnil))) (.jump 4 []))) (wrapBinds [(.ev (.bin .eql .int (.cell 0 (.sym 21)) (.const (.v (.int .i64 2)))))]
  (.ite (.sym 37) (wrapBinds [(.ev (.bin .neq .int (.cell 2 (.sym 21)) (.const (.v (.int .i64 0))))),
  (.ev (.guard (.sym 38) false (.cell 3 (.sym 21)))),
  (.ev (.ite (.sym 38) (.const (.v (.bool true))) (.sym 39)))]
  (.ite (.sym 40) (.ret (.tcons (.const (.v (.int .i64 2))) (.tcons (.sym 1) .tnil))) (.jump 4 []))) (.ret (.tcons (.const (.v (.int .i64 2))) (.tcons (.sym 1) .tnil)))))) (.jump 3 [(.sym 36), (.sym 36)]))) (.jump 2 [(.sym 19), (.sym 20), (.sym 22), (.sym 22), (.sym 32), (.sym 32), (.sym 35), (.cell 0 (.sym 21)), (.sym 36), (.sym 37), (.cell 0 (.sym 21)), (.cell 1 (.sym 21)), (.cell 2 (.sym 21)), (.cell 3 (.sym 21))])))) (wrapBinds [(.ev (.bin .add .int (.sym 17) (.const (.v (.int .i64 1)))))]
  (.jump 1 [(.sym 33)]))) (.jump 0 [(.sym 17), (.sym 18)])))) (wrapBinds [(.ev (.lcons (.scal (.cell 2 (.sym 2))) (.lcons (.scal (.cell 3 (.sym 2))) (.lcons (.scal (.cell 8 (.sym 2))) (.const (.lst [])))))),
  (.call [] 47 (.sym 1) [(.sym 19), (.const (.v (.int .i64 3))), (.const (.v (.int .i64 3))), (.const (.v (.int .i64 36000000)))] [true]),
  (.ev (.un .not (.sym 20))),
  (.ev (.guard (.sym 21) false (.cell 4 (.sym 2)))),
  (.ev (.guard (.sym 21) false (.cell 5 (.sym 2)))),
  (.ev (.guard (.sym 21) false (.lcons (.scal (.sym 22)) (.lcons (.scal (.sym 23)) (.const (.lst [])))))),
  (.call [((.sym 21), false)] 47 (.sym 1) [(.sym 24), (.const (.v (.int .i64 2))), (.const (.v (.int .i64 2))), (.const (.v (.int .i64 1440)))] [true]),
  (.ev (.guard (.sym 21) false (.un .not (.sym 25)))),
  (.ev (.ite (.sym 21) (.const (.v (.bool true))) (.sym 26))),
  (.ev (.guard (.sym 27) false (.cell 6 (.sym 2)))),
  (.call [((.sym 27), false)] 47 (.sym 1) [(.sym 28), (.const (.v (.int .i64 1))), (.const (.v (.int .i64 10))), (.const (.v (.int .i64 36000000)))] [true]),
  (.ev (.guard (.sym 27) false (.un .not (.sym 29)))),
  (.ev (.ite (.sym 27) (.const (.v (.bool true))) (.sym 30)))]
  (.ite (.sym 31) (.ret (.tcons (.const (.v (.int .i64 2))) (.tcons (.sym 1) .tnil))) (wrapBinds [(.ev (.bin .lss .int (.cell 9 (.sym 2)) (.const (.v (.int .i64 1))))),
  (.ev (.guard (.sym 32) false (.cell 9 (.sym 2)))),
  (.ev (.guard (.sym 32) false (.bin .gtr .int (.sym 33) (.const (.v (.int .i64 4)))))),
  (.ev (.ite (.sym 32) (.const (.v (.bool true))) (.sym 34))),
  (.ev (.guard (.sym 35) false (.cell 10 (.sym 2)))),
  (.call [((.sym 35), false)] 46 (.sym 1) [(.sym 36), (.const (.v (.int .i64 100))), (.const (.v (.int .i64 1000)))] [true]),
  (.ev (.guard (.sym 35) false (.un .not (.sym 37)))),
  (.ev (.ite (.sym 35) (.const (.v (.bool true))) (.sym 38))),
  (.ev (.guard (.sym 39) false (.cell 12 (.sym 2)))),
  (.call [((.sym 39), false)] 47 (.sym 1) [(.sym 40), (.const (.v (.int .i64 0))), (.const (.v (.int .i64 60))), (.const (.v (.int .i64 1000)))] [true]),
  (.ev (.guard (.sym 39) false (.un .not (.sym 41)))),
  (.ev (.ite (.sym 39) (.const (.v (.bool true))) (.sym 42))),
  (.ev (.guard (.sym 43) false (.cell 13 (.sym 2)))),
  (.call [((.sym 43), false)] 47 (.sym 1) [(.sym 44), (.const (.v (.int .i64 0))), (.const (.v (.int .i64 60))), (.const (.v (.int .i64 1000)))] [true]),
  (.ev (.guard (.sym 43) false (.un .not (.sym 45)))),
  (.ev (.ite (.sym 43) (.const (.v (.bool true))) (.sym 46)))]
  (.ite (.sym 47) (.ret (.tcons (.const (.v (.int .i64 2))) (.tcons (.sym 1) .tnil))) (wrapBinds [(.ev (.lenL (.cell 0 (.sym 2)))),
  (.ev (.bin .sub .int (.sym 48) (.const (.v (.int .i64 1))))),
  (.call [] 46 (.sym 1) [(.cell 11 (.sym 2)), (.const (.v (.int .i64 (-1)))), (.sym 49)] [true]),
  (.ev (.un .not (.sym 50))),
  (.ev (.guard (.sym 51) false (.cell 11 (.sym 2)))),
  (.ev (.guard (.sym 51) false (.bin .geq .int (.sym 52) (.const (.v (.int .i64 0)))))),
  (.ev (.guard (.sym 51) false (.guard (.sym 53) true (.cell 0 (.sym 2))))),
  (.ev (.guard (.sym 51) false (.guard (.sym 53) true (.cell 11 (.sym 2))))),
  (.ev (.guard (.sym 51) false (.guard (.sym 53) true (.eaddr 4 (.sym 54) (.sym 55))))),
  (.ev (.guard (.sym 51) false (.guard (.sym 53) true (.padd 0 (.sym 56))))),
  (.ev (.guard (.sym 51) false (.guard (.sym 53) true (.ld false 1 (.sym 1) (.sym 57))))),
  (.ev (.guard (.sym 51) false (.guard (.sym 53) true (.bin .neq .int (.sym 58) (.const (.v (.int .i64 2))))))),
  (.ev (.guard (.sym 51) false (.ite (.sym 53) (.sym 59) (.const (.v (.bool false)))))),
  (.ev (.ite (.sym 51) (.const (.v (.bool true))) (.sym 60)))]
  (.ite (.sym 61) (.ret (.tcons (.const (.v (.int .i64 2))) (.tcons (.sym 1) .tnil))) (.ret (.tcons (.const (.v (.int .i64 0))) (.tcons (.sym 1) .tnil)))))))))))))
noncomputable def e18 : Entry := { f := 18, kn := .plain, cf := (scf true [] [] Tryz.f18), own := false, ones := [false], t := t18 }
theorem ok18 : EntOk Tryz.prog e18 := EntOk.ofPlain Tryz.func18 (by kernel_rfl) (by kernel_rfl)

noncomputable def t19 : T := (wrapBinds [(.ev (.aggN 14 (.sym 0))),
  (.ev (.aggN 3 (.sym 1))),
  (.call [] 18 (.sym 2) [(.cons (.cell 0 (.sym 3)) (.cons (.cell 1 (.sym 3)) (.cons (.cell 2 (.sym 3)) (.cons (.cell 3 (.sym 3)) (.cons (.cell 4 (.sym 3)) (.cons (.cell 5 (.sym 3)) (.cons (.cell 6 (.sym 3)) (.cons (.cell 7 (.sym 3)) (.cons (.cell 8 (.sym 3)) (.cons (.cell 9 (.sym 3)) (.cons (.cell 10 (.sym 3)) (.cons (.cell 11 (.sym 3)) (.cons (.cell 12 (.sym 3)) (.cons (.cell 13 (.sym 3)) .nil))))))))))))))] [true]),
  (.ev (.bin .neq .int (.sym 5) (.const (.v (.int .i64 0))))),
  (.ev (.guard (.sym 6) false (.cell 0 (.sym 4)))),
  (.ev (.guard (.sym 6) false (.cell 1 (.sym 3)))),
  (.ev (.guard (.sym 6) false (.bin .sub .int (.sym 8) (.const (.v (.int .i64 1)))))),
  (.call [((.sym 6), false)] 46 (.sym 2) [(.sym 7), (.const (.v (.int .i64 0))), (.sym 9)] [true]),
  (.ev (.guard (.sym 6) false (.un .not (.sym 10)))),
  (.ev (.ite (.sym 6) (.const (.v (.bool true))) (.sym 11))),
  (.ev (.guard (.sym 12) false (.cell 2 (.sym 4)))),
  (.ev (.guard (.sym 12) false (.lenL (.sym 13)))),
  (.ev (.guard (.sym 12) false (.cell 0 (.sym 3)))),
  (.ev (.guard (.sym 12) false (.lenL (.sym 15)))),
  (.ev (.guard (.sym 12) false (.bin .neq .int (.sym 14) (.sym 16)))),
  (.ev (.ite (.sym 12) (.const (.v (.bool true))) (.sym 17))),
  (.ev (.guard (.sym 18) false (.cell 1 (.sym 4)))),
  (.ev (.guard (.sym 18) false (.lenL (.sym 19)))),
  (.ev (.guard (.sym 18) false (.cell 0 (.sym 3)))),
  (.ev (.guard (.sym 18) false (.cell 0 (.sym 3)))),
  (.ev (.guard (.sym 18) false (.lenL (.sym 22)))),
  (.ev (.guard (.sym 18) false (.bin .sub .int (.sym 23) (.const (.v (.int .i64 1)))))),
  (.ev (.guard (.sym 18) false (.eaddr 4 (.sym 21) (.sym 24)))),
  (.ev (.guard (.sym 18) false (.padd 1 (.sym 25)))),
  (.ev (.guard (.sym 18) false (.ld false 1 (.sym 2) (.sym 26)))),
  (.ev (.guard (.sym 18) false (.bin .add .int (.sym 27) (.const (.v (.int .i64 1)))))),
  (.ev (.guard (.sym 18) false (.bin .neq .int (.sym 20) (.sym 28)))),
  (.ev (.ite (.sym 18) (.const (.v (.bool true))) (.sym 29))),
  (.ev (.guard (.sym 30) false (.cell 1 (.sym 4)))),
  (.call [((.sym 30), false)] 47 (.sym 2) [(.sym 31), (.const (.v (.int .i64 1))), (.const (.v (.int .i64 6))), (.const (.v (.int .i64 100000)))] [true]),
  (.ev (.guard (.sym 30) false (.un .not (.sym 32)))),
  (.ev (.ite (.sym 30) (.const (.v (.bool true))) (.sym 33)))]
  (.ite (.sym 34) (.ret (.tcons (.const (.v (.int .i64 2))) (.tcons (.sym 2) .tnil))) (wrapBinds [(.ev (.lenL (.cell 2 (.sym 4))))]
  (.join 0 2 (.loop 1 [(.const (.v (.int .i64 0)))] (wrapBinds [(.ev (.bin .lss .int (.sym 36) (.sym 35)))]
  (.ite (.sym 37) (.join 2 19 (wrapBinds [(.ev (.eaddr 4 (.cell 2 (.sym 4)) (.sym 36))),
  (.ev (.ld true 4 (.sym 2) (.sym 38))),
  (.ev (.aggN 4 (.sym 39))),
  (.ev (.bin .gtr .int (.sym 36) (.const (.v (.int .i64 0))))),
  (.ev (.guard (.sym 41) true (.cell 2 (.sym 4)))),
  (.ev (.guard (.sym 41) true (.bin .sub .int (.sym 36) (.const (.v (.int .i64 1)))))),
  (.ev (.guard (.sym 41) true (.eaddr 4 (.sym 42) (.sym 43)))),
  (.ev (.guard (.sym 41) true (.padd 3 (.sym 44)))),
  (.ev (.guard (.sym 41) true (.ld false 1 (.sym 2) (.sym 45)))),
  (.ev (.guard (.sym 41) true (.bin .eql .int (.sym 46) (.const (.v (.int .i64 2)))))),
  (.ev (.ite (.sym 41) (.sym 47) (.const (.v (.bool false))))),
  (.ev (.guard (.sym 48) true (.cell 0 (.sym 3)))),
  (.ev (.guard (.sym 48) true (.bin .sub .int (.sym 36) (.const (.v (.int .i64 1)))))),
  (.ev (.guard (.sym 48) true (.eaddr 4 (.sym 49) (.sym 50)))),
  (.ev (.guard (.sym 48) true (.padd 1 (.sym 51)))),
  (.ev (.guard (.sym 48) true (.ld false 1 (.sym 2) (.sym 52)))),
  (.ev (.guard (.sym 48) true (.cell 0 (.sym 3)))),
  (.ev (.guard (.sym 48) true (.eaddr 4 (.sym 54) (.sym 36)))),
  (.ev (.guard (.sym 48) true (.padd 1 (.sym 55)))),
  (.ev (.guard (.sym 48) true (.ld false 1 (.sym 2) (.sym 56)))),
  (.ev (.guard (.sym 48) true (.bin .eql .int (.sym 53) (.sym 57)))),
  (.ev (.ite (.sym 48) (.sym 58) (.const (.v (.bool false))))),
  (.ev (.eaddr 4 (.cell 0 (.sym 3)) (.sym 36))),
  (.ev (.ld true 4 (.sym 2) (.sym 60))),
  (.call [] 48 (.sym 2) [(.sym 61), (.cons (.cell 0 (.sym 40)) (.cons (.cell 1 (.sym 40)) (.cons (.cell 2 (.sym 40)) (.cons (.cell 3 (.sym 40)) .nil))))] [true]),
  (.ev (.un .not (.sym 62))),
  (.ev (.guard (.sym 63) false (.guard (.sym 59) true (.cell 3 (.sym 40))))),
  (.ev (.guard (.sym 63) false (.guard (.sym 59) true (.bin .neq .int (.sym 64) (.const (.v (.int .i64 2))))))),
  (.ev (.guard (.sym 63) false (.ite (.sym 59) (.sym 65) (.const (.v (.bool false)))))),
  (.ev (.ite (.sym 63) (.const (.v (.bool true))) (.sym 66)))]
  (.ite (.sym 67) (.ret (.tcons (.const (.v (.int .i64 2))) (.tcons (.sym 2) .tnil))) (.jump 2 [(.sym 59), (.sym 38), (.sym 39), (.sym 41), (.sym 41), (.sym 48), (.sym 48), (.sym 59), (.sym 60), (.sym 61), (.cons (.cell 0 (.sym 40)) (.cons (.cell 1 (.sym 40)) (.cons (.cell 2 (.sym 40)) (.cons (.cell 3 (.sym 40)) .nil)))), (.sym 62), (.sym 63), (.sym 63), (.sym 67), (.cell 0 (.sym 40)), (.cell 1 (.sym 40)), (.cell 2 (.sym 40)), (.cell 3 (.sym 40))]))) (wrapBinds [(.ev (.bin .add .int (.sym 36) (.const (.v (.int .i64 1)))))]
  (.jump 1 [(.sym 57)]))) (.jump 0 [(.sym 36), (.sym 37)])))) (.ret (.tcons (.const (.v (.int .i64 0))) (.tcons (.sym 2) .tnil)))))))
noncomputable def e19 : Entry := { f := 19, kn := .plain, cf := (scf true [] [] Tryz.f19), own := false, ones := [false, false], t := t19 }
theorem ok19 : EntOk Tryz.prog e19 := EntOk.ofPlain Tryz.func19 (by kernel_rfl) (by kernel_rfl)

noncomputable def t46 : T := (wrapBinds [(.ev (.bin .geq .int (.sym 0) (.sym 1))),
  (.ev (.guard (.sym 4) true (.bin .leq .int (.sym 0) (.sym 2)))),
  (.ev (.ite (.sym 4) (.sym 5) (.const (.v (.bool false)))))]
  (.ret (.tcons (.sym 6) (.tcons (.sym 3) .tnil))))
noncomputable def e46 : Entry := { f := 46, kn := .plain, cf := (scf true [] [] Tryz.f46), own := false, ones := [true, true, true], t := t46 }
theorem ok46 : EntOk Tryz.prog e46 := EntOk.ofPlain Tryz.func46 (by kernel_rfl) (by kernel_rfl)

noncomputable def t47 : T := (wrapBinds [(.ev (.mkptr (.cons (.scal (.sym 3)) .nil))),
  (.ev (.lenL (.sym 0))),
  (.call [] 46 (.sym 4) [(.sym 6), (.sym 1), (.sym 2)] [true]),
  (.ev (.guard (.sym 7) true (.mkfn 100 .tnil (.tcons (.sym 5) .tnil)))),
  (.call [((.sym 7), true)] 99 (.sym 4) [(.sym 0), (.sym 8)] [true]),
  (.ev (.guard (.sym 7) true (.un .not (.sym 9)))),
  (.ev (.ite (.sym 7) (.sym 10) (.const (.v (.bool false)))))]
  (.ret (.tcons (.sym 11) (.tcons (.sym 4) .tnil))))
noncomputable def e47 : Entry := { f := 47, kn := .plain, cf := (scf true [] [] Tryz.f47), own := false, ones := [true, true, true, true], t := t47 }
theorem ok47 : EntOk Tryz.prog e47 := EntOk.ofPlain Tryz.func47 (by kernel_rfl) (by kernel_rfl)

noncomputable def t99 : T := (wrapBinds [(.call [] 126 (.sym 2) [(.sym 0), (.sym 1)] [true]),
  (.ev (.bin .geq .int (.sym 3) (.const (.v (.int .i64 0)))))]
  (.ret (.tcons (.sym 4) (.tcons (.sym 2) .tnil))))
noncomputable def e99 : Entry := { f := 99, kn := .plain, cf := (scf true [] [] Tryz.f99), own := false, ones := [true, true], t := t99 }
theorem ok99 : EntOk Tryz.prog e99 := EntOk.ofPlain Tryz.func99 (by kernel_rfl) (by kernel_rfl)

noncomputable def t126 : T := (wrapBinds [(.ev (.lenL (.sym 0)))]
  (.join 0 2 (.loop 1 [(.const (.v (.int .i64 0)))] (wrapBinds [(.ev (.bin .lss .int (.sym 4) (.sym 3)))]
  (.ite (.sym 5) (.join 2 3 (wrapBinds [(.ev (.eaddr 1 (.sym 0) (.sym 4))),
  (.ev (.ld false 1 (.sym 2) (.sym 6))),
  (.callv [] (.sym 1) (.sym 2) [(.sym 7)] [true])]
  (.ite (.sym 8) (.ret (.tcons (.sym 4) (.tcons (.sym 2) .tnil))) (.jump 2 [(.sym 6), (.sym 7), (.sym 8)]))) (wrapBinds [(.ev (.bin .add .int (.sym 4) (.const (.v (.int .i64 1)))))]
  (.jump 1 [(.sym 9)]))) (.jump 0 [(.sym 4), (.sym 5)])))) (.ret (.tcons (.const (.v (.int .i64 (-1)))) (.tcons (.sym 2) .tnil)))))
noncomputable def e126 : Entry := { f := 126, kn := .plain, cf := (scf true [] [] Tryz.f126), own := false, ones := [true, true], t := t126 }
theorem ok126 : EntOk Tryz.prog e126 := EntOk.ofPlain Tryz.func126 (by kernel_rfl) (by kernel_rfl)

noncomputable def t100 : T := (wrapBinds [(.ev (.ld false 1 (.sym 2) (.sym 1))),
  (.call [] 46 (.sym 2) [(.sym 0), (.const (.v (.int .i64 0))), (.sym 3)] [true]),
  (.ev (.un .not (.sym 4)))]
  (.ret (.tcons (.sym 5) (.tcons (.sym 2) .tnil))))
noncomputable def e100 : Entry := { f := 100, kn := .plain, cf := (scf true [] [] Tryz.f100), own := false, ones := [true, true], t := t100 }
theorem ok100 : EntOk Tryz.prog e100 := EntOk.ofPlain Tryz.func100 (by kernel_rfl) (by kernel_rfl)

noncomputable def t48 : T := (wrapBinds [(.ev (.aggN 4 (.sym 0))),
  (.ev (.aggN 4 (.sym 1))),
  (.call [] 46 (.sym 2) [(.cell 0 (.sym 4)), (.const (.v (.int .i64 0))), (.const (.v (.int .i64 100000)))] [true]),
  (.ev (.un .not (.sym 5))),
  (.ev (.guard (.sym 6) false (.cell 1 (.sym 4)))),
  (.call [((.sym 6), false)] 46 (.sym 2) [(.sym 7), (.const (.v (.int .i64 0))), (.const (.v (.int .i64 36000000)))] [true]),
  (.ev (.guard (.sym 6) false (.un .not (.sym 8)))),
  (.ev (.ite (.sym 6) (.const (.v (.bool true))) (.sym 9)))]
  (.ite (.sym 10) (.ret (.tcons (.const (.v (.bool false))) (.tcons (.sym 2) .tnil))) (wrapBinds [(.ev (.bin .eql .int (.cell 0 (.sym 3)) (.const (.v (.int .i64 1)))))]
  (.join 0 6 (wrapBinds [(.ev (.bin .eql .int (.cell 3 (.sym 4)) (.const (.v (.int .i64 0)))))]
  (.ite (.sym 12) (wrapBinds [(.ev (.guard (.sym 11) true (.cell 1 (.sym 4)))),
  (.ev (.guard (.sym 11) true (.bin .eql .int (.sym 13) (.const (.v (.int .i64 0)))))),
  (.ev (.ite (.sym 11) (.sym 14) (.const (.v (.bool false))))),
  (.ev (.guard (.sym 15) true (.cell 2 (.sym 4)))),
  (.ev (.guard (.sym 15) true (.un .not (.sym 16)))),
  (.ev (.ite (.sym 15) (.sym 17) (.const (.v (.bool false))))),
  (.ev (.guard (.sym 18) false (.un .not (.sym 11)))),
  (.ev (.guard (.sym 18) false (.guard (.sym 19) true (.cell 1 (.sym 4))))),
  (.ev (.guard (.sym 18) false (.guard (.sym 19) true (.bin .gtr .int (.sym 20) (.const (.v (.int .i64 0))))))),
  (.ev (.guard (.sym 18) false (.ite (.sym 19) (.sym 21) (.const (.v (.bool false)))))),
  (.ev (.ite (.sym 18) (.const (.v (.bool true))) (.sym 22)))]
  (.ret (.tcons (.sym 23) (.tcons (.sym 2) .tnil)))) (wrapBinds [(.ev (.bin .eql .int (.cell 3 (.sym 4)) (.const (.v (.int .i64 1)))))]
  (.ite (.sym 13) (wrapBinds [(.ev (.un .not (.sym 11))),
  (.ev (.guard (.sym 14) true (.cell 1 (.sym 4)))),
  (.ev (.guard (.sym 14) true (.bin .eql .int (.sym 15) (.const (.v (.int .i64 0)))))),
  (.ev (.ite (.sym 14) (.sym 16) (.const (.v (.bool false)))))]
  (.ret (.tcons (.sym 17) (.tcons (.sym 2) .tnil)))) (wrapBinds [(.ev (.bin .eql .int (.cell 3 (.sym 4)) (.const (.v (.int .i64 2)))))]
  (.ite (.sym 14) (wrapBinds [(.ev (.bin .eql .int (.cell 0 (.sym 4)) (.const (.v (.int .i64 0))))),
  (.ev (.guard (.sym 15) true (.cell 1 (.sym 4)))),
  (.ev (.guard (.sym 15) true (.bin .eql .int (.sym 16) (.const (.v (.int .i64 0)))))),
  (.ev (.ite (.sym 15) (.sym 17) (.const (.v (.bool false))))),
  (.ev (.guard (.sym 18) true (.cell 2 (.sym 4)))),
  (.ev (.guard (.sym 18) true (.un .not (.sym 19)))),
  (.ev (.ite (.sym 18) (.sym 20) (.const (.v (.bool false)))))]
  (.ret (.tcons (.sym 21) (.tcons (.sym 2) .tnil)))) (.jump 0 [(.sym 12), (.sym 12), (.sym 13), (.sym 13), (.sym 14), (.sym 14)]))))))) (.ret (.tcons (.const (.v (.bool false))) (.tcons (.sym 2) .tnil)))))))
noncomputable def e48 : Entry := { f := 48, kn := .plain, cf := (scf true [] [] Tryz.f48), own := false, ones := [false, false], t := t48 }
theorem ok48 : EntOk Tryz.prog e48 := EntOk.ofPlain Tryz.func48 (by kernel_rfl) (by kernel_rfl)

noncomputable def t88 : T := (wrapBinds [(.ev (.aggN 14 (.sym 0))),
  (.ev (.aggN 3 (.sym 1))),
  (.ev (.eaddr 4 (.cell 0 (.sym 4)) (.sym 2))),
  (.ev (.padd 1 (.sym 6))),
  (.ev (.ld false 1 (.sym 3) (.sym 7))),
  (.ev (.bin .gtr .int (.sym 2) (.const (.v (.int .i64 0))))),
  (.ev (.guard (.sym 9) true (.cell 0 (.sym 4)))),
  (.ev (.guard (.sym 9) true (.bin .sub .int (.sym 2) (.const (.v (.int .i64 1)))))),
  (.ev (.guard (.sym 9) true (.eaddr 4 (.sym 10) (.sym 11)))),
  (.ev (.guard (.sym 9) true (.padd 1 (.sym 12)))),
  (.ev (.guard (.sym 9) true (.ld false 1 (.sym 3) (.sym 13)))),
  (.ev (.guard (.sym 9) true (.bin .eql .int (.sym 14) (.sym 8)))),
  (.ev (.ite (.sym 9) (.sym 15) (.const (.v (.bool false)))))]
  (.ite (.sym 16) (wrapBinds [(.ev (.bin .sub .int (.sym 2) (.const (.v (.int .i64 1))))),
  (.ev (.eaddr 4 (.cell 2 (.sym 5)) (.sym 17))),
  (.ev (.padd 0 (.sym 18))),
  (.ev (.ld false 1 (.sym 3) (.sym 19))),
  (.ev (.eaddr 4 (.cell 0 (.sym 4)) (.sym 2))),
  (.ev (.padd 2 (.sym 21))),
  (.ev (.ld false 1 (.sym 3) (.sym 22))),
  (.ev (.bin .add .int (.sym 20) (.sym 23)))]
  (.ret (.tcons (.sym 24) (.tcons (.sym 3) .tnil)))) (wrapBinds [(.ev (.eaddr 1 (.cell 1 (.sym 5)) (.sym 8))),
  (.ev (.ld false 1 (.sym 3) (.sym 17))),
  (.ev (.eaddr 4 (.cell 0 (.sym 4)) (.sym 2))),
  (.ev (.padd 2 (.sym 19))),
  (.ev (.ld false 1 (.sym 3) (.sym 20))),
  (.ev (.bin .add .int (.sym 18) (.sym 21)))]
  (.ret (.tcons (.sym 22) (.tcons (.sym 3) .tnil))))))
noncomputable def e88 : Entry := { f := 88, kn := .plain, cf := (scf true [] [] Tryz.f88), own := false, ones := [false, false, true], t := t88 }
theorem ok88 : EntOk Tryz.prog e88 := EntOk.ofPlain Tryz.func88 (by kernel_rfl) (by kernel_rfl)

noncomputable def t119 : T := (wrapBinds [(.ev (.aggN 14 (.sym 0))),
  (.ev (.aggN 3 (.sym 1))),
  (.ev (.eaddr 4 (.cell 0 (.sym 4)) (.sym 2))),
  (.ev (.padd 0 (.sym 6))),
  (.ev (.ld false 1 (.sym 3) (.sym 7))),
  (.ev (.bin .neq .int (.sym 8) (.const (.v (.int .i64 1))))),
  (.ev (.guard (.sym 9) false (.cell 2 (.sym 5)))),
  (.ev (.guard (.sym 9) false (.eaddr 4 (.sym 10) (.sym 2)))),
  (.ev (.guard (.sym 9) false (.padd 3 (.sym 11)))),
  (.ev (.guard (.sym 9) false (.ld false 1 (.sym 3) (.sym 12)))),
  (.ev (.guard (.sym 9) false (.bin .eql .int (.sym 13) (.const (.v (.int .i64 2)))))),
  (.ev (.ite (.sym 9) (.const (.v (.bool true))) (.sym 14)))]
  (.ite (.sym 15) (.ret (.tcons (.tcons (.const (.v (.int .i64 0))) (.tcons (.const (.v (.int .i64 0))) .tnil)) (.tcons (.sym 3) .tnil))) (wrapBinds [(.ev (.eaddr 4 (.cell 2 (.sym 5)) (.sym 2))),
  (.ev (.padd 0 (.sym 16))),
  (.ev (.ld false 1 (.sym 3) (.sym 17))),
  (.call [] 88 (.sym 3) [(.cons (.cell 0 (.sym 4)) (.cons (.cell 1 (.sym 4)) (.cons (.cell 2 (.sym 4)) (.cons (.cell 3 (.sym 4)) (.cons (.cell 4 (.sym 4)) (.cons (.cell 5 (.sym 4)) (.cons (.cell 6 (.sym 4)) (.cons (.cell 7 (.sym 4)) (.cons (.cell 8 (.sym 4)) (.cons (.cell 9 (.sym 4)) (.cons (.cell 10 (.sym 4)) (.cons (.cell 11 (.sym 4)) (.cons (.cell 12 (.sym 4)) (.cons (.cell 13 (.sym 4)) .nil)))))))))))))), (.cons (.cell 0 (.sym 5)) (.cons (.cell 1 (.sym 5)) (.cons (.cell 2 (.sym 5)) .nil))), (.sym 2)] [true]),
  (.ev (.bin .sub .int (.sym 18) (.sym 19)))]
  (.join 0 4 (wrapBinds [(.ev (.bin .gtr .int (.sym 20) (.const (.v (.int .i64 0)))))]
  (.ite (.sym 21) (.ret (.tcons (.tcons (.const (.v (.int .i64 1))) (.tcons (.sym 20) .tnil)) (.tcons (.sym 3) .tnil))) (wrapBinds [(.ev (.bin .lss .int (.sym 20) (.const (.v (.int .i64 0)))))]
  (.ite (.sym 22) (wrapBinds [(.ev (.un .neg (.sym 20)))]
  (.ret (.tcons (.tcons (.const (.v (.int .i64 2))) (.tcons (.sym 23) .tnil)) (.tcons (.sym 3) .tnil)))) (.jump 0 [(.sym 21), (.sym 21), (.sym 22), (.sym 22)]))))) (.ret (.tcons (.tcons (.const (.v (.int .i64 0))) (.tcons (.const (.v (.int .i64 0))) .tnil)) (.tcons (.sym 3) .tnil)))))))
noncomputable def e119 : Entry := { f := 119, kn := .plain, cf := (scf true [] [] Tryz.f119), own := false, ones := [false, false, true], t := t119 }
theorem ok119 : EntOk Tryz.prog e119 := EntOk.ofPlain Tryz.func119 (by kernel_rfl) (by kernel_rfl)

noncomputable def t101 : T := (wrapBinds [(.call [] 127 (.sym 2) [(.sym 0), (.sym 1)] [true]),
  (.ev (.bin .geq .int (.sym 3) (.const (.v (.int .i64 0)))))]
  (.ret (.tcons (.sym 4) (.tcons (.sym 2) .tnil))))
noncomputable def e101 : Entry := { f := 101, kn := .plain, cf := (scf true [] [] Tryz.f101), own := false, ones := [true, true], t := t101 }
theorem ok101 : EntOk Tryz.prog e101 := EntOk.ofPlain Tryz.func101 (by kernel_rfl) (by kernel_rfl)

noncomputable def t127 : T := (wrapBinds [(.ev (.lenL (.sym 0)))]
  (.join 0 2 (.loop 1 [(.const (.v (.int .i64 0)))] (wrapBinds [(.ev (.bin .lss .int (.sym 4) (.sym 3)))]
  (.ite (.sym 5) (.join 2 3 (wrapBinds [(.ev (.eaddr 3 (.sym 0) (.sym 4))),
  (.ev (.ld true 3 (.sym 2) (.sym 6))),
  (.callv [] (.sym 1) (.sym 2) [(.sym 7)] [true])]
  (.ite (.sym 8) (.ret (.tcons (.sym 4) (.tcons (.sym 2) .tnil))) (.jump 2 [(.sym 6), (.sym 7), (.sym 8)]))) (wrapBinds [(.ev (.bin .add .int (.sym 4) (.const (.v (.int .i64 1)))))]
  (.jump 1 [(.sym 9)]))) (.jump 0 [(.sym 4), (.sym 5)])))) (.ret (.tcons (.const (.v (.int .i64 (-1)))) (.tcons (.sym 2) .tnil)))))
noncomputable def e127 : Entry := { f := 127, kn := .plain, cf := (scf true [] [] Tryz.f127), own := false, ones := [true, true], t := t127 }
theorem ok127 : EntOk Tryz.prog e127 := EntOk.ofPlain Tryz.func127 (by kernel_rfl) (by kernel_rfl)

noncomputable def t102 : T := (wrapBinds [(.ev (.aggN 3 (.sym 0))),
  (.ev (.ld true 14 (.sym 2) (.sym 1))),
  (.call [] 19 (.sym 2) [(.sym 4), (.cons (.cell 0 (.sym 3)) (.cons (.cell 1 (.sym 3)) (.cons (.cell 2 (.sym 3)) .nil)))] [true]),
  (.ev (.bin .neq .int (.sym 5) (.const (.v (.int .i64 0)))))]
  (.ret (.tcons (.sym 6) (.tcons (.sym 2) .tnil))))
noncomputable def e102 : Entry := { f := 102, kn := .plain, cf := (scf true [] [] Tryz.f102), own := false, ones := [false, true], t := t102 }
theorem ok102 : EntOk Tryz.prog e102 := EntOk.ofPlain Tryz.func102 (by kernel_rfl) (by kernel_rfl)

noncomputable def t54 : T := (wrapBinds [(.ev (.nn (.sym 0))),
  (.ev (.padd 0 (.sym 3))),
  (.ev (.padd 0 (.sym 4))),
  (.ev (.ld false 1 (.sym 2) (.sym 5))),
  (.ev (.eaddr 4 (.sym 6) (.sym 1))),
  (.ev (.padd 0 (.sym 7))),
  (.ev (.ld false 1 (.sym 2) (.sym 8))),
  (.ev (.bin .eql .int (.sym 9) (.const (.v (.int .i64 2)))))]
  (.ret (.tcons (.sym 10) (.tcons (.sym 2) .tnil))))
noncomputable def e54 : Entry := { f := 54, kn := .plain, cf := (scf true [] [] Tryz.f54), own := false, ones := [true, true], t := t54 }
theorem ok54 : EntOk Tryz.prog e54 := EntOk.ofPlain Tryz.func54 (by kernel_rfl) (by kernel_rfl)

noncomputable def t55 : T := (wrapBinds [(.ev (.nn (.sym 0))),
  (.ev (.padd 15 (.sym 4))),
  (.ev (.ld false 1 (.sym 3) (.sym 5))),
  (.ev (.eaddr 1 (.sym 6) (.sym 1))),
  (.ev (.ld false 1 (.sym 3) (.sym 7))),
  (.ev (.bin .lss .int (.sym 8) (.const (.v (.int .i64 0))))),
  (.ev (.guard (.sym 9) false (.nn (.sym 0)))),
  (.ev (.guard (.sym 9) false (.padd 15 (.sym 10)))),
  (.ev (.guard (.sym 9) false (.ld false 1 (.sym 3) (.sym 11)))),
  (.ev (.guard (.sym 9) false (.eaddr 1 (.sym 12) (.sym 1)))),
  (.ev (.guard (.sym 9) false (.ld false 1 (.sym 3) (.sym 13)))),
  (.ev (.guard (.sym 9) false (.bin .lss .int (.sym 2) (.sym 14)))),
  (.ev (.ite (.sym 9) (.const (.v (.bool true))) (.sym 15)))]
  (.ret (.tcons (.sym 16) (.tcons (.sym 3) .tnil))))
noncomputable def e55 : Entry := { f := 55, kn := .plain, cf := (scf true [] [] Tryz.f55), own := false, ones := [true, true, true], t := t55 }
theorem ok55 : EntOk Tryz.prog e55 := EntOk.ofPlain Tryz.func55 (by kernel_rfl) (by kernel_rfl)

noncomputable def t57 : T := (wrapBinds [(.ev (.nn (.sym 0))),
  (.ev (.padd 0 (.sym 3))),
  (.ev (.padd 0 (.sym 4))),
  (.ev (.ld false 1 (.sym 2) (.sym 5))),
  (.ev (.lenL (.sym 6)))]
  (.join 0 3 (.loop 1 [(.const (.v (.int .i64 0))), (.const (.v (.int .i64 0)))] (wrapBinds [(.ev (.bin .lss .int (.sym 9) (.sym 7)))]
  (.ite (.sym 10) (.join 2 22 (wrapBinds [(.call [] 55 (.sym 2) [(.sym 0), (.sym 1), (.sym 9)] [true]),
  (.ev (.un .not (.sym 11)))]
  (.ite (.sym 12) (.jump 0 [(.sym 8), (.sym 9), (.sym 10)]) (wrapBinds [(.call [] 54 (.sym 2) [(.sym 0), (.sym 9)] [true])]
  (.join 3 1 (.ite (.sym 13) (wrapBinds [(.call [] 56 (.sym 2) [(.sym 0), (.sym 1), (.sym 9)] [true]),
  (.ev (.bin .add .int (.sym 8) (.sym 14)))]
  (.jump 3 [(.sym 15)])) (.jump 3 [(.sym 8)])) (wrapBinds [(.call [] 108 (.sym 2) [(.sym 0), (.sym 1), (.sym 9)] [true, true]),
  (.ev (.bin .add .int (.sym 14) (.tget 1 (.sym 15)))),
  (.ev (.nn (.sym 0))),
  (.ev (.padd 14 (.sym 17))),
  (.ev (.ld false 1 (.sym 2) (.sym 18))),
  (.ev (.eaddr 3 (.sym 19) (.sym 1))),
  (.ev (.padd 2 (.sym 20))),
  (.ev (.ld false 1 (.sym 2) (.sym 21))),
  (.ev (.eaddr 4 (.sym 22) (.sym 9))),
  (.ev (.padd 2 (.sym 23))),
  (.ev (.ld false 1 (.sym 2) (.sym 24)))]
  (.join 3 1 (.ite (.sym 25) (wrapBinds [(.call [] 109 (.sym 2) [(.sym 0), (.sym 1), (.sym 9)] [true]),
  (.ev (.bin .add .int (.sym 16) (.sym 26)))]
  (.jump 3 [(.sym 27)])) (.jump 3 [(.sym 16)])) (.jump 2 [(.sym 26), (.tget 0 (.sym 15)), (.tget 1 (.sym 15)), (.sym 11), (.sym 12), (.sym 13), (.tcons (.tget 0 (.sym 15)) (.tcons (.tget 1 (.sym 15)) .tnil)), (.tcons (.tget 0 (.sym 15)) (.tcons (.tget 1 (.sym 15)) .tnil)), (.tget 0 (.sym 15)), (.tget 1 (.sym 15)), (.sym 14), (.tget 1 (.sym 15)), (.sym 16), (.sym 17), (.sym 18), (.sym 19), (.sym 20), (.sym 21), (.sym 22), (.sym 23), (.sym 24), (.sym 25)]))))))) (wrapBinds [(.ev (.bin .add .int (.sym 9) (.const (.v (.int .i64 1)))))]
  (.jump 1 [(.sym 11), (.sym 33)]))) (.jump 0 [(.sym 8), (.sym 9), (.sym 10)])))) (.ret (.tcons (.sym 8) (.tcons (.sym 2) .tnil)))))
noncomputable def e57 : Entry := { f := 57, kn := .plain, cf := (scf true [] [] Tryz.f57), own := false, ones := [true, true], t := t57 }
theorem ok57 : EntOk Tryz.prog e57 := EntOk.ofPlain Tryz.func57 (by kernel_rfl) (by kernel_rfl)

noncomputable def t108 : T := (wrapBinds [(.ev (.nn (.sym 0))),
  (.ev (.padd 0 (.sym 4))),
  (.ev (.ld true 14 (.sym 3) (.sym 5))),
  (.ev (.nn (.sym 0))),
  (.ev (.padd 14 (.sym 7))),
  (.ev (.ld false 1 (.sym 3) (.sym 8))),
  (.ev (.eaddr 3 (.sym 9) (.sym 1))),
  (.ev (.ld true 3 (.sym 3) (.sym 10))),
  (.call [] 119 (.sym 3) [(.sym 6), (.sym 11), (.sym 2)] [true, true])]
  (.join 0 6 (wrapBinds [(.ev (.bin .eql .int (.tget 0 (.sym 12)) (.const (.v (.int .i64 1)))))]
  (.ite (.sym 13) (wrapBinds [(.ev (.nn (.sym 0))),
  (.ev (.padd 0 (.sym 14))),
  (.ev (.padd 2 (.sym 15))),
  (.ev (.padd 0 (.sym 16))),
  (.ev (.ld false 1 (.sym 3) (.sym 17))),
  (.ev (.bin .mul .int (.tget 1 (.sym 12)) (.sym 18)))]
  (.ret (.tcons (.tcons (.const (.v (.int .i64 1))) (.tcons (.sym 19) .tnil)) (.tcons (.sym 3) .tnil)))) (wrapBinds [(.ev (.bin .eql .int (.tget 0 (.sym 12)) (.const (.v (.int .i64 2))))),
  (.ev (.guard (.sym 14) true (.nn (.sym 0)))),
  (.ev (.guard (.sym 14) true (.padd 0 (.sym 15)))),
  (.ev (.guard (.sym 14) true (.padd 0 (.sym 16)))),
  (.ev (.guard (.sym 14) true (.ld false 1 (.sym 3) (.sym 17)))),
  (.ev (.guard (.sym 14) true (.eaddr 4 (.sym 18) (.sym 2)))),
  (.ev (.guard (.sym 14) true (.padd 3 (.sym 19)))),
  (.ev (.guard (.sym 14) true (.ld false 1 (.sym 3) (.sym 20)))),
  (.ev (.guard (.sym 14) true (.un .not (.sym 21)))),
  (.ev (.ite (.sym 14) (.sym 22) (.const (.v (.bool false)))))]
  (.ite (.sym 23) (wrapBinds [(.ev (.nn (.sym 0))),
  (.ev (.padd 0 (.sym 24))),
  (.ev (.padd 2 (.sym 25))),
  (.ev (.padd 1 (.sym 26))),
  (.ev (.ld false 1 (.sym 3) (.sym 27))),
  (.ev (.bin .mul .int (.tget 1 (.sym 12)) (.sym 28)))]
  (.ret (.tcons (.tcons (.const (.v (.int .i64 2))) (.tcons (.sym 29) .tnil)) (.tcons (.sym 3) .tnil)))) (.jump 0 [(.sym 13), (.sym 13), (.sym 23), (.sym 14), (.sym 14), (.sym 23)]))))) (.ret (.tcons (.tcons (.tget 0 (.sym 12)) (.tcons (.const (.v (.int .i64 0))) .tnil)) (.tcons (.sym 3) .tnil)))))
noncomputable def e108 : Entry := { f := 108, kn := .plain, cf := (scf true [] [] Tryz.f108), own := false, ones := [true, true, true], t := t108 }
theorem ok108 : EntOk Tryz.prog e108 := EntOk.ofPlain Tryz.func108 (by kernel_rfl) (by kernel_rfl)

noncomputable def t109 : T := (wrapBinds [(.call [] 123 (.sym 3) [(.sym 0), (.sym 1), (.sym 2)] [true]),
  (.ev (.lenL (.sym 4))),
  (.ev (.nn (.sym 0))),
  (.ev (.padd 0 (.sym 6))),
  (.ev (.padd 2 (.sym 7))),
  (.ev (.padd 4 (.sym 8))),
  (.ev (.ld false 1 (.sym 3) (.sym 9))),
  (.ev (.nn (.sym 0))),
  (.ev (.padd 0 (.sym 11))),
  (.ev (.padd 2 (.sym 12))),
  (.ev (.padd 4 (.sym 13))),
  (.ev (.ld false 1 (.sym 3) (.sym 14))),
  (.ev (.lenL (.sym 15))),
  (.ev (.mm false (.sym 5) (.sym 16))),
  (.ev (.bin .sub .int (.sym 17) (.const (.v (.int .i64 1))))),
  (.ev (.eaddr 1 (.sym 10) (.sym 18))),
  (.ev (.ld false 1 (.sym 3) (.sym 19)))]
  (.ret (.tcons (.sym 20) (.tcons (.sym 3) .tnil))))
noncomputable def e109 : Entry := { f := 109, kn := .plain, cf := (scf true [] [] Tryz.f109), own := false, ones := [true, true, true], t := t109 }
theorem ok109 : EntOk Tryz.prog e109 := EntOk.ofPlain Tryz.func109 (by kernel_rfl) (by kernel_rfl)

noncomputable def t123 : T := (wrapBinds [(.ev (.bin .add .int (.sym 2) (.const (.v (.int .i64 1)))))]
  (.join 0 3 (.loop 1 [(.const (.lst [])), (.const (.v (.int .i64 0)))] (wrapBinds [(.ev (.bin .lss .int (.sym 6) (.sym 4)))]
  (.ite (.sym 7) (.join 2 12 (wrapBinds [(.ev (.nn (.sym 0))),
  (.ev (.padd 14 (.sym 8))),
  (.ev (.ld false 1 (.sym 3) (.sym 9))),
  (.ev (.eaddr 3 (.sym 10) (.sym 1))),
  (.ev (.padd 2 (.sym 11))),
  (.ev (.ld false 1 (.sym 3) (.sym 12))),
  (.ev (.eaddr 4 (.sym 13) (.sym 6))),
  (.ev (.padd 2 (.sym 14))),
  (.ev (.ld false 1 (.sym 3) (.sym 15))),
  (.call [((.sym 16), true)] 55 (.sym 3) [(.sym 0), (.sym 1), (.sym 6)] [true]),
  (.ev (.ite (.sym 16) (.sym 17) (.const (.v (.bool false)))))]
  (.join 3 1 (.ite (.sym 18) (wrapBinds [(.ev (.lcons (.scal (.sym 6)) (.const (.lst [])))),
  (.ev (.app 1 8 (.sym 5) (.sym 19)))]
  (.jump 3 [(.sym 20)])) (.jump 3 [(.sym 5)])) (.jump 2 [(.sym 19), (.sym 8), (.sym 9), (.sym 10), (.sym 11), (.sym 12), (.sym 13), (.sym 14), (.sym 15), (.sym 16), (.sym 16), (.sym 18)]))) (wrapBinds [(.ev (.bin .add .int (.sym 6) (.const (.v (.int .i64 1)))))]
  (.jump 1 [(.sym 8), (.sym 20)]))) (.jump 0 [(.sym 5), (.sym 6), (.sym 7)])))) (.ret (.tcons (.sym 5) (.tcons (.sym 3) .tnil)))))
noncomputable def e123 : Entry := { f := 123, kn := .plain, cf := (scf true [] [] Tryz.f123), own := false, ones := [true, true, true], t := t123 }
theorem ok123 : EntOk Tryz.prog e123 := EntOk.ofPlain Tryz.func123 (by kernel_rfl) (by kernel_rfl)

noncomputable def t103 : T := (wrapBinds [(.ev (.nn (.sym 0))),
  (.ev (.padd 14 (.sym 4))),
  (.ev (.ld false 1 (.sym 3) (.sym 5))),
  (.ev (.eaddr 3 (.sym 6) (.sym 1))),
  (.ev (.padd 0 (.sym 7))),
  (.ev (.ld false 1 (.sym 3) (.sym 8))),
  (.call [] 64 (.sym 3) [(.sym 0), (.sym 2), (.sym 9)] [true]),
  (.ev (.lenL (.sym 10))),
  (.ev (.bin .gtr .int (.sym 11) (.const (.v (.int .i64 0)))))]
  (.ite (.sym 12) (.ret (.tcons (.sym 10) (.tcons (.sym 3) .tnil))) (wrapBinds [(.call [] 64 (.sym 3) [(.sym 0), (.sym 2), (.const (.v (.int .i64 (-1))))] [true])]
  (.ret (.tcons (.sym 13) (.tcons (.sym 3) .tnil))))))
noncomputable def e103 : Entry := { f := 103, kn := .plain, cf := (scf true [] [] Tryz.f103), own := false, ones := [true, true, true], t := t103 }
theorem ok103 : EntOk Tryz.prog e103 := EntOk.ofPlain Tryz.func103 (by kernel_rfl) (by kernel_rfl)

noncomputable def t66 : T := (wrapBinds [(.ev (.nn (.sym 0))),
  (.ev (.padd 14 (.sym 4))),
  (.ev (.ld false 1 (.sym 3) (.sym 5))),
  (.ev (.eaddr 3 (.sym 6) (.sym 1))),
  (.ev (.padd 2 (.sym 7))),
  (.ev (.ld false 1 (.sym 3) (.sym 8))),
  (.ev (.eaddr 4 (.sym 9) (.sym 2))),
  (.ev (.padd 1 (.sym 10))),
  (.ev (.ld false 1 (.sym 3) (.sym 11)))]
  (.ret (.tcons (.sym 12) (.tcons (.sym 3) .tnil))))
noncomputable def e66 : Entry := { f := 66, kn := .plain, cf := (scf true [] [] Tryz.f66), own := false, ones := [true, true, true], t := t66 }
theorem ok66 : EntOk Tryz.prog e66 := EntOk.ofPlain Tryz.func66 (by kernel_rfl) (by kernel_rfl)

noncomputable def t104 : T := (wrapBinds [(.call [] 67 (.sym 4) [(.sym 0), (.sym 1), (.sym 3)] [true]),
  (.ev (.lenL (.sym 1))),
  (.ev (.bin .sub .int (.sym 6) (.const (.v (.int .i64 1))))),
  (.ev (.bin .quo .int (.sym 7) (.const (.v (.int .i64 2))))),
  (.ev (.eaddr 1 (.sym 5) (.sym 8))),
  (.ev (.ld false 1 (.sym 4) (.sym 9)))]
  (.ret (.tcons (.sym 10) (.tcons (.sym 4) .tnil))))
noncomputable def e104 : Entry := { f := 104, kn := .plain, cf := (scf true [] [] Tryz.f104), own := false, ones := [true, true, true, true], t := t104 }
theorem ok104 : EntOk Tryz.prog e104 := EntOk.ofPlain Tryz.func104 (by kernel_rfl) (by kernel_rfl)

noncomputable def t105 : T := (wrapBinds [(.call [] 67 (.sym 4) [(.sym 0), (.sym 1), (.sym 3)] [true]),
  (.ev (.lenL (.sym 1))),
  (.ev (.bin .sub .int (.sym 6) (.const (.v (.int .i64 1))))),
  (.ev (.eaddr 1 (.sym 5) (.sym 7))),
  (.ev (.ld false 1 (.sym 4) (.sym 8)))]
  (.ret (.tcons (.sym 9) (.tcons (.sym 4) .tnil))))
noncomputable def e105 : Entry := { f := 105, kn := .plain, cf := (scf true [] [] Tryz.f105), own := false, ones := [true, true, true, true], t := t105 }
theorem ok105 : EntOk Tryz.prog e105 := EntOk.ofPlain Tryz.func105 (by kernel_rfl) (by kernel_rfl)

noncomputable def t106 : T := (wrapBinds [(.call [] 67 (.sym 4) [(.sym 0), (.sym 1), (.sym 3)] [true]),
  (.ev (.eaddr 1 (.sym 5) (.const (.v (.int .i64 0))))),
  (.ev (.ld false 1 (.sym 4) (.sym 6))),
  (.ev (.lenL (.sym 1)))]
  (.join 0 4 (.loop 1 [(.const (.v (.int .i64 (-1)))), (.sym 7), (.const (.v (.int .i64 0)))] (wrapBinds [(.ev (.bin .lss .int (.sym 11) (.sym 8)))]
  (.ite (.sym 12) (.join 2 32 (wrapBinds [(.ev (.eaddr 1 (.sym 1) (.sym 11))),
  (.ev (.ld false 1 (.sym 4) (.sym 13))),
  (.ev (.nn (.sym 0))),
  (.ev (.padd 14 (.sym 15))),
  (.ev (.ld false 1 (.sym 4) (.sym 16))),
  (.ev (.eaddr 3 (.sym 17) (.sym 14))),
  (.ev (.padd 2 (.sym 18))),
  (.ev (.ld false 1 (.sym 4) (.sym 19))),
  (.ev (.eaddr 4 (.sym 20) (.sym 3))),
  (.ev (.padd 0 (.sym 21))),
  (.ev (.ld false 1 (.sym 4) (.sym 22))),
  (.call [] 66 (.sym 4) [(.sym 0), (.sym 14), (.sym 3)] [true]),
  (.ev (.nn (.sym 0))),
  (.ev (.padd 14 (.sym 25))),
  (.ev (.ld false 1 (.sym 4) (.sym 26))),
  (.ev (.eaddr 3 (.sym 27) (.sym 2))),
  (.ev (.padd 2 (.sym 28))),
  (.ev (.ld false 1 (.sym 4) (.sym 29))),
  (.ev (.eaddr 4 (.sym 30) (.sym 3))),
  (.ev (.padd 0 (.sym 31))),
  (.ev (.ld false 1 (.sym 4) (.sym 32))),
  (.ev (.bin .leq .int (.sym 23) (.sym 33))),
  (.ev (.guard (.sym 34) true (.bin .gtr .int (.sym 23) (.sym 9)))),
  (.ev (.guard (.sym 34) true (.guard (.sym 35) false (.bin .eql .int (.sym 23) (.sym 9))))),
  (.ev (.guard (.sym 34) true (.guard (.sym 35) false (.guard (.sym 36) true (.bin .gtr .int (.sym 24) (.sym 10)))))),
  (.ev (.guard (.sym 34) true (.guard (.sym 35) false (.ite (.sym 36) (.sym 37) (.const (.v (.bool false))))))),
  (.ev (.guard (.sym 34) true (.ite (.sym 35) (.const (.v (.bool true))) (.sym 38)))),
  (.ev (.ite (.sym 34) (.sym 39) (.const (.v (.bool false)))))]
  (.join 3 2 (.ite (.sym 40) (.jump 3 [(.sym 23), (.sym 24)]) (.jump 3 [(.sym 9), (.sym 10)])) (.jump 2 [(.sym 41), (.sym 42), (.sym 14), (.sym 23), (.sym 24), (.sym 13), (.sym 14), (.sym 15), (.sym 16), (.sym 17), (.sym 14), (.sym 18), (.sym 19), (.sym 20), (.sym 21), (.sym 22), (.sym 23), (.sym 14), (.sym 24), (.sym 23), (.sym 25), (.sym 26), (.sym 27), (.sym 28), (.sym 29), (.sym 30), (.sym 31), (.sym 32), (.sym 33), (.sym 34), (.sym 34), (.sym 40)]))) (wrapBinds [(.ev (.bin .add .int (.sym 11) (.const (.v (.int .i64 1)))))]
  (.jump 1 [(.sym 13), (.sym 14), (.sym 45)]))) (.jump 0 [(.sym 9), (.sym 10), (.sym 11), (.sym 12)])))) (.ret (.tcons (.sym 10) (.tcons (.sym 4) .tnil)))))
noncomputable def e106 : Entry := { f := 106, kn := .plain, cf := (scf true [] [] Tryz.f106), own := false, ones := [true, true, true, true], t := t106 }
theorem ok106 : EntOk Tryz.prog e106 := EntOk.ofPlain Tryz.func106 (by kernel_rfl) (by kernel_rfl)

noncomputable def t107 : T := (wrapBinds [(.call [] 67 (.sym 4) [(.sym 0), (.sym 1), (.sym 3)] [true]),
  (.ev (.eaddr 1 (.sym 5) (.const (.v (.int .i64 0))))),
  (.ev (.ld false 1 (.sym 4) (.sym 6))),
  (.ev (.nn (.sym 0))),
  (.ev (.padd 0 (.sym 8))),
  (.ev (.padd 2 (.sym 9))),
  (.ev (.padd 8 (.sym 10))),
  (.ev (.ld false 1 (.sym 4) (.sym 11))),
  (.ev (.bin .mul .int (.sym 7) (.sym 12))),
  (.ev (.bin .add .int (.sym 13) (.const (.v (.int .i64 99))))),
  (.ev (.bin .quo .int (.sym 14) (.const (.v (.int .i64 100)))))]
  (.ret (.tcons (.sym 15) (.tcons (.sym 4) .tnil))))
noncomputable def e107 : Entry := { f := 107, kn := .plain, cf := (scf true [] [] Tryz.f107), own := false, ones := [true, true, true, true], t := t107 }
theorem ok107 : EntOk Tryz.prog e107 := EntOk.ofPlain Tryz.func107 (by kernel_rfl) (by kernel_rfl)

noncomputable def t78 : T := (wrapBinds [(.ev (.lenL (.sym 0))),
  (.ev (.bin .geq .int (.sym 1) (.sym 3)))]
  (.ite (.sym 4) (.ret (.tcons (.const (.v (.int .i64 0))) (.tcons (.sym 2) .tnil))) (wrapBinds [(.ev (.eaddr 1 (.sym 0) (.sym 1))),
  (.ev (.ld false 1 (.sym 2) (.sym 5)))]
  (.ret (.tcons (.sym 6) (.tcons (.sym 2) .tnil))))))
noncomputable def e78 : Entry := { f := 78, kn := .plain, cf := (scf true [] [] Tryz.f78), own := false, ones := [true, true], t := t78 }
theorem ok78 : EntOk Tryz.prog e78 := EntOk.ofPlain Tryz.func78 (by kernel_rfl) (by kernel_rfl)

noncomputable def t65 : T := (wrapBinds [(.call [] 111 (.sym 2) [(.sym 0), (.sym 1)] [true]),
  (.ev (.bin .geq .int (.sym 3) (.const (.v (.int .i64 0)))))]
  (.ret (.tcons (.sym 4) (.tcons (.sym 2) .tnil))))
noncomputable def e65 : Entry := { f := 65, kn := .plain, cf := (scf true [] [] Tryz.f65), own := false, ones := [true, true], t := t65 }
theorem ok65 : EntOk Tryz.prog e65 := EntOk.ofPlain Tryz.func65 (by kernel_rfl) (by kernel_rfl)

noncomputable def t111 : T := (wrapBinds [(.ev (.lenL (.sym 0)))]
  (.join 0 2 (.loop 1 [(.const (.v (.int .i64 0)))] (wrapBinds [(.ev (.bin .lss .int (.sym 4) (.sym 3)))]
  (.ite (.sym 5) (.join 2 3 (wrapBinds [(.ev (.eaddr 1 (.sym 0) (.sym 4))),
  (.ev (.ld false 1 (.sym 2) (.sym 6))),
  (.ev (.bin .eql .int (.sym 1) (.sym 7)))]
  (.ite (.sym 8) (.ret (.tcons (.sym 4) (.tcons (.sym 2) .tnil))) (.jump 2 [(.sym 6), (.sym 7), (.sym 8)]))) (wrapBinds [(.ev (.bin .add .int (.sym 4) (.const (.v (.int .i64 1)))))]
  (.jump 1 [(.sym 9)]))) (.jump 0 [(.sym 4), (.sym 5)])))) (.ret (.tcons (.const (.v (.int .i64 (-1)))) (.tcons (.sym 2) .tnil)))))
noncomputable def e111 : Entry := { f := 111, kn := .plain, cf := (scf true [] [] Tryz.f111), own := false, ones := [true, true], t := t111 }
theorem ok111 : EntOk Tryz.prog e111 := EntOk.ofPlain Tryz.func111 (by kernel_rfl) (by kernel_rfl)

noncomputable def t69 : T := (wrapBinds [(.ev (.mkptr (.cons (.scal (.sym 0)) .nil))),
  (.ev (.mkfn 114 .tnil (.tcons (.sym 2) .tnil)))]
  (.ret (.tcons (.sym 3) (.tcons (.sym 1) .tnil))))
noncomputable def e69 : Entry := { f := 69, kn := .plain, cf := (scf true [] [] Tryz.f69), own := false, ones := [true], t := t69 }
theorem ok69 : EntOk Tryz.prog e69 := EntOk.ofPlain Tryz.func69 (by kernel_rfl) (by kernel_rfl)

noncomputable def t70 : T := (wrapBinds [(.ev (.ld false 1 (.sym 3) (.sym 2))),
  (.ev (.eaddr 1 (.sym 4) (.sym 0))),
  (.ev (.ld false 1 (.sym 3) (.sym 5))),
  (.ev (.ld false 1 (.sym 3) (.sym 2))),
  (.ev (.eaddr 1 (.sym 7) (.sym 1))),
  (.ev (.ld false 1 (.sym 3) (.sym 8))),
  (.call [] 71 (.sym 3) [(.sym 6), (.sym 9)] [true])]
  (.ret (.tcons (.sym 10) (.tcons (.sym 3) .tnil))))
noncomputable def e70 : Entry := { f := 70, kn := .plain, cf := (scf true [] [] Tryz.f70), own := false, ones := [true, true, true], t := t70 }
theorem ok70 : EntOk Tryz.prog e70 := EntOk.ofPlain Tryz.func70 (by kernel_rfl) (by kernel_rfl)

noncomputable def t72 : T := (wrapBinds [(.ev (.ld false 1 (.sym 3) (.sym 2))),
  (.ev (.eaddr 1 (.sym 4) (.sym 1))),
  (.ev (.ld false 1 (.sym 3) (.sym 5))),
  (.ev (.ld false 1 (.sym 3) (.sym 2))),
  (.ev (.eaddr 1 (.sym 7) (.sym 0))),
  (.ev (.ld false 1 (.sym 3) (.sym 8))),
  (.call [] 71 (.sym 3) [(.sym 6), (.sym 9)] [true])]
  (.ret (.tcons (.sym 10) (.tcons (.sym 3) .tnil))))
noncomputable def e72 : Entry := { f := 72, kn := .plain, cf := (scf true [] [] Tryz.f72), own := false, ones := [true, true, true], t := t72 }
theorem ok72 : EntOk Tryz.prog e72 := EntOk.ofPlain Tryz.func72 (by kernel_rfl) (by kernel_rfl)

noncomputable def t73 : T := (wrapBinds [(.ev (.ld false 1 (.sym 3) (.sym 2))),
  (.ev (.eaddr 1 (.sym 4) (.sym 0))),
  (.ev (.ld false 1 (.sym 3) (.sym 5))),
  (.ev (.ld false 1 (.sym 3) (.sym 2))),
  (.ev (.eaddr 1 (.sym 7) (.sym 1))),
  (.ev (.ld false 1 (.sym 3) (.sym 8))),
  (.call [] 74 (.sym 3) [(.sym 6), (.sym 9)] [true])]
  (.ret (.tcons (.sym 10) (.tcons (.sym 3) .tnil))))
noncomputable def e73 : Entry := { f := 73, kn := .plain, cf := (scf true [] [] Tryz.f73), own := false, ones := [true, true, true], t := t73 }
theorem ok73 : EntOk Tryz.prog e73 := EntOk.ofPlain Tryz.func73 (by kernel_rfl) (by kernel_rfl)

noncomputable def t75 : T := (wrapBinds [(.call [] 71 (.sym 2) [(.sym 0), (.sym 1)] [true])]
  (.ret (.tcons (.sym 3) (.tcons (.sym 2) .tnil))))
noncomputable def e75 : Entry := { f := 75, kn := .plain, cf := (scf true [] [] Tryz.f75), own := false, ones := [true, true], t := t75 }
theorem ok75 : EntOk Tryz.prog e75 := EntOk.ofPlain Tryz.func75 (by kernel_rfl) (by kernel_rfl)

noncomputable def t77 : T := (wrapBinds [(.ev (.ld false 1 (.sym 4) (.sym 2))),
  (.ev (.padd 2 (.sym 3))),
  (.ev (.padd 9 (.sym 6))),
  (.ev (.ld false 1 (.sym 4) (.sym 7))),
  (.call [] 66 (.sym 4) [(.sym 5), (.sym 0), (.sym 8)] [true]),
  (.ev (.ld false 1 (.sym 4) (.sym 2))),
  (.ev (.padd 2 (.sym 3))),
  (.ev (.padd 9 (.sym 11))),
  (.ev (.ld false 1 (.sym 4) (.sym 12))),
  (.call [] 66 (.sym 4) [(.sym 10), (.sym 1), (.sym 13)] [true]),
  (.call [] 71 (.sym 4) [(.sym 9), (.sym 14)] [true])]
  (.ret (.tcons (.sym 15) (.tcons (.sym 4) .tnil))))
noncomputable def e77 : Entry := { f := 77, kn := .plain, cf := (scf true [] [] Tryz.f77), own := false, ones := [true, true, true, true], t := t77 }
theorem ok77 : EntOk Tryz.prog e77 := EntOk.ofPlain Tryz.func77 (by kernel_rfl) (by kernel_rfl)

noncomputable def t114 : T := (wrapBinds [(.ev (.ld false 1 (.sym 3) (.sym 2))),
  (.ev (.lenL (.sym 4)))]
  (.join 0 2 (.loop 1 [(.const (.v (.int .i64 0)))] (wrapBinds [(.ev (.bin .lss .int (.sym 6) (.sym 5)))]
  (.ite (.sym 7) (.join 2 8 (wrapBinds [(.ev (.eaddr 1 (.sym 4) (.sym 6))),
  (.ev (.ld false 1 (.sym 3) (.sym 8))),
  (.callv [] (.sym 9) (.sym 3) [(.sym 0), (.sym 1)] [true]),
  (.ev (.bin .neq .int (.sym 10) (.const (.v (.int .i64 0)))))]
  (.ite (.sym 11) (.ret (.tcons (.sym 10) (.tcons (.sym 3) .tnil))) (.jump 2 [(.sym 9), (.sym 10), (.sym 8), (.sym 9), (.sym 9), (.sym 10), (.sym 10), (.sym 11)]))) (wrapBinds [(.ev (.bin .add .int (.sym 6) (.const (.v (.int .i64 1)))))]
  (.jump 1 [(.sym 16)]))) (.jump 0 [(.sym 6), (.sym 7)])))) (.ret (.tcons (.const (.v (.int .i64 0))) (.tcons (.sym 3) .tnil)))))
noncomputable def e114 : Entry := { f := 114, kn := .plain, cf := (scf true [] [] Tryz.f114), own := false, ones := [true, true, true], t := t114 }
theorem ok114 : EntOk Tryz.prog e114 := EntOk.ofPlain Tryz.func114 (by kernel_rfl) (by kernel_rfl)

noncomputable def t71 : T := (wrapBinds [(.call [] 115 (.sym 2) [(.sym 0)] [true]),
  (.call [] 115 (.sym 2) [(.sym 1)] [true])]
  (.ite (.sym 3) (.ite (.sym 4) (.ret (.tcons (.const (.v (.int .i64 0))) (.tcons (.sym 2) .tnil))) (.ret (.tcons (.const (.v (.int .i64 (-1)))) (.tcons (.sym 2) .tnil)))) (.ite (.sym 4) (.ret (.tcons (.const (.v (.int .i64 1))) (.tcons (.sym 2) .tnil))) (wrapBinds [(.ev (.bin .lss .int (.sym 0) (.sym 1)))]
  (.ite (.sym 5) (.ret (.tcons (.const (.v (.int .i64 (-1)))) (.tcons (.sym 2) .tnil))) (wrapBinds [(.ev (.bin .gtr .int (.sym 0) (.sym 1)))]
  (.ite (.sym 6) (.ret (.tcons (.const (.v (.int .i64 1))) (.tcons (.sym 2) .tnil))) (.ret (.tcons (.const (.v (.int .i64 0))) (.tcons (.sym 2) .tnil))))))))))
noncomputable def e71 : Entry := { f := 71, kn := .plain, cf := (scf true [] [] Tryz.f71), own := false, ones := [true, true], t := t71 }
theorem ok71 : EntOk Tryz.prog e71 := EntOk.ofPlain Tryz.func71 (by kernel_rfl) (by kernel_rfl)

noncomputable def t74 : T := (wrapBinds [(.ev (.lenL (.sym 0)))]
  (.join 0 2 (.loop 1 [(.const (.v (.int .i64 0)))] (wrapBinds [(.ev (.bin .lss .int (.sym 4) (.sym 3)))]
  (.ite (.sym 5) (.join 2 14 (wrapBinds [(.ev (.eaddr 1 (.sym 0) (.sym 4))),
  (.ev (.ld false 1 (.sym 2) (.sym 6))),
  (.ev (.lenL (.sym 1))),
  (.ev (.bin .geq .int (.sym 4) (.sym 8)))]
  (.ite (.sym 9) (.ret (.tcons (.const (.v (.int .i64 1))) (.tcons (.sym 2) .tnil))) (wrapBinds [(.ev (.eaddr 1 (.sym 1) (.sym 4))),
  (.ev (.ld false 1 (.sym 2) (.sym 10))),
  (.call [] 71 (.sym 2) [(.sym 7), (.sym 11)] [true]),
  (.ev (.bin .neq .int (.sym 12) (.const (.v (.int .i64 0)))))]
  (.ite (.sym 13) (.ret (.tcons (.sym 12) (.tcons (.sym 2) .tnil))) (.jump 2 [(.sym 7), (.sym 11), (.sym 12), (.sym 6), (.sym 7), (.sym 8), (.sym 9), (.sym 10), (.sym 11), (.sym 7), (.sym 11), (.sym 12), (.sym 12), (.sym 13)]))))) (wrapBinds [(.ev (.bin .add .int (.sym 4) (.const (.v (.int .i64 1)))))]
  (.jump 1 [(.sym 20)]))) (.jump 0 [(.sym 4), (.sym 5)])))) (wrapBinds [(.ev (.lenL (.sym 0))),
  (.ev (.lenL (.sym 1))),
  (.ev (.bin .lss .int (.sym 6) (.sym 7)))]
  (.ite (.sym 8) (.ret (.tcons (.const (.v (.int .i64 (-1)))) (.tcons (.sym 2) .tnil))) (.ret (.tcons (.const (.v (.int .i64 0))) (.tcons (.sym 2) .tnil)))))))
noncomputable def e74 : Entry := { f := 74, kn := .plain, cf := (scf true [] [] Tryz.f74), own := false, ones := [true, true], t := t74 }
theorem ok74 : EntOk Tryz.prog e74 := EntOk.ofPlain Tryz.func74 (by kernel_rfl) (by kernel_rfl)

noncomputable def t115 : T := (wrapBinds [(.ev (.bin .neq .int (.sym 0) (.sym 0)))]
  (.ret (.tcons (.sym 2) (.tcons (.sym 1) .tnil))))
noncomputable def e115 : Entry := { f := 115, kn := .plain, cf := (scf true [] [] Tryz.f115), own := false, ones := [true], t := t115 }
theorem ok115 : EntOk Tryz.prog e115 := EntOk.ofPlain Tryz.func115 (by kernel_rfl) (by kernel_rfl)

noncomputable def t83 : T := (wrapBinds [(.ev (.bin .sub .int (.sym 1) (.sym 0)))]
  (.ret (.tcons (.sym 3) (.tcons (.sym 2) .tnil))))
noncomputable def e83 : Entry := { f := 83, kn := .plain, cf := (scf true [] [] Tryz.f83), own := false, ones := [true, true], t := t83 }
theorem ok83 : EntOk Tryz.prog e83 := EntOk.ofPlain Tryz.func83 (by kernel_rfl) (by kernel_rfl)

noncomputable def t84 : T := (wrapBinds [(.ev (.ld false 1 (.sym 4) (.sym 2))),
  (.ev (.eaddr 1 (.sym 5) (.sym 1))),
  (.ev (.ld false 1 (.sym 4) (.sym 6))),
  (.ev (.ld false 1 (.sym 4) (.sym 2))),
  (.ev (.eaddr 1 (.sym 8) (.sym 0))),
  (.ev (.ld false 1 (.sym 4) (.sym 9))),
  (.call [] 71 (.sym 4) [(.sym 7), (.sym 10)] [true]),
  (.ev (.ld false 1 (.sym 4) (.sym 3))),
  (.ev (.eaddr 1 (.sym 12) (.sym 1))),
  (.ev (.ld false 1 (.sym 4) (.sym 13))),
  (.ev (.ld false 1 (.sym 4) (.sym 3))),
  (.ev (.eaddr 1 (.sym 15) (.sym 0))),
  (.ev (.ld false 1 (.sym 4) (.sym 16))),
  (.call [] 74 (.sym 4) [(.sym 14), (.sym 17)] [true]),
  (.ev (.lcons (.scal (.sym 11)) (.lcons (.scal (.sym 18)) (.const (.lst []))))),
  (.call [] 85 (.sym 4) [(.sym 19)] [true])]
  (.ret (.tcons (.sym 20) (.tcons (.sym 4) .tnil))))
noncomputable def e84 : Entry := { f := 84, kn := .plain, cf := (scf true [] [] Tryz.f84), own := false, ones := [true, true, true, true], t := t84 }
theorem ok84 : EntOk Tryz.prog e84 := EntOk.ofPlain Tryz.func84 (by kernel_rfl) (by kernel_rfl)

noncomputable def t85 : T := (wrapBinds [(.ev (.lenL (.sym 0)))]
  (.join 0 2 (.loop 1 [(.const (.v (.int .i64 0)))] (wrapBinds [(.ev (.bin .lss .int (.sym 3) (.sym 2)))]
  (.ite (.sym 4) (.join 2 5 (wrapBinds [(.ev (.eaddr 1 (.sym 0) (.sym 3))),
  (.ev (.ld false 1 (.sym 1) (.sym 5))),
  (.ev (.bin .neq .int (.sym 6) (.const (.v (.int .i64 0)))))]
  (.ite (.sym 7) (.ret (.tcons (.sym 6) (.tcons (.sym 1) .tnil))) (.jump 2 [(.sym 6), (.sym 5), (.sym 6), (.sym 6), (.sym 7)]))) (wrapBinds [(.ev (.bin .add .int (.sym 3) (.const (.v (.int .i64 1)))))]
  (.jump 1 [(.sym 10)]))) (.jump 0 [(.sym 3), (.sym 4)])))) (.ret (.tcons (.const (.v (.int .i64 0))) (.tcons (.sym 1) .tnil)))))
noncomputable def e85 : Entry := { f := 85, kn := .plain, cf := (scf true [] [] Tryz.f85), own := false, ones := [true], t := t85 }
theorem ok85 : EntOk Tryz.prog e85 := EntOk.ofPlain Tryz.func85 (by kernel_rfl) (by kernel_rfl)

noncomputable def t118 : T := (wrapBinds [(.ev (.mkptr (.aggN 14 (.sym 0)))),
  (.ev (.mkptr (.cons (.scal (.sym 1)) .nil))),
  (.ev (.mkfn 139 .tnil (.tcons (.sym 3) (.tcons (.sym 4) .tnil))))]
  (.ret (.tcons (.sym 5) (.tcons (.sym 2) .tnil))))
noncomputable def e118 : Entry := { f := 118, kn := .plain, cf := (scf true [] [] Tryz.f118), own := false, ones := [false, true], t := t118 }
theorem ok118 : EntOk Tryz.prog e118 := EntOk.ofPlain Tryz.func118 (by kernel_rfl) (by kernel_rfl)

noncomputable def t53 : T := (wrapBinds [(.ev (.mkptr (.aggN 14 (.sym 0)))),
  (.ev (.ld true 14 (.sym 2) (.sym 3))),
  (.call [] 18 (.sym 2) [(.sym 4)] [true]),
  (.ev (.bin .neq .int (.sym 5) (.const (.v (.int .i64 0))))),
  (.ev (.guard (.sym 6) false (.lenL (.sym 1)))),
  (.ev (.guard (.sym 6) false (.bin .gtr .int (.sym 7) (.const (.v (.int .i64 200)))))),
  (.ev (.ite (.sym 6) (.const (.v (.bool true))) (.sym 8))),
  (.ev (.guard (.sym 9) false (.mkfn 102 .tnil (.tcons (.sym 3) .tnil)))),
  (.call [((.sym 9), false)] 101 (.sym 2) [(.sym 1), (.sym 10)] [true]),
  (.ev (.ite (.sym 9) (.const (.v (.bool true))) (.sym 11)))]
  (.ite (.sym 12) (.ret (.tcons (.tcons (.const (.v (.pointer none))) (.tcons (.const (.v (.bool false))) .tnil)) (.tcons (.sym 2) .tnil))) (wrapBinds [(.ev (.ld true 14 (.sym 2) (.sym 3))),
  (.ev (.cons (.aggN 14 (.sym 13)) (.cons (.scal (.sym 1)) (.cons (.const (.agg [.snil])) .nil)))),
  (.ev (.newb 99 16 (.sym 2) (.aggN 16 (.sym 14)))),
  (.ev (.lenL (.sym 1)))]
  (.join 0 3 (.loop 1 [(.const (.v (.int .i64 0))), (.sym 15)] (wrapBinds [(.ev (.bin .lss .int (.sym 17) (.sym 16)))]
  (.ite (.sym 19) (.join 2 16 (wrapBinds [(.ev (.eaddr 3 (.sym 1) (.sym 17))),
  (.ev (.ld true 3 (.sym 18) (.sym 20))),
  (.ev (.aggN 3 (.sym 21))),
  (.ev (.nn (.fstid (.sym 2)))),
  (.ev (.padd 15 (.sym 23))),
  (.ev (.ld false 1 (.sym 18) (.sym 24))),
  (.ev (.ld true 14 (.sym 18) (.sym 3))),
  (.call [] 89 (.sym 18) [(.sym 26), (.cons (.cell 0 (.sym 22)) (.cons (.cell 1 (.sym 22)) (.cons (.cell 2 (.sym 22)) .nil)))] [true]),
  (.ev (.lcons (.scal (.sym 27)) (.const (.lst [])))),
  (.ev (.apph 3 1 8 (.sym 18) (.sym 25) (.sym 28))),
  (.ev (.nn (.fstid (.sym 2)))),
  (.ev (.padd 15 (.sym 30))),
  (.ev (.sto 1 (.sym 29) (.sym 31) (.apps (.sym 18) (.sym 25) (.sym 28))))]
  (.jump 2 [(.sym 20), (.sym 21), (.sym 23), (.sym 24), (.sym 25), (.sym 26), (.cons (.cell 0 (.sym 22)) (.cons (.cell 1 (.sym 22)) (.cons (.cell 2 (.sym 22)) .nil))), (.sym 27), (.sym 28), (.apps (.sym 18) (.sym 25) (.sym 28)), (.sym 30), (.sym 31), (.cell 0 (.sym 22)), (.cell 1 (.sym 22)), (.cell 2 (.sym 22)), (.sym 32)])) (wrapBinds [(.ev (.bin .add .int (.sym 17) (.const (.v (.int .i64 1)))))]
  (.jump 1 [(.sym 36), (.sym 35)]))) (.jump 0 [(.sym 17), (.sym 19), (.sym 18)])))) (.ret (.tcons (.tcons (.fstid (.sym 2)) (.tcons (.const (.v (.bool true))) .tnil)) (.tcons (.sym 19) .tnil)))))))
noncomputable def e53 : Entry := { f := 53, kn := .plain, cf := { scf false [] [25] Tryz.f53 with nils := true }, own := true, ones := [false, true], t := t53 }
theorem ok53 : EntOk Tryz.prog e53 := EntOk.ofPlain Tryz.func53 (by kernel_rfl) (by kernel_rfl)

noncomputable def t56 : T := (wrapBinds [(.call [] 103 (.sym 3) [(.sym 0), (.sym 1), (.sym 2)] [true]),
  (.ev (.nn (.sym 0))),
  (.ev (.padd 14 (.sym 5))),
  (.ev (.ld false 1 (.sym 3) (.sym 6))),
  (.ev (.eaddr 3 (.sym 7) (.sym 1))),
  (.ev (.padd 2 (.sym 8))),
  (.ev (.ld false 1 (.sym 3) (.sym 9))),
  (.ev (.eaddr 4 (.sym 10) (.sym 2))),
  (.ev (.padd 3 (.sym 11))),
  (.ev (.ld false 1 (.sym 3) (.sym 12)))]
  (.join 0 4 (wrapBinds [(.ev (.bin .eql .int (.sym 13) (.const (.v (.int .i64 0)))))]
  (.ite (.sym 14) (wrapBinds [(.call [] 66 (.sym 3) [(.sym 0), (.sym 1), (.sym 2)] [true])]
  (.ret (.tcons (.sym 15) (.tcons (.sym 3) .tnil)))) (wrapBinds [(.ev (.bin .eql .int (.sym 13) (.const (.v (.int .i64 2)))))]
  (.ite (.sym 15) (wrapBinds [(.ev (.lenL (.sym 4))),
  (.ev (.bin .eql .int (.sym 16) (.const (.v (.int .i64 0)))))]
  (.ite (.sym 17) (wrapBinds [(.ev (.nn (.sym 0))),
  (.ev (.padd 0 (.sym 18))),
  (.ev (.padd 2 (.sym 19))),
  (.ev (.padd 6 (.sym 20))),
  (.ev (.ld false 1 (.sym 3) (.sym 21)))]
  (.ret (.tcons (.sym 22) (.tcons (.sym 3) .tnil)))) (wrapBinds [(.call [] 67 (.sym 3) [(.sym 0), (.sym 4), (.sym 2)] [true]),
  (.ev (.eaddr 1 (.sym 18) (.const (.v (.int .i64 0))))),
  (.ev (.ld false 1 (.sym 3) (.sym 19))),
  (.ev (.nn (.sym 0))),
  (.ev (.padd 0 (.sym 21))),
  (.ev (.padd 2 (.sym 22))),
  (.ev (.padd 6 (.sym 23))),
  (.ev (.ld false 1 (.sym 3) (.sym 24))),
  (.ev (.bin .add .int (.sym 20) (.sym 25)))]
  (.ret (.tcons (.sym 26) (.tcons (.sym 3) .tnil)))))) (.jump 0 [(.sym 14), (.sym 14), (.sym 15), (.sym 15)]))))) (wrapBinds [(.ev (.lenL (.sym 4))),
  (.ev (.bin .eql .int (.sym 18) (.const (.v (.int .i64 0)))))]
  (.ite (.sym 19) (.ret (.tcons (.const (.v (.int .i64 0))) (.tcons (.sym 3) .tnil))) (wrapBinds [(.ev (.mkfn 104 (.tcons (.sym 0) .tnil) .tnil)),
  (.ev (.mkfn 105 (.tcons (.sym 0) .tnil) .tnil)),
  (.ev (.mkfn 106 (.tcons (.sym 0) .tnil) .tnil)),
  (.ev (.mkfn 107 (.tcons (.sym 0) .tnil) .tnil)),
  (.ev (.newb 129 5 (.sym 3) (.const (.agg [(.v .nilFunc), (.v .nilFunc), (.v .nilFunc), (.v .nilFunc), (.v .nilFunc)])))),
  (.ev (.sto 5 (.sym 24) (.fstid (.sym 3)) (.cons (.const (.v .nilFunc)) (.cons (.sym 20) (.cons (.sym 21) (.cons (.sym 22) (.cons (.sym 23) .nil))))))),
  (.ev (.nn (.sym 0))),
  (.ev (.padd 0 (.sym 26))),
  (.ev (.padd 2 (.sym 27))),
  (.ev (.padd 7 (.sym 28))),
  (.ev (.ld false 1 (.sym 25) (.sym 29))),
  (.ev (.m4 (.elemA 5 1) (.fstid (.sym 3)) (.sym 30) .nil .nil)),
  (.ev (.ld false 1 (.sym 25) (.sym 31))),
  (.callv [] (.sym 32) (.sym 25) [(.sym 4), (.sym 1), (.sym 2)] [true])]
  (.ret (.tcons (.sym 33) (.tcons (.sym 25) .tnil))))))))
noncomputable def e56 : Entry := { f := 56, kn := .plain, cf := (scf false [] [8] Tryz.f56), own := true, ones := [true, true, true], t := t56 }
theorem ok56 : EntOk Tryz.prog e56 := EntOk.ofPlain Tryz.func56 (by kernel_rfl) (by kernel_rfl)

noncomputable def t64 : T := (wrapBinds [(.ev (.nn (.sym 0))),
  (.ev (.padd 14 (.sym 4))),
  (.ev (.ld false 1 (.sym 3) (.sym 5))),
  (.ev (.lenL (.sym 6)))]
  (.join 0 4 (.loop 1 [(.const .snil), (.const (.v (.int .i64 0))), (.sym 3)] (wrapBinds [(.ev (.bin .lss .int (.sym 9) (.sym 7)))]
  (.ite (.sym 11) (.join 2 16 (wrapBinds [(.ev (.eaddr 3 (.sym 6) (.sym 9))),
  (.ev (.ld true 3 (.sym 10) (.sym 12))),
  (.ev (.aggN 3 (.sym 13))),
  (.ev (.eaddr 4 (.cell 2 (.sym 14)) (.sym 1))),
  (.ev (.padd 3 (.sym 15))),
  (.ev (.ld false 1 (.sym 10) (.sym 16))),
  (.ev (.bin .eql .int (.sym 17) (.const (.v (.int .i64 0))))),
  (.call [((.sym 18), true)] 55 (.sym 10) [(.sym 0), (.sym 9), (.sym 1)] [true]),
  (.ev (.ite (.sym 18) (.sym 19) (.const (.v (.bool false))))),
  (.ev (.guard (.sym 20) true (.bin .lss .int (.sym 2) (.const (.v (.int .i64 0)))))),
  (.ev (.guard (.sym 20) true (.guard (.sym 21) false (.cell 0 (.sym 14))))),
  (.ev (.guard (.sym 20) true (.guard (.sym 21) false (.bin .eql .int (.sym 22) (.sym 2))))),
  (.ev (.guard (.sym 20) true (.ite (.sym 21) (.const (.v (.bool true))) (.sym 23)))),
  (.ev (.ite (.sym 20) (.sym 24) (.const (.v (.bool false)))))]
  (.join 3 2 (.ite (.sym 25) (wrapBinds [(.ev (.lcons (.scal (.sym 9)) (.const (.lst [])))),
  (.ev (.apph 3 1 8 (.sym 10) (.sym 8) (.sym 26)))]
  (.jump 3 [(.apps (.sym 10) (.sym 8) (.sym 26)), (.sym 27)])) (.jump 3 [(.sym 8), (.sym 10)])) (.jump 2 [(.sym 26), (.sym 12), (.sym 13), (.cell 2 (.sym 14)), (.sym 15), (.sym 16), (.sym 17), (.sym 18), (.sym 18), (.sym 20), (.sym 20), (.sym 25), (.cell 0 (.sym 14)), (.cell 1 (.sym 14)), (.cell 2 (.sym 14)), (.sym 27)]))) (wrapBinds [(.ev (.bin .add .int (.sym 9) (.const (.v (.int .i64 1)))))]
  (.jump 1 [(.sym 12), (.sym 28), (.sym 27)]))) (.jump 0 [(.sym 8), (.sym 9), (.sym 11), (.sym 10)])))) (.ret (.tcons (.sym 8) (.tcons (.sym 11) .tnil)))))
noncomputable def e64 : Entry := { f := 64, kn := .plain, cf := (scf false [] [7] Tryz.f64), own := true, ones := [true, true, true], t := t64 }
theorem ok64 : EntOk Tryz.prog e64 := EntOk.ofPlain Tryz.func64 (by kernel_rfl) (by kernel_rfl)

noncomputable def t67 : T := (wrapBinds [(.ev (.lenL (.sym 1)))]
  (.join 0 4 (.loop 1 [(.const .snil), (.const (.v (.int .i64 0))), (.sym 3)] (wrapBinds [(.ev (.bin .lss .int (.sym 6) (.sym 4)))]
  (.ite (.sym 8) (.join 2 9 (wrapBinds [(.ev (.eaddr 1 (.sym 1) (.sym 6))),
  (.ev (.ld false 1 (.sym 7) (.sym 9))),
  (.call [] 66 (.sym 7) [(.sym 0), (.sym 10), (.sym 2)] [true]),
  (.ev (.lcons (.scal (.sym 11)) (.const (.lst [])))),
  (.ev (.apph 3 1 8 (.sym 7) (.sym 5) (.sym 12)))]
  (.jump 2 [(.apps (.sym 7) (.sym 5) (.sym 12)), (.sym 10), (.sym 9), (.sym 10), (.sym 10), (.sym 11), (.sym 12), (.apps (.sym 7) (.sym 5) (.sym 12)), (.sym 13)])) (wrapBinds [(.ev (.bin .add .int (.sym 6) (.const (.v (.int .i64 1)))))]
  (.jump 1 [(.sym 9), (.sym 18), (.sym 17)]))) (.jump 0 [(.sym 5), (.sym 6), (.sym 8), (.sym 7)])))) (wrapBinds [(.wcall [] 96 (.sym 8) [(.sym 5)] [])]
  (.ret (.tcons (.sym 5) (.tcons (.tget 1 (.sym 9)) .tnil))))))
noncomputable def e67 : Entry := { f := 67, kn := .plain, cf := (scf false [] [7] Tryz.f67), own := true, ones := [true, true, true], t := t67 }
theorem ok67 : EntOk Tryz.prog e67 := EntOk.ofPlain Tryz.func67 (by kernel_rfl) (by kernel_rfl)

noncomputable def t89 : T := (wrapBinds [(.ev (.mkptr (.aggN 14 (.sym 0)))),
  (.ev (.mkptr (.aggN 3 (.sym 1)))),
  (.ev (.newb 3 1 (.sym 2) (.const (.agg [(.v (.int .i64 0))])))),
  (.ev (.padd 0 (.sym 3))),
  (.ev (.ld false 1 (.sym 5) (.sym 6))),
  (.ev (.padd 0 (.sym 3))),
  (.ev (.ld false 1 (.sym 5) (.sym 8))),
  (.ev (.lenL (.sym 9))),
  (.ev (.bin .sub .int (.sym 10) (.const (.v (.int .i64 1))))),
  (.ev (.eaddr 4 (.sym 7) (.sym 11))),
  (.ev (.padd 1 (.sym 12))),
  (.ev (.ld false 1 (.sym 5) (.sym 13))),
  (.ev (.newb 3 1 (.sym 5) (.const (.agg [(.v (.int .i64 0))])))),
  (.ev (.sto 1 (.sym 15) (.fstid (.sym 5)) (.sym 14))),
  (.ev (.ld false 1 (.sym 16) (.fstid (.sym 5)))),
  (.ev (.bin .add .int (.sym 17) (.const (.v (.int .i64 1)))))]
  (.join 0 3 (.loop 1 [(.const (.v (.int .i64 0))), (.sym 16)] (wrapBinds [(.ev (.bin .lss .int (.sym 19) (.sym 18)))]
  (.ite (.sym 21) (.join 2 5 (wrapBinds [(.ev (.newb 3 1 (.sym 20) (.const (.agg [(.v (.int .i64 0))])))),
  (.ev (.sto 1 (.sym 22) (.fstid (.sym 20)) (.sym 19))),
  (.ev (.newb 3 1 (.sym 23) (.const (.agg [(.v (.int .i64 0))])))),
  (.ev (.sto 1 (.sym 24) (.fstid (.sym 23)) (.const (.v (.int .i64 0))))),
  (.ev (.ld true 14 (.sym 25) (.sym 3))),
  (.ev (.ld false 1 (.sym 25) (.fstid (.sym 20)))),
  (.call [] 118 (.sym 25) [(.sym 26), (.sym 27)] [true])]
  (.join 3 1 (.rforx (.sym 28) (.sym 25) [0, 1, 2, 3, 4, 5, 6, 7, 11, 12, 13, 14, 15, 16, 17, 18, 19, 20, 21, 22, 23, 24, 25, 26, 27] [(.sym 0), (.sym 1), (.sym 3), (.sym 4), (.fstid (.sym 2)), (.fstid (.sym 5)), (.fstid (.sym 20)), (.fstid (.sym 23)), (.sym 6), (.sym 7), (.sym 8), (.sym 9), (.sym 10), (.sym 11), (.sym 12), (.sym 13), (.sym 14), (.sym 17), (.sym 18), (.sym 19), (.sym 21), (.sym 19), (.sym 26), (.sym 27), (.sym 28)] 1 4 none (.join 6 19 (wrapBinds [(.ev (.padd 2 (.sym 4))),
  (.ev (.ld false 1 (.sym 29) (.sym 31))),
  (.ev (.eaddr 4 (.sym 32) (.sym 30))),
  (.ev (.padd 3 (.sym 33))),
  (.ev (.ld false 1 (.sym 29) (.sym 34))),
  (.ev (.bin .eql .int (.sym 35) (.const (.v (.int .i64 2))))),
  (.ev (.guard (.sym 36) true (.padd 2 (.sym 3)))),
  (.ev (.guard (.sym 36) true (.padd 5 (.sym 37)))),
  (.ev (.guard (.sym 36) true (.ld false 1 (.sym 29) (.sym 38)))),
  (.ev (.guard (.sym 36) true (.un .not (.sym 39)))),
  (.ev (.guard (.sym 36) true (.guard (.sym 40) false (.ld false 1 (.sym 29) (.fstid (.sym 20)))))),
  (.ev (.guard (.sym 36) true (.guard (.sym 40) false (.ld false 1 (.sym 29) (.fstid (.sym 5)))))),
  (.ev (.guard (.sym 36) true (.guard (.sym 40) false (.bin .eql .int (.sym 41) (.sym 42))))),
  (.ev (.guard (.sym 36) true (.ite (.sym 40) (.const (.v (.bool true))) (.sym 43)))),
  (.ev (.ite (.sym 36) (.sym 44) (.const (.v (.bool false)))))]
  (.ite (.sym 45) (wrapBinds [(.ev (.sto 1 (.sym 29) (.fstid (.sym 2)) (.sym 30)))]
  (.ret (.sym 46))) (wrapBinds [(.ev (.ld true 14 (.sym 29) (.sym 3))),
  (.ev (.ld true 3 (.sym 29) (.sym 4))),
  (.call [] 119 (.sym 29) [(.sym 46), (.sym 47), (.sym 30)] [true, true]),
  (.ev (.bin .eql .int (.tget 0 (.sym 48)) (.const (.v (.int .i64 1)))))]
  (.join 7 1 (.ite (.sym 49) (wrapBinds [(.ev (.ld false 1 (.sym 29) (.fstid (.sym 23)))),
  (.ev (.bin .add .int (.sym 50) (.tget 1 (.sym 48)))),
  (.ev (.sto 1 (.sym 29) (.fstid (.sym 23)) (.sym 51))),
  (.ev (.padd 2 (.sym 3))),
  (.ev (.padd 2 (.sym 53))),
  (.ev (.ld false 1 (.sym 52) (.sym 54))),
  (.ev (.bin .gtr .int (.tget 1 (.sym 48)) (.sym 55))),
  (.ev (.guard (.sym 56) false (.ld false 1 (.sym 52) (.fstid (.sym 23))))),
  (.ev (.guard (.sym 56) false (.padd 2 (.sym 3)))),
  (.ev (.guard (.sym 56) false (.padd 3 (.sym 58)))),
  (.ev (.guard (.sym 56) false (.ld false 1 (.sym 52) (.sym 59)))),
  (.ev (.guard (.sym 56) false (.bin .gtr .int (.sym 57) (.sym 60)))),
  (.ev (.ite (.sym 56) (.const (.v (.bool true))) (.sym 61)))]
  (.ite (.sym 62) (wrapBinds [(.ev (.sto 1 (.sym 52) (.fstid (.sym 2)) (.sym 30)))]
  (.ret (.sym 63))) (.jump 7 [(.sym 52)]))) (.jump 7 [(.sym 29)])) (.jump 6 [(.tget 0 (.sym 48)), (.tget 1 (.sym 48)), (.sym 31), (.sym 32), (.sym 33), (.sym 34), (.sym 35), (.sym 36), (.sym 36), (.sym 45), (.tcons (.tget 0 (.sym 48)) (.tcons (.tget 1 (.sym 48)) .tnil)), (.sym 46), (.sym 47), (.tcons (.tget 0 (.sym 48)) (.tcons (.tget 1 (.sym 48)) .tnil)), (.tget 0 (.sym 48)), (.tget 1 (.sym 48)), (.tget 0 (.sym 48)), (.sym 49), (.sym 50)]))))) (.jump 4 [(.sym 49)])) (.jump 3 [(.sym 29)]) (.ret (.tcons (.ld false 1 (.sym 29) (.fstid (.sym 2))) (.tcons (.sym 29) .tnil)))) (.jump 2 [(.fstid (.sym 23)), (.sym 26), (.sym 27), (.sym 28), (.sym 29)]))) (wrapBinds [(.ev (.bin .add .int (.sym 19) (.const (.v (.int .i64 1)))))]
  (.jump 1 [(.sym 27), (.sym 26)]))) (.jump 0 [(.sym 19), (.sym 21), (.sym 20)])))) (wrapBinds [(.ev (.sto 1 (.sym 21) (.fstid (.sym 2)) (.const (.v (.int .i64 (-1))))))]
  (.ret (.tcons (.ld false 1 (.sym 22) (.fstid (.sym 2))) (.tcons (.sym 22) .tnil))))))
noncomputable def e89 : Entry := { f := 89, kn := .plain, cf := (scf false [] [] Tryz.f89), own := true, ones := [false, false], t := t89 }
theorem ok89 : EntOk Tryz.prog e89 := EntOk.ofPlain Tryz.func89 (by kernel_rfl) (by kernel_rfl)

noncomputable def t29 : T := (wrapBinds [(.ev (.mkptr (.aggN 14 (.sym 0)))),
  (.ev (.ld true 14 (.sym 2) (.sym 3))),
  (.call [] 53 (.sym 2) [(.sym 4), (.sym 1)] [true, true]),
  (.ev (.newb 90 1 (.sym 2) (.const (.agg [(.v (.pointer none))])))),
  (.ev (.sto 1 (.sym 6) (.fstid (.sym 2)) (.tget 0 (.sym 5)))),
  (.ev (.un .not (.tget 1 (.sym 5))))]
  (.ite (.sym 8) (.ret (.tcons (.tcons (.const (.lst [])) (.tcons (.const (.v (.int .i64 2))) .tnil)) (.tcons (.sym 7) .tnil))) (wrapBinds [(.ev (.lenL (.sym 1))),
  (.ev (.rep 8 (.sym 9) (.v (.int .i64 0)))),
  (.ev (.lenL (.sym 1))),
  (.ev (.rep 8 (.sym 11) (.v (.int .i64 0)))),
  (.ev (.lenL (.sym 1))),
  (.ev (.rep 24 (.sym 13) .snil)),
  (.ev (.lenL (.sym 1)))]
  (.join 0 5 (.loop 1 [(.const .snil), (.const (.lst [])), (.const (.v (.int .i64 0))), (.newb 1000000000 1 (.newb 1000000000 1 (.newb 1000000000 1 (.newv 1000000000 1 (.newv 1000000000 1 (.newv 1000000000 1 (.sym 7) (.sym 10)) (.sym 12)) (.sym 14)) (.cons (.fstsl (.sym 7) (.sym 10)) .nil)) (.cons (.fstsl (.newv 1000000000 1 (.sym 7) (.sym 10)) (.sym 12)) .nil)) (.cons (.fstsl (.newv 1000000000 1 (.newv 1000000000 1 (.sym 7) (.sym 10)) (.sym 12)) (.sym 14)) .nil))] (wrapBinds [(.ev (.bin .lss .int (.sym 18) (.sym 15)))]
  (.ite (.sym 20) (.join 2 14 (wrapBinds [(.ev (.ld false 1 (.sym 19) (.fstid (.newv 1000000000 1 (.newv 1000000000 1 (.newv 1000000000 1 (.sym 7) (.sym 10)) (.sym 12)) (.sym 14))))),
  (.ev (.ld false 1 (.sym 19) (.fstid (.sym 2)))),
  (.call [] 57 (.sym 19) [(.sym 22), (.sym 18)] [true]),
  (.ev (.eaddr 1 (.sym 21) (.sym 18))),
  (.ev (.sto 1 (.sym 19) (.sym 24) (.sym 23))),
  (.ev (.ld false 1 (.sym 25) (.fstid (.sym 2)))),
  (.ev (.nn (.sym 26))),
  (.ev (.padd 15 (.sym 27))),
  (.ev (.ld false 1 (.sym 25) (.sym 28))),
  (.ev (.eaddr 1 (.sym 29) (.sym 18))),
  (.ev (.ld false 1 (.sym 25) (.sym 30))),
  (.ev (.bin .geq .int (.sym 31) (.const (.v (.int .i64 0)))))]
  (.ite (.sym 32) (wrapBinds [(.ev (.lcons (.scal (.sym 18)) (.const (.lst [])))),
  (.ev (.app 1 8 (.sym 17) (.sym 33)))]
  (.jump 2 [(.sym 16), (.sym 34), (.sym 21), (.sym 22), (.sym 23), (.sym 24), (.sym 26), (.sym 27), (.sym 28), (.sym 29), (.sym 30), (.sym 31), (.sym 32), (.sym 25)])) (wrapBinds [(.ev (.lcons (.scal (.sym 18)) (.const (.lst [])))),
  (.ev (.apph 3 1 8 (.sym 25) (.sym 16) (.sym 33))),
  (.ev (.padd 0 (.sym 3))),
  (.ev (.ld false 1 (.sym 34) (.sym 35))),
  (.ev (.lenL (.sym 36)))]
  (.join 3 3 (.loop 4 [(.const (.v (.int .i64 0))), (.sym 34)] (wrapBinds [(.ev (.bin .lss .int (.sym 38) (.sym 37)))]
  (.ite (.sym 40) (.join 5 4 (wrapBinds [(.ev (.ld false 1 (.sym 39) (.fstid (.sym 2)))),
  (.call [] 54 (.sym 39) [(.sym 41), (.sym 38)] [true]),
  (.ev (.un .not (.sym 42)))]
  (.ite (.sym 43) (.jump 5 [(.sym 41), (.sym 42), (.sym 43), (.sym 39)]) (wrapBinds [(.ev (.ld false 1 (.sym 39) (.fstid (.newb 1000000000 1 (.newb 1000000000 1 (.newv 1000000000 1 (.newv 1000000000 1 (.newv 1000000000 1 (.sym 7) (.sym 10)) (.sym 12)) (.sym 14)) (.cons (.fstsl (.sym 7) (.sym 10)) .nil)) (.cons (.fstsl (.newv 1000000000 1 (.sym 7) (.sym 10)) (.sym 12)) .nil))))),
  (.ev (.ld false 1 (.sym 39) (.fstid (.newb 1000000000 1 (.newb 1000000000 1 (.newv 1000000000 1 (.newv 1000000000 1 (.newv 1000000000 1 (.sym 7) (.sym 10)) (.sym 12)) (.sym 14)) (.cons (.fstsl (.sym 7) (.sym 10)) .nil)) (.cons (.fstsl (.newv 1000000000 1 (.sym 7) (.sym 10)) (.sym 12)) .nil))))),
  (.ev (.eaddr 1 (.sym 45) (.sym 18))),
  (.ev (.ld false 1 (.sym 39) (.sym 46))),
  (.ev (.ld false 1 (.sym 39) (.fstid (.sym 2)))),
  (.call [] 56 (.sym 39) [(.sym 48), (.sym 18), (.sym 38)] [true]),
  (.ev (.lcons (.scal (.sym 49)) (.const (.lst [])))),
  (.ev (.apph 3 1 8 (.sym 39) (.sym 47) (.sym 50))),
  (.ev (.eaddr 1 (.sym 44) (.sym 18))),
  (.ev (.sto 1 (.sym 51) (.sym 52) (.apps (.sym 39) (.sym 47) (.sym 50)))),
  (.ev (.m4 .same (.ld false 1 (.sym 39) (.fstid (.newb 1000000000 1 (.newb 1000000000 1 (.newv 1000000000 1 (.newv 1000000000 1 (.newv 1000000000 1 (.sym 7) (.sym 10)) (.sym 12)) (.sym 14)) (.cons (.fstsl (.sym 7) (.sym 10)) .nil)) (.cons (.fstsl (.newv 1000000000 1 (.sym 7) (.sym 10)) (.sym 12)) .nil)))) (.ld false 1 (.sym 51) (.fstid (.newb 1000000000 1 (.newb 1000000000 1 (.newv 1000000000 1 (.newv 1000000000 1 (.newv 1000000000 1 (.sym 7) (.sym 10)) (.sym 12)) (.sym 14)) (.cons (.fstsl (.sym 7) (.sym 10)) .nil)) (.cons (.fstsl (.newv 1000000000 1 (.sym 7) (.sym 10)) (.sym 12)) .nil)))) .nil .nil)),
  (.ev (.ld false 1 (.sym 53) (.fstid (.sym 2)))),
  (.wcall [] 64 (.sym 53) [(.sym 55), (.sym 38), (.const (.v (.int .i64 (-1))))] [true]),
  (.call [] 65 (.tget 1 (.sym 56)) [(.tget 0 (.sym 56)), (.sym 18)] [true]),
  (.ev (.guard (.sym 57) true (.ld false 1 (.tget 1 (.sym 56)) (.fstid (.sym 2))))),
  (.call [((.sym 57), true)] 66 (.tget 1 (.sym 56)) [(.sym 58), (.sym 18), (.sym 38)] [true]),
  (.ev (.guard (.sym 57) true (.ld false 1 (.tget 1 (.sym 56)) (.fstid (.sym 2))))),
  (.ev (.guard (.sym 57) true (.tget 0 (.sym 56)))),
  (.wcall [((.sym 57), true)] 67 (.tget 1 (.sym 56)) [(.sym 60), (.sym 61), (.sym 38)] [true]),
  (.ev (.guard (.sym 57) true (.eaddr 1 (.tget 0 (.sym 62)) (.const (.v (.int .i64 0)))))),
  (.ev (.guard (.sym 57) true (.ld false 1 (.tget 1 (.sym 62)) (.sym 63)))),
  (.ev (.guard (.sym 57) true (.bin .eql .int (.sym 59) (.sym 64)))),
  (.ev (.ite (.sym 57) (.sym 65) (.const (.v (.bool false)))))]
  (.join 6 1 (.ite (.sym 66) (wrapBinds [(.ev (.ld false 1 (.tget 1 (.sym 62)) (.fstid (.newb 1000000000 1 (.newv 1000000000 1 (.newv 1000000000 1 (.newv 1000000000 1 (.sym 7) (.sym 10)) (.sym 12)) (.sym 14)) (.cons (.fstsl (.sym 7) (.sym 10)) .nil))))),
  (.ev (.eaddr 1 (.sym 67) (.sym 18))),
  (.ev (.ld false 1 (.tget 1 (.sym 62)) (.sym 68))),
  (.ev (.bin .add .int (.sym 69) (.const (.v (.int .i64 1))))),
  (.ev (.eaddr 1 (.sym 67) (.sym 18))),
  (.ev (.sto 1 (.tget 1 (.sym 62)) (.sym 71) (.sym 70)))]
  (.jump 6 [(.sym 72)])) (.jump 6 [(.tget 1 (.sym 62))])) (.jump 5 [(.sym 41), (.sym 42), (.sym 43), (.sym 67)]))))) (wrapBinds [(.ev (.bin .add .int (.sym 38) (.const (.v (.int .i64 1)))))]
  (.jump 4 [(.sym 45), (.sym 44)]))) (.jump 3 [(.sym 38), (.sym 40), (.sym 39)])))) (.jump 2 [(.apps (.sym 25) (.sym 16) (.sym 33)), (.sym 17), (.sym 21), (.sym 22), (.sym 23), (.sym 24), (.sym 26), (.sym 27), (.sym 28), (.sym 29), (.sym 30), (.sym 31), (.sym 32), (.sym 40)]))))) (wrapBinds [(.ev (.bin .add .int (.sym 18) (.const (.v (.int .i64 1)))))]
  (.jump 1 [(.sym 21), (.sym 22), (.sym 35), (.sym 34)]))) (.jump 0 [(.sym 16), (.sym 17), (.sym 18), (.sym 20), (.sym 19)])))) (wrapBinds [(.ev (.mkfn 70 .tnil (.tcons (.fstid (.newv 1000000000 1 (.newv 1000000000 1 (.newv 1000000000 1 (.sym 7) (.sym 10)) (.sym 12)) (.sym 14))) .tnil))),
  (.ev (.mkfn 72 .tnil (.tcons (.fstid (.newb 1000000000 1 (.newv 1000000000 1 (.newv 1000000000 1 (.newv 1000000000 1 (.sym 7) (.sym 10)) (.sym 12)) (.sym 14)) (.cons (.fstsl (.sym 7) (.sym 10)) .nil))) .tnil))),
  (.ev (.mkfn 73 .tnil (.tcons (.fstid (.newb 1000000000 1 (.newb 1000000000 1 (.newv 1000000000 1 (.newv 1000000000 1 (.newv 1000000000 1 (.sym 7) (.sym 10)) (.sym 12)) (.sym 14)) (.cons (.fstsl (.sym 7) (.sym 10)) .nil)) (.cons (.fstsl (.newv 1000000000 1 (.sym 7) (.sym 10)) (.sym 12)) .nil))) .tnil))),
  (.ev (.lcons (.scal (.sym 21)) (.lcons (.scal (.sym 22)) (.lcons (.scal (.sym 23)) (.lcons (.scal (.const (.fn 75 [] []))) (.const (.lst []))))))),
  (.call [] 69 (.sym 20) [(.sym 24)] [true]),
  (.wcall [] 68 (.sym 20) [(.sym 16), (.sym 25)] []),
  (.ev (.lenL (.sym 1))),
  (.ev (.rep 8 (.sym 27) (.v (.int .i64 0)))),
  (.ev (.padd 2 (.sym 3))),
  (.ev (.padd 9 (.sym 29))),
  (.ev (.ld false 1 (.tget 1 (.sym 26)) (.sym 30))),
  (.ev (.bin .geq .int (.sym 31) (.const (.v (.int .i64 0)))))]
  (.join 0 2 (.ite (.sym 32) (wrapBinds [(.ev (.ld false 1 (.tget 1 (.sym 26)) (.fstid (.sym 2)))),
  (.ev (.padd 2 (.sym 3))),
  (.ev (.padd 9 (.sym 34))),
  (.ev (.ld false 1 (.tget 1 (.sym 26)) (.sym 35))),
  (.wcall [] 64 (.tget 1 (.sym 26)) [(.sym 33), (.sym 36), (.const (.v (.int .i64 (-1))))] [true]),
  (.ev (.mkfn 77 .tnil (.tcons (.fstid (.sym 2)) (.tcons (.sym 3) .tnil)))),
  (.wcall [] 76 (.tget 1 (.sym 37)) [(.tget 0 (.sym 37)), (.sym 38)] []),
  (.ev (.lenL (.tget 0 (.sym 37))))]
  (.join 1 3 (.loop 2 [(.const (.v (.int .i64 0))), (.sym 28)] (wrapBinds [(.ev (.bin .lss .int (.sym 41) (.sym 40)))]
  (.ite (.sym 43) (.join 3 9 (wrapBinds [(.ev (.eaddr 1 (.tget 0 (.sym 37)) (.sym 41))),
  (.ev (.ld false 1 (.tget 1 (.sym 39)) (.sym 44))),
  (.ev (.padd 2 (.sym 3))),
  (.ev (.padd 11 (.sym 46))),
  (.ev (.ld false 1 (.tget 1 (.sym 39)) (.sym 47))),
  (.call [] 78 (.tget 1 (.sym 39)) [(.sym 48), (.sym 41)] [true]),
  (.ev (.idx (.sym 42) (.sym 45))),
  (.ev (.set (.sym 42) (.sym 45) 0 (.sym 49)))]
  (.jump 3 [(.sym 45), (.sym 44), (.sym 45), (.sym 45), (.sym 46), (.sym 47), (.sym 48), (.sym 49), (.sym 51)])) (wrapBinds [(.ev (.bin .add .int (.sym 41) (.const (.v (.int .i64 1)))))]
  (.jump 2 [(.sym 53), (.sym 52)]))) (.jump 1 [(.sym 41), (.sym 43), (.sym 42)])))) (.jump 0 [(.sym 43), (.tget 1 (.sym 39))]))) (.jump 0 [(.sym 28), (.tget 1 (.sym 26))])) (wrapBinds [(.ev (.padd 1 (.sym 3))),
  (.ev (.ld false 1 (.sym 34) (.sym 35))),
  (.ev (.rep 8 (.sym 36) (.v (.int .i64 0)))),
  (.ev (.lenL (.sym 16)))]
  (.join 0 4 (.loop 1 [(.const (.lst [])), (.const (.v (.int .i64 0))), (.sym 37)] (wrapBinds [(.ev (.bin .lss .int (.sym 40) (.sym 38)))]
  (.ite (.sym 42) (.join 2 31 (wrapBinds [(.ev (.eaddr 1 (.sym 16) (.sym 40))),
  (.ev (.ld false 1 (.sym 34) (.sym 43))),
  (.ev (.eaddr 3 (.sym 1) (.sym 44))),
  (.ev (.padd 0 (.sym 45))),
  (.ev (.ld false 1 (.sym 34) (.sym 46))),
  (.ev (.idx (.sym 41) (.sym 47))),
  (.ev (.cell 0 (.idx (.sym 41) (.sym 47)))),
  (.ev (.bin .add .int (.sym 49) (.const (.v (.int .i64 1))))),
  (.ev (.idx (.sym 41) (.sym 47))),
  (.ev (.set (.sym 41) (.sym 47) 0 (.sym 50))),
  (.ev (.ld false 1 (.sym 34) (.fstid (.newv 1000000000 1 (.newv 1000000000 1 (.newv 1000000000 1 (.sym 7) (.sym 10)) (.sym 12)) (.sym 14))))),
  (.ev (.eaddr 1 (.sym 53) (.sym 44))),
  (.ev (.ld false 1 (.sym 34) (.sym 54))),
  (.ev (.bin .add .int (.sym 40) (.const (.v (.int .i64 1))))),
  (.ev (.idx (.sym 52) (.sym 47))),
  (.ev (.cell 0 (.idx (.sym 52) (.sym 47)))),
  (.ev (.padd 2 (.sym 3))),
  (.ev (.padd 10 (.sym 59))),
  (.ev (.ld false 1 (.sym 34) (.sym 60))),
  (.call [] 78 (.sym 34) [(.sym 61), (.sym 40)] [true]),
  (.ev (.idx (.sym 33) (.sym 44))),
  (.ev (.cell 0 (.idx (.sym 33) (.sym 44)))),
  (.ev (.bin .add .int (.sym 62) (.sym 64))),
  (.ev (.cons (.scal (.sym 44)) (.cons (.scal (.const (.v (.bool true)))) (.cons (.scal (.const (.v (.int .i64 (-1))))) (.cons (.scal (.sym 55)) (.cons (.scal (.sym 56)) (.cons (.scal (.sym 58)) (.cons (.scal (.sym 65)) .nil)))))))),
  (.ev (.lcons (.aggN 7 (.sym 66)) (.const (.lst [])))),
  (.ev (.app 7 56 (.sym 39) (.sym 67)))]
  (.jump 2 [(.sym 68), (.sym 44), (.sym 47), (.sym 43), (.sym 44), (.sym 44), (.sym 45), (.sym 46), (.sym 47), (.sym 47), (.sym 49), (.sym 50), (.sym 44), (.sym 53), (.sym 44), (.sym 54), (.sym 55), (.sym 56), (.sym 47), (.sym 58), (.sym 59), (.sym 60), (.sym 61), (.sym 62), (.sym 44), (.sym 64), (.sym 65), (.sym 66), (.sym 67), (.sym 68), (.sym 52)])) (wrapBinds [(.ev (.bin .add .int (.sym 40) (.const (.v (.int .i64 1)))))]
  (.jump 1 [(.sym 43), (.sym 74), (.sym 73)]))) (.jump 0 [(.sym 39), (.sym 40), (.sym 42), (.sym 41)])))) (wrapBinds [(.ev (.lenL (.sym 17)))]
  (.join 0 3 (.loop 1 [(.sym 39), (.const (.v (.int .i64 0)))] (wrapBinds [(.ev (.bin .lss .int (.sym 45) (.sym 43)))]
  (.ite (.sym 46) (.join 2 19 (wrapBinds [(.ev (.eaddr 1 (.sym 17) (.sym 45))),
  (.ev (.ld false 1 (.sym 34) (.sym 47))),
  (.ev (.ld false 1 (.sym 34) (.fstid (.sym 2)))),
  (.ev (.nn (.sym 49))),
  (.ev (.padd 15 (.sym 50))),
  (.ev (.ld false 1 (.sym 34) (.sym 51))),
  (.ev (.eaddr 1 (.sym 52) (.sym 48))),
  (.ev (.ld false 1 (.sym 34) (.sym 53))),
  (.ev (.ld false 1 (.sym 34) (.fstid (.newv 1000000000 1 (.newv 1000000000 1 (.newv 1000000000 1 (.sym 7) (.sym 10)) (.sym 12)) (.sym 14))))),
  (.ev (.eaddr 1 (.sym 55) (.sym 48))),
  (.ev (.ld false 1 (.sym 34) (.sym 56))),
  (.ev (.cons (.scal (.sym 48)) (.cons (.const (.agg [(.v (.bool false))])) (.cons (.scal (.sym 54)) (.cons (.scal (.sym 57)) (.cons (.const (.agg [(.v (.int .i64 0))])) (.cons (.const (.agg [(.v (.int .i64 0))])) (.cons (.const (.agg [(.v (.int .i64 0))])) .nil)))))))),
  (.ev (.lcons (.aggN 7 (.sym 58)) (.const (.lst [])))),
  (.ev (.app 7 56 (.sym 44) (.sym 59)))]
  (.jump 2 [(.sym 60), (.sym 48), (.sym 47), (.sym 48), (.sym 48), (.sym 49), (.sym 50), (.sym 51), (.sym 52), (.sym 48), (.sym 53), (.sym 54), (.sym 55), (.sym 48), (.sym 56), (.sym 57), (.sym 58), (.sym 59), (.sym 60)])) (wrapBinds [(.ev (.bin .add .int (.sym 45) (.const (.v (.int .i64 1)))))]
  (.jump 1 [(.sym 47), (.sym 66)]))) (.jump 0 [(.sym 44), (.sym 45), (.sym 46)])))) (.ret (.tcons (.tcons (.sym 44) (.tcons (.const (.v (.int .i64 0))) .tnil)) (.tcons (.sym 34) .tnil)))))))))))))
noncomputable def e29 : Entry := { f := 29, kn := .plain, cf := (scg [64, 67] [6, 8] true [(7,1000037),(7,1000040),(7,1000043),(7,1000010),(7,1000011),(7,1000012)] Tryz.f29), own := true, ones := [false, true], t := t29 }
theorem ok29 : EntOk Tryz.prog e29 := EntOk.ofPlain Tryz.func29 (by kernel_rfl) (by kernel_rfl)

noncomputable def t31 : T := (wrapBinds [(.ev (.lenL (.sym 0))),
  (.ev (.bin .gtr .int (.sym 3) (.const (.v (.int .i64 500))))),
  (.ev (.guard (.sym 4) false (.bin .lss .int (.sym 1) (.const (.v (.int .i64 0)))))),
  (.ev (.ite (.sym 4) (.const (.v (.bool true))) (.sym 5)))]
  (.ite (.sym 6) (.ret (.tcons (.tcons (.const (.lst [])) (.tcons (.const (.lst [])) (.tcons (.const (.v (.int .i64 2))) .tnil))) (.tcons (.sym 2) .tnil))) (wrapBinds [(.ev (.lenL (.sym 0)))]
  (.join 0 2 (.loop 1 [(.const (.v (.int .i64 0)))] (wrapBinds [(.ev (.bin .lss .int (.sym 8) (.sym 7)))]
  (.ite (.sym 9) (.join 2 13 (wrapBinds [(.ev (.eaddr 1 (.sym 0) (.sym 8))),
  (.ev (.ld false 1 (.sym 2) (.sym 10))),
  (.ev (.lenL (.sym 11))),
  (.ev (.eaddr 1 (.sym 0) (.const (.v (.int .i64 0))))),
  (.ev (.ld false 1 (.sym 2) (.sym 13))),
  (.ev (.lenL (.sym 14))),
  (.ev (.bin .neq .int (.sym 12) (.sym 15))),
  (.ev (.guard (.sym 16) false (.lenL (.sym 11)))),
  (.ev (.guard (.sym 16) false (.bin .geq .int (.sym 1) (.sym 17)))),
  (.ev (.ite (.sym 16) (.const (.v (.bool true))) (.sym 18))),
  (.call [((.sym 19), false)] 47 (.sym 2) [(.sym 11), (.const (.v (.int .i64 1))), (.const (.v (.int .i64 40))), (.const (.v (.int .i64 100000)))] [true]),
  (.ev (.guard (.sym 19) false (.un .not (.sym 20)))),
  (.ev (.ite (.sym 19) (.const (.v (.bool true))) (.sym 21)))]
  (.ite (.sym 22) (.ret (.tcons (.tcons (.const (.lst [])) (.tcons (.const (.lst [])) (.tcons (.const (.v (.int .i64 2))) .tnil))) (.tcons (.sym 2) .tnil))) (.jump 2 [(.sym 11), (.sym 10), (.sym 11), (.sym 11), (.sym 12), (.sym 13), (.sym 14), (.sym 15), (.sym 16), (.sym 16), (.sym 19), (.sym 19), (.sym 22)]))) (wrapBinds [(.ev (.bin .add .int (.sym 8) (.const (.v (.int .i64 1)))))]
  (.jump 1 [(.sym 23)]))) (.jump 0 [(.sym 8), (.sym 9)])))) (wrapBinds [(.ev (.lenL (.sym 0))),
  (.ev (.rep 8 (.sym 10) (.v (.int .i64 0)))),
  (.ev (.lenL (.sym 0))),
  (.ev (.rep 24 (.sym 12) (.lst []))),
  (.ev (.lenL (.sym 0)))]
  (.join 0 4 (.loop 1 [(.const .snil), (.const (.v (.int .i64 0))), (.newb 1000000000 1 (.newb 1000000000 1 (.newv 1000000000 1 (.newv 1000000000 1 (.sym 2) (.sym 11)) (.sym 13)) (.cons (.fstsl (.sym 2) (.sym 11)) .nil)) (.cons (.fstsl (.newv 1000000000 1 (.sym 2) (.sym 11)) (.sym 13)) .nil))] (wrapBinds [(.ev (.bin .lss .int (.sym 16) (.sym 14)))]
  (.ite (.sym 18) (.join 2 24 (wrapBinds [(.ev (.eaddr 1 (.sym 0) (.sym 16))),
  (.ev (.ld false 1 (.sym 17) (.sym 19))),
  (.ev (.lcons (.scal (.sym 16)) (.const (.lst [])))),
  (.ev (.apph 3 1 8 (.sym 17) (.sym 15) (.sym 21))),
  (.ev (.ld false 1 (.sym 22) (.fstid (.newb 1000000000 1 (.newv 1000000000 1 (.newv 1000000000 1 (.sym 2) (.sym 11)) (.sym 13)) (.cons (.fstsl (.sym 2) (.sym 11)) .nil))))),
  (.wcall [] 82 (.sym 22) [(.sym 20)] [true]),
  (.ev (.eaddr 1 (.sym 23) (.sym 16))),
  (.ev (.sto 1 (.tget 1 (.sym 24)) (.sym 25) (.tget 0 (.sym 24)))),
  (.ev (.m4 .same (.ld false 1 (.sym 22) (.fstid (.newb 1000000000 1 (.newv 1000000000 1 (.newv 1000000000 1 (.sym 2) (.sym 11)) (.sym 13)) (.cons (.fstsl (.sym 2) (.sym 11)) .nil)))) (.ld false 1 (.tget 1 (.sym 24)) (.fstid (.newb 1000000000 1 (.newv 1000000000 1 (.newv 1000000000 1 (.sym 2) (.sym 11)) (.sym 13)) (.cons (.fstsl (.sym 2) (.sym 11)) .nil)))) .nil .nil)),
  (.ev (.ld false 1 (.sym 26) (.fstid (.newb 1000000000 1 (.newv 1000000000 1 (.newv 1000000000 1 (.sym 2) (.sym 11)) (.sym 13)) (.cons (.fstsl (.sym 2) (.sym 11)) .nil))))),
  (.ev (.eaddr 1 (.sym 28) (.sym 16))),
  (.ev (.ld false 1 (.sym 26) (.sym 29))),
  (.wcall [] 68 (.sym 26) [(.sym 30), (.const (.fn 83 [] []))] []),
  (.ev (.ld false 1 (.tget 1 (.sym 31)) (.fstid (.newb 1000000000 1 (.newv 1000000000 1 (.newv 1000000000 1 (.sym 2) (.sym 11)) (.sym 13)) (.cons (.fstsl (.sym 2) (.sym 11)) .nil))))),
  (.ev (.eaddr 1 (.sym 32) (.sym 16))),
  (.ev (.ld false 1 (.tget 1 (.sym 31)) (.sym 33))),
  (.ev (.lenL (.sym 20))),
  (.ev (.bin .sub .int (.sym 35) (.sym 1))),
  (.ev (.sub 1 (.sym 34) (.const (.v (.int .i64 0))) (.sym 36))),
  (.ev (.lenL (.sym 37)))]
  (.join 3 3 (.loop 4 [(.const (.v (.int .i64 0))), (.tget 1 (.sym 31))] (wrapBinds [(.ev (.bin .lss .int (.sym 39) (.sym 38)))]
  (.ite (.sym 41) (.join 5 10 (wrapBinds [(.ev (.eaddr 1 (.sym 37) (.sym 39))),
  (.ev (.ld false 1 (.sym 40) (.sym 42))),
  (.ev (.ld false 1 (.sym 40) (.fstid (.newv 1000000000 1 (.newv 1000000000 1 (.sym 2) (.sym 11)) (.sym 13))))),
  (.ev (.eaddr 1 (.sym 44) (.sym 16))),
  (.ev (.ld false 1 (.sym 40) (.sym 45))),
  (.ev (.bin .add .int (.sym 46) (.sym 43))),
  (.ev (.eaddr 1 (.sym 44) (.sym 16))),
  (.ev (.sto 1 (.sym 40) (.sym 48) (.sym 47)))]
  (.jump 5 [(.sym 43), (.sym 42), (.sym 43), (.sym 44), (.sym 45), (.sym 46), (.sym 43), (.sym 47), (.sym 48), (.sym 49)])) (wrapBinds [(.ev (.bin .add .int (.sym 39) (.const (.v (.int .i64 1)))))]
  (.jump 4 [(.sym 52), (.sym 51)]))) (.jump 3 [(.sym 39), (.sym 41), (.sym 40)])))) (.jump 2 [(.apps (.sym 17) (.sym 15) (.sym 21)), (.sym 20), (.sym 19), (.sym 20), (.sym 21), (.apps (.sym 17) (.sym 15) (.sym 21)), (.sym 23), (.sym 20), (.tget 0 (.sym 24)), (.sym 25), (.sym 28), (.sym 29), (.sym 30), (.sym 32), (.sym 33), (.sym 34), (.sym 20), (.sym 35), (.sym 36), (.sym 37), (.sym 38), (.sym 39), (.sym 40), (.sym 41)]))) (wrapBinds [(.ev (.bin .add .int (.sym 16) (.const (.v (.int .i64 1)))))]
  (.jump 1 [(.sym 19), (.sym 43), (.sym 42)]))) (.jump 0 [(.sym 15), (.sym 16), (.sym 18), (.sym 17)])))) (wrapBinds [(.ev (.mkfn 84 .tnil (.tcons (.fstid (.newv 1000000000 1 (.newv 1000000000 1 (.sym 2) (.sym 11)) (.sym 13))) (.tcons (.fstid (.newb 1000000000 1 (.newv 1000000000 1 (.newv 1000000000 1 (.sym 2) (.sym 11)) (.sym 13)) (.cons (.fstsl (.sym 2) (.sym 11)) .nil))) .tnil)))),
  (.wcall [] 76 (.sym 18) [(.sym 15), (.sym 19)] []),
  (.ev (.lenL (.sym 15)))]
  (.join 0 3 (.loop 1 [(.const (.lst [])), (.const (.v (.int .i64 0)))] (wrapBinds [(.ev (.bin .lss .int (.sym 23) (.sym 21)))]
  (.ite (.sym 24) (.join 2 10 (wrapBinds [(.ev (.eaddr 1 (.sym 15) (.sym 23))),
  (.ev (.ld false 1 (.tget 1 (.sym 20)) (.sym 25))),
  (.ev (.ld false 1 (.tget 1 (.sym 20)) (.fstid (.newv 1000000000 1 (.newv 1000000000 1 (.sym 2) (.sym 11)) (.sym 13))))),
  (.ev (.eaddr 1 (.sym 27) (.sym 26))),
  (.ev (.ld false 1 (.tget 1 (.sym 20)) (.sym 28))),
  (.ev (.lcons (.scal (.sym 29)) (.const (.lst [])))),
  (.ev (.app 1 8 (.sym 22) (.sym 30)))]
  (.jump 2 [(.sym 31), (.sym 26), (.sym 25), (.sym 26), (.sym 27), (.sym 26), (.sym 28), (.sym 29), (.sym 30), (.sym 31)])) (wrapBinds [(.ev (.bin .add .int (.sym 23) (.const (.v (.int .i64 1)))))]
  (.jump 1 [(.sym 25), (.sym 35)]))) (.jump 0 [(.sym 22), (.sym 23), (.sym 24)])))) (.ret (.tcons (.tcons (.sym 15) (.tcons (.sym 22) (.tcons (.const (.v (.int .i64 0))) .tnil))) (.tcons (.tget 1 (.sym 20)) .tnil)))))))))))
noncomputable def e31 : Entry := { f := 31, kn := .plain, cf := (scg [] [11] false [(10,1000053),(10,1000056),(10,1000009),(10,1000010)] Tryz.f31), own := true, ones := [true, true], t := t31 }
theorem ok31 : EntOk Tryz.prog e31 := EntOk.ofPlain Tryz.func31 (by kernel_rfl) (by kernel_rfl)

noncomputable def t139 : T := (wrapBinds [(.ev (.padd 0 (.sym 1))),
  (.ev (.ld false 1 (.sym 3) (.sym 4))),
  (.ev (.lenL (.sym 5)))]
  (.join 0 3 (.loop 1 [(.const (.v (.int .i64 0))), (.sym 3)] (wrapBinds [(.ev (.bin .lss .int (.sym 7) (.sym 6)))]
  (.ite (.sym 9) (.join 2 12 (wrapBinds [(.ev (.eaddr 4 (.sym 5) (.sym 7))),
  (.ev (.ld true 4 (.sym 8) (.sym 10))),
  (.ev (.aggN 4 (.sym 11))),
  (.ev (.ld false 1 (.sym 8) (.sym 2))),
  (.ev (.bin .eql .int (.cell 1 (.sym 12)) (.sym 13))),
  (.wcallv [((.sym 14), true)] (.sym 0) (.sym 8) [(.sym 7)] [true]),
  (.ev (.guard (.sym 14) true (.un .not (.tget 0 (.sym 15))))),
  (.ev (.ite (.sym 14) (.sym 16) (.const (.v (.bool false)))))]
  (.ite (.sym 17) (.ret (.tcons .tnil (.tcons (.tget 1 (.sym 15)) .tnil))) (.jump 2 [(.sym 10), (.sym 11), (.cell 1 (.sym 12)), (.sym 13), (.sym 14), (.sym 14), (.sym 17), (.cell 0 (.sym 12)), (.cell 1 (.sym 12)), (.cell 2 (.sym 12)), (.cell 3 (.sym 12)), (.tget 1 (.sym 15))]))) (wrapBinds [(.ev (.bin .add .int (.sym 7) (.const (.v (.int .i64 1)))))]
  (.jump 1 [(.sym 22), (.sym 21)]))) (.jump 0 [(.sym 7), (.sym 9), (.sym 8)])))) (.ret (.tcons .tnil (.tcons (.sym 9) .tnil)))))
noncomputable def e139 : Entry := { f := 139, kn := .plain, cf := (scf false [1000021] [] Tryz.f139), own := false, ones := [true, true, true], t := t139 }
theorem ok139 : EntOk Tryz.prog e139 := EntOk.ofPlain Tryz.func139 (by kernel_rfl) (by kernel_rfl)

noncomputable def t82 : T := (.nilq (.sym 0) false (.ite (.sym 2) (.ret (.tcons (.const (.lst [])) (.tcons (.sym 1) .tnil))) (wrapBinds [(.ev (.const (.lst []))),
  (.ev (.app 1 8 (.sym 3) (.sym 0)))]
  (.ret (.tcons (.sym 4) (.tcons (.sym 1) .tnil))))))
noncomputable def e82 : Entry := { f := 82, kn := .plain, cf := (scf false [] [5] Tryz.f82), own := false, ones := [true], t := t82 }
theorem ok82 : EntOk Tryz.prog e82 := EntOk.ofPlain Tryz.func82 (by kernel_rfl) (by kernel_rfl)

noncomputable def t68 : T := (wrapBinds [(.ev (.lenL (.sym 0))),
  (.ev (.conv .u64 (.sym 3))),
  (.call [] 113 (.sym 2) [(.sym 4)] [true]),
  (.wcall [] 112 (.sym 2) [(.sym 0), (.const (.v (.int .i64 0))), (.sym 3), (.sym 5), (.sym 1)] [])]
  (.ret (.tcons .tnil (.tcons (.tget 1 (.sym 6)) .tnil))))
noncomputable def e68 : Entry := { f := 68, kn := .plain, cf := (scf false [] [] Tryz.f68), own := false, ones := [true, true], t := t68 }
theorem ok68 : EntOk Tryz.prog e68 := EntOk.ofPlain Tryz.func68 (by kernel_rfl) (by kernel_rfl)

noncomputable def t76 : T := (wrapBinds [(.ev (.lenL (.sym 0))),
  (.wcall [] 116 (.sym 2) [(.sym 0), (.sym 3), (.sym 1)] [])]
  (.ret (.tcons .tnil (.tcons (.tget 1 (.sym 4)) .tnil))))
noncomputable def e76 : Entry := { f := 76, kn := .plain, cf := (scf false [] [] Tryz.f76), own := false, ones := [true, true], t := t76 }
theorem ok76 : EntOk Tryz.prog e76 := EntOk.ofPlain Tryz.func76 (by kernel_rfl) (by kernel_rfl)

noncomputable def t96 : T := (wrapBinds [(.ev (.lenL (.sym 0))),
  (.ev (.conv .u64 (.sym 2))),
  (.call [] 113 (.sym 1) [(.sym 3)] [true]),
  (.wcall [] 125 (.sym 1) [(.sym 0), (.const (.v (.int .i64 0))), (.sym 2), (.sym 4)] [])]
  (.ret (.tcons .tnil (.tcons (.tget 1 (.sym 5)) .tnil))))
noncomputable def e96 : Entry := { f := 96, kn := .plain, cf := (scf false [] [] Tryz.f96), own := false, ones := [true], t := t96 }
theorem ok96 : EntOk Tryz.prog e96 := EntOk.ofPlain Tryz.func96 (by kernel_rfl) (by kernel_rfl)

noncomputable def t112 : T := (.loop 0 [(.sym 1), (.sym 2), (.sym 3), (.const (.v (.bool true))), (.const (.v (.bool true))), (.sym 5)] (.join 1 26 (wrapBinds [(.ev (.bin .sub .int (.sym 7) (.sym 6))),
  (.ev (.bin .leq .int (.sym 12) (.const (.v (.int .i64 12)))))]
  (.ite (.sym 13) (wrapBinds [(.wcall [] 128 (.sym 11) [(.sym 0), (.sym 6), (.sym 7), (.sym 4)] [])]
  (.ret (.tcons .tnil (.tcons (.tget 1 (.sym 14)) .tnil)))) (wrapBinds [(.ev (.bin .eql .int (.sym 8) (.const (.v (.int .i64 0)))))]
  (.ite (.sym 14) (wrapBinds [(.wcall [] 129 (.sym 11) [(.sym 0), (.sym 6), (.sym 7), (.sym 4)] [])]
  (.ret (.tcons .tnil (.tcons (.tget 1 (.sym 15)) .tnil)))) (wrapBinds [(.ev (.un .not (.sym 9)))]
  (.join 2 2 (.ite (.sym 15) (wrapBinds [(.wcall [] 130 (.sym 11) [(.sym 0), (.sym 6), (.sym 7), (.sym 4)] []),
  (.ev (.bin .sub .int (.sym 8) (.const (.v (.int .i64 1)))))]
  (.jump 2 [(.sym 17), (.tget 1 (.sym 16))])) (.jump 2 [(.sym 8), (.sym 11)])) (wrapBinds [(.wcall [] 131 (.sym 17) [(.sym 0), (.sym 6), (.sym 7), (.sym 4)] [true, true]),
  (.ev (.bin .eql .int (.tget 1 (.tget 0 (.sym 18))) (.const (.v (.int .i64 2)))))]
  (.join 2 3 (.ite (.sym 19) (wrapBinds [(.wcall [] 132 (.tget 1 (.sym 18)) [(.sym 0), (.sym 6), (.sym 7), (.sym 4)] []),
  (.ev (.bin .sub .int (.sym 7) (.const (.v (.int .i64 1))))),
  (.ev (.bin .sub .int (.tget 0 (.tget 0 (.sym 18))) (.sym 6))),
  (.ev (.bin .sub .int (.sym 21) (.sym 22)))]
  (.jump 2 [(.sym 23), (.const (.v (.int .i64 1))), (.tget 1 (.sym 20))])) (.jump 2 [(.tget 0 (.tget 0 (.sym 18))), (.tget 1 (.tget 0 (.sym 18))), (.tget 1 (.sym 18))])) (wrapBinds [(.ev (.ite (.sym 9) (.sym 10) (.const (.v (.bool false))))),
  (.ev (.guard (.sym 23) true (.bin .eql .int (.sym 21) (.const (.v (.int .i64 1)))))),
  (.ev (.ite (.sym 23) (.sym 24) (.const (.v (.bool false)))))]
  (.join 2 1 (.ite (.sym 25) (wrapBinds [(.wcall [] 133 (.sym 22) [(.sym 0), (.sym 6), (.sym 7), (.sym 4)] [true])]
  (.ite (.tget 0 (.sym 26)) (.ret (.tcons .tnil (.tcons (.tget 1 (.sym 26)) .tnil))) (.jump 2 [(.tget 1 (.sym 26))]))) (.jump 2 [(.sym 22)])) (wrapBinds [(.ev (.bin .gtr .int (.sym 6) (.const (.v (.int .i64 0))))),
  (.ev (.guard (.sym 27) true (.bin .sub .int (.sym 6) (.const (.v (.int .i64 1)))))),
  (.ev (.guard (.sym 27) true (.eaddr 1 (.sym 0) (.sym 28)))),
  (.ev (.guard (.sym 27) true (.ld false 1 (.sym 26) (.sym 29)))),
  (.ev (.guard (.sym 27) true (.eaddr 1 (.sym 0) (.sym 20)))),
  (.ev (.guard (.sym 27) true (.ld false 1 (.sym 26) (.sym 31)))),
  (.callv [((.sym 27), true)] (.sym 4) (.sym 26) [(.sym 30), (.sym 32)] [true]),
  (.ev (.guard (.sym 27) true (.bin .lss .int (.sym 33) (.const (.v (.int .i64 0)))))),
  (.ev (.guard (.sym 27) true (.un .not (.sym 34)))),
  (.ev (.ite (.sym 27) (.sym 35) (.const (.v (.bool false)))))]
  (.ite (.sym 36) (wrapBinds [(.wcall [] 134 (.sym 26) [(.sym 0), (.sym 6), (.sym 7), (.sym 20), (.sym 4)] [true])]
  (.jump 1 [(.tget 0 (.sym 37)), (.sym 7), (.sym 16), (.sym 9), (.sym 10), (.sym 12), (.sym 20), (.sym 21), (.sym 12), (.sym 12), (.sym 13), (.sym 14), (.sym 15), (.tcons (.tget 0 (.tget 0 (.sym 18))) (.tcons (.tget 1 (.tget 0 (.sym 18))) .tnil)), (.tcons (.tget 0 (.tget 0 (.sym 18))) (.tcons (.tget 1 (.tget 0 (.sym 18))) .tnil)), (.tget 0 (.tget 0 (.sym 18))), (.tget 1 (.tget 0 (.sym 18))), (.tget 1 (.tget 0 (.sym 18))), (.sym 19), (.sym 23), (.sym 23), (.sym 25), (.sym 27), (.sym 27), (.sym 36), (.tget 1 (.sym 37))])) (wrapBinds [(.wcall [] 135 (.sym 26) [(.sym 0), (.sym 6), (.sym 7), (.sym 20), (.sym 4)] [true, true]),
  (.ev (.bin .sub .int (.tget 0 (.tget 0 (.sym 37))) (.sym 6))),
  (.ev (.bin .sub .int (.sym 7) (.tget 0 (.tget 0 (.sym 37))))),
  (.ev (.bin .quo .int (.sym 12) (.const (.v (.int .i64 8))))),
  (.ev (.bin .lss .int (.sym 38) (.sym 39)))]
  (.join 2 4 (.ite (.sym 41) (wrapBinds [(.ev (.bin .geq .int (.sym 38) (.sym 40))),
  (.wcall [] 112 (.tget 1 (.sym 37)) [(.sym 0), (.sym 6), (.tget 0 (.tget 0 (.sym 37))), (.sym 16), (.sym 4)] []),
  (.ev (.bin .add .int (.tget 0 (.tget 0 (.sym 37))) (.const (.v (.int .i64 1)))))]
  (.jump 2 [(.sym 44), (.sym 7), (.sym 42), (.tget 1 (.sym 43))])) (wrapBinds [(.ev (.bin .geq .int (.sym 39) (.sym 40))),
  (.ev (.bin .add .int (.tget 0 (.tget 0 (.sym 37))) (.const (.v (.int .i64 1))))),
  (.wcall [] 112 (.tget 1 (.sym 37)) [(.sym 0), (.sym 43), (.sym 7), (.sym 16), (.sym 4)] [])]
  (.jump 2 [(.sym 6), (.tget 0 (.tget 0 (.sym 37))), (.sym 42), (.tget 1 (.sym 44))]))) (.jump 1 [(.sym 42), (.sym 43), (.sym 16), (.sym 44), (.tget 1 (.tget 0 (.sym 37))), (.sym 12), (.sym 20), (.sym 21), (.sym 12), (.sym 12), (.sym 13), (.sym 14), (.sym 15), (.tcons (.tget 0 (.tget 0 (.sym 18))) (.tcons (.tget 1 (.tget 0 (.sym 18))) .tnil)), (.tcons (.tget 0 (.tget 0 (.sym 18))) (.tcons (.tget 1 (.tget 0 (.sym 18))) .tnil)), (.tget 0 (.tget 0 (.sym 18))), (.tget 1 (.tget 0 (.sym 18))), (.tget 1 (.tget 0 (.sym 18))), (.sym 19), (.sym 23), (.sym 23), (.sym 25), (.sym 27), (.sym 27), (.sym 36), (.sym 45)]))))))))))))))) (.jump 0 [(.sym 12), (.sym 13), (.sym 14), (.sym 15), (.sym 16), (.sym 37)])))
noncomputable def e112 : Entry := { f := 112, kn := .plain, cf := (scf false [] [] Tryz.f112), own := false, ones := [true, true, true, true, true], t := t112 }
theorem ok112 : EntOk Tryz.prog e112 := EntOk.ofPlain Tryz.func112 (by kernel_rfl) (by kernel_rfl)

noncomputable def t116 : T := (.join 0 5 (.loop 1 [(.const (.v (.int .i64 0))), (.const (.v (.int .i64 20))), (.sym 3)] (wrapBinds [(.ev (.bin .leq .int (.sym 5) (.sym 1)))]
  (.ite (.sym 7) (.join 2 3 (wrapBinds [(.wcall [] 128 (.sym 6) [(.sym 0), (.sym 4), (.sym 5), (.sym 2)] []),
  (.ev (.bin .add .int (.sym 5) (.const (.v (.int .i64 20)))))]
  (.jump 2 [(.sym 9), (.sym 9), (.tget 1 (.sym 8))])) (.jump 1 [(.sym 5), (.sym 8), (.sym 10)])) (.jump 0 [(.sym 4), (.sym 5), (.sym 5), (.sym 7), (.sym 6)])))) (wrapBinds [(.wcall [] 128 (.sym 8) [(.sym 0), (.sym 4), (.sym 1), (.sym 2)] [])]
  (.join 0 6 (.loop 1 [(.const (.v (.int .i64 20))), (.sym 4), (.sym 5), (.tget 1 (.sym 9))] (wrapBinds [(.ev (.bin .lss .int (.sym 10) (.sym 1)))]
  (.ite (.sym 14) (.join 2 13 (wrapBinds [(.ev (.bin .mul .int (.const (.v (.int .i64 2))) (.sym 10)))]
  (.join 3 5 (.loop 4 [(.const (.v (.int .i64 0))), (.sym 15), (.sym 13)] (wrapBinds [(.ev (.bin .leq .int (.sym 17) (.sym 1)))]
  (.ite (.sym 19) (.join 5 5 (wrapBinds [(.ev (.bin .add .int (.sym 16) (.sym 10))),
  (.wcall [] 138 (.sym 18) [(.sym 0), (.sym 16), (.sym 20), (.sym 17), (.sym 2)] []),
  (.ev (.bin .mul .int (.const (.v (.int .i64 2))) (.sym 10))),
  (.ev (.bin .add .int (.sym 17) (.sym 22)))]
  (.jump 5 [(.sym 23), (.sym 20), (.sym 22), (.sym 23), (.tget 1 (.sym 21))])) (.jump 4 [(.sym 17), (.sym 20), (.sym 24)])) (.jump 3 [(.sym 16), (.sym 17), (.sym 17), (.sym 19), (.sym 18)])))) (wrapBinds [(.ev (.bin .add .int (.sym 16) (.sym 10))),
  (.ev (.bin .lss .int (.sym 21) (.sym 1)))]
  (.join 3 1 (.ite (.sym 22) (wrapBinds [(.wcall [] 138 (.sym 20) [(.sym 0), (.sym 16), (.sym 21), (.sym 1), (.sym 2)] [])]
  (.jump 3 [(.tget 1 (.sym 23))])) (.jump 3 [(.sym 20)])) (wrapBinds [(.ev (.bin .mul .int (.sym 10) (.const (.v (.int .i64 2)))))]
  (.jump 2 [(.sym 24), (.sym 16), (.sym 17), (.sym 21), (.sym 15), (.sym 18), (.sym 19), (.sym 16), (.sym 21), (.sym 21), (.sym 22), (.sym 24), (.sym 23)])))))) (.jump 1 [(.sym 15), (.sym 16), (.sym 17), (.sym 27)])) (.jump 0 [(.sym 10), (.sym 11), (.sym 12), (.sym 10), (.sym 14), (.sym 13)])))) (.ret (.tcons .tnil (.tcons (.sym 15) .tnil))))))
noncomputable def e116 : Entry := { f := 116, kn := .plain, cf := (scf false [] [] Tryz.f116), own := false, ones := [true, true, true], t := t116 }
theorem ok116 : EntOk Tryz.prog e116 := EntOk.ofPlain Tryz.func116 (by kernel_rfl) (by kernel_rfl)

noncomputable def t128 : T := (wrapBinds [(.ev (.bin .add .int (.sym 1) (.const (.v (.int .i64 1)))))]
  (.join 0 4 (.loop 1 [(.sym 5), (.sym 4)] (wrapBinds [(.ev (.bin .lss .int (.sym 6) (.sym 2)))]
  (.ite (.sym 8) (.join 2 6 (.join 3 6 (.loop 4 [(.sym 6), (.sym 7)] (wrapBinds [(.ev (.bin .gtr .int (.sym 9) (.sym 1))),
  (.ev (.guard (.sym 11) true (.eaddr 1 (.sym 0) (.sym 9)))),
  (.ev (.guard (.sym 11) true (.ld false 1 (.sym 10) (.sym 12)))),
  (.ev (.guard (.sym 11) true (.bin .sub .int (.sym 9) (.const (.v (.int .i64 1)))))),
  (.ev (.guard (.sym 11) true (.eaddr 1 (.sym 0) (.sym 14)))),
  (.ev (.guard (.sym 11) true (.ld false 1 (.sym 10) (.sym 15)))),
  (.callv [((.sym 11), true)] (.sym 3) (.sym 10) [(.sym 13), (.sym 16)] [true]),
  (.ev (.guard (.sym 11) true (.bin .lss .int (.sym 17) (.const (.v (.int .i64 0)))))),
  (.ev (.ite (.sym 11) (.sym 18) (.const (.v (.bool false)))))]
  (.ite (.sym 19) (.join 5 9 (wrapBinds [(.ev (.bin .sub .int (.sym 9) (.const (.v (.int .i64 1))))),
  (.ev (.bin .sub .int (.sym 9) (.const (.v (.int .i64 1))))),
  (.ev (.eaddr 1 (.sym 0) (.sym 21))),
  (.ev (.ld false 1 (.sym 10) (.sym 22))),
  (.ev (.eaddr 1 (.sym 0) (.sym 9))),
  (.ev (.ld false 1 (.sym 10) (.sym 24))),
  (.ev (.eaddr 1 (.sym 0) (.sym 9))),
  (.ev (.sto 1 (.sym 10) (.sym 26) (.sym 23))),
  (.ev (.eaddr 1 (.sym 0) (.sym 20))),
  (.ev (.sto 1 (.sym 27) (.sym 28) (.sym 25)))]
  (.jump 5 [(.sym 20), (.sym 21), (.sym 22), (.sym 23), (.sym 24), (.sym 25), (.sym 26), (.sym 28), (.sym 29)])) (wrapBinds [(.ev (.bin .sub .int (.sym 9) (.const (.v (.int .i64 1)))))]
  (.jump 4 [(.sym 29), (.sym 28)]))) (.jump 3 [(.sym 9), (.sym 9), (.sym 11), (.sym 11), (.sym 19), (.sym 10)])))) (.jump 2 [(.sym 9), (.sym 10), (.sym 11), (.sym 12), (.sym 13), (.sym 14)])) (wrapBinds [(.ev (.bin .add .int (.sym 6) (.const (.v (.int .i64 1)))))]
  (.jump 1 [(.sym 15), (.sym 14)]))) (.jump 0 [(.sym 6), (.sym 6), (.sym 8), (.sym 7)])))) (.ret (.tcons .tnil (.tcons (.sym 9) .tnil)))))
noncomputable def e128 : Entry := { f := 128, kn := .plain, cf := (scf false [] [] Tryz.f128), own := false, ones := [true, true, true, true], t := t128 }
theorem ok128 : EntOk Tryz.prog e128 := EntOk.ofPlain Tryz.func128 (by kernel_rfl) (by kernel_rfl)

noncomputable def t125 : T := (.loop 0 [(.sym 1), (.sym 2), (.sym 3), (.const (.v (.bool true))), (.const (.v (.bool true))), (.sym 4)] (.join 1 26 (wrapBinds [(.ev (.bin .sub .int (.sym 6) (.sym 5))),
  (.ev (.bin .leq .int (.sym 11) (.const (.v (.int .i64 12)))))]
  (.ite (.sym 12) (wrapBinds [(.wcall [] 140 (.sym 10) [(.sym 0), (.sym 5), (.sym 6)] [])]
  (.ret (.tcons .tnil (.tcons (.tget 1 (.sym 13)) .tnil)))) (wrapBinds [(.ev (.bin .eql .int (.sym 7) (.const (.v (.int .i64 0)))))]
  (.ite (.sym 13) (wrapBinds [(.wcall [] 141 (.sym 10) [(.sym 0), (.sym 5), (.sym 6)] [])]
  (.ret (.tcons .tnil (.tcons (.tget 1 (.sym 14)) .tnil)))) (wrapBinds [(.ev (.un .not (.sym 8)))]
  (.join 2 2 (.ite (.sym 14) (wrapBinds [(.wcall [] 142 (.sym 10) [(.sym 0), (.sym 5), (.sym 6)] []),
  (.ev (.bin .sub .int (.sym 7) (.const (.v (.int .i64 1)))))]
  (.jump 2 [(.sym 16), (.tget 1 (.sym 15))])) (.jump 2 [(.sym 7), (.sym 10)])) (wrapBinds [(.wcall [] 143 (.sym 16) [(.sym 0), (.sym 5), (.sym 6)] [true, true]),
  (.ev (.bin .eql .int (.tget 1 (.tget 0 (.sym 17))) (.const (.v (.int .i64 2)))))]
  (.join 2 3 (.ite (.sym 18) (wrapBinds [(.wcall [] 144 (.tget 1 (.sym 17)) [(.sym 0), (.sym 5), (.sym 6)] []),
  (.ev (.bin .sub .int (.sym 6) (.const (.v (.int .i64 1))))),
  (.ev (.bin .sub .int (.tget 0 (.tget 0 (.sym 17))) (.sym 5))),
  (.ev (.bin .sub .int (.sym 20) (.sym 21)))]
  (.jump 2 [(.sym 22), (.const (.v (.int .i64 1))), (.tget 1 (.sym 19))])) (.jump 2 [(.tget 0 (.tget 0 (.sym 17))), (.tget 1 (.tget 0 (.sym 17))), (.tget 1 (.sym 17))])) (wrapBinds [(.ev (.ite (.sym 8) (.sym 9) (.const (.v (.bool false))))),
  (.ev (.guard (.sym 22) true (.bin .eql .int (.sym 20) (.const (.v (.int .i64 1)))))),
  (.ev (.ite (.sym 22) (.sym 23) (.const (.v (.bool false)))))]
  (.join 2 1 (.ite (.sym 24) (wrapBinds [(.wcall [] 145 (.sym 21) [(.sym 0), (.sym 5), (.sym 6)] [true])]
  (.ite (.tget 0 (.sym 25)) (.ret (.tcons .tnil (.tcons (.tget 1 (.sym 25)) .tnil))) (.jump 2 [(.tget 1 (.sym 25))]))) (.jump 2 [(.sym 21)])) (wrapBinds [(.ev (.bin .gtr .int (.sym 5) (.const (.v (.int .i64 0))))),
  (.ev (.guard (.sym 26) true (.bin .sub .int (.sym 5) (.const (.v (.int .i64 1)))))),
  (.ev (.guard (.sym 26) true (.eaddr 1 (.sym 0) (.sym 27)))),
  (.ev (.guard (.sym 26) true (.ld false 1 (.sym 25) (.sym 28)))),
  (.ev (.guard (.sym 26) true (.eaddr 1 (.sym 0) (.sym 19)))),
  (.ev (.guard (.sym 26) true (.ld false 1 (.sym 25) (.sym 30)))),
  (.call [((.sym 26), true)] 146 (.sym 25) [(.sym 29), (.sym 31)] [true]),
  (.ev (.guard (.sym 26) true (.un .not (.sym 32)))),
  (.ev (.ite (.sym 26) (.sym 33) (.const (.v (.bool false)))))]
  (.ite (.sym 34) (wrapBinds [(.wcall [] 147 (.sym 25) [(.sym 0), (.sym 5), (.sym 6), (.sym 19)] [true])]
  (.jump 1 [(.tget 0 (.sym 35)), (.sym 6), (.sym 15), (.sym 8), (.sym 9), (.sym 11), (.sym 19), (.sym 20), (.sym 11), (.sym 11), (.sym 12), (.sym 13), (.sym 14), (.tcons (.tget 0 (.tget 0 (.sym 17))) (.tcons (.tget 1 (.tget 0 (.sym 17))) .tnil)), (.tcons (.tget 0 (.tget 0 (.sym 17))) (.tcons (.tget 1 (.tget 0 (.sym 17))) .tnil)), (.tget 0 (.tget 0 (.sym 17))), (.tget 1 (.tget 0 (.sym 17))), (.tget 1 (.tget 0 (.sym 17))), (.sym 18), (.sym 22), (.sym 22), (.sym 24), (.sym 26), (.sym 26), (.sym 34), (.tget 1 (.sym 35))])) (wrapBinds [(.wcall [] 148 (.sym 25) [(.sym 0), (.sym 5), (.sym 6), (.sym 19)] [true, true]),
  (.ev (.bin .sub .int (.tget 0 (.tget 0 (.sym 35))) (.sym 5))),
  (.ev (.bin .sub .int (.sym 6) (.tget 0 (.tget 0 (.sym 35))))),
  (.ev (.bin .quo .int (.sym 11) (.const (.v (.int .i64 8))))),
  (.ev (.bin .lss .int (.sym 36) (.sym 37)))]
  (.join 2 4 (.ite (.sym 39) (wrapBinds [(.ev (.bin .geq .int (.sym 36) (.sym 38))),
  (.wcall [] 125 (.tget 1 (.sym 35)) [(.sym 0), (.sym 5), (.tget 0 (.tget 0 (.sym 35))), (.sym 15)] []),
  (.ev (.bin .add .int (.tget 0 (.tget 0 (.sym 35))) (.const (.v (.int .i64 1)))))]
  (.jump 2 [(.sym 42), (.sym 6), (.sym 40), (.tget 1 (.sym 41))])) (wrapBinds [(.ev (.bin .geq .int (.sym 37) (.sym 38))),
  (.ev (.bin .add .int (.tget 0 (.tget 0 (.sym 35))) (.const (.v (.int .i64 1))))),
  (.wcall [] 125 (.tget 1 (.sym 35)) [(.sym 0), (.sym 41), (.sym 6), (.sym 15)] [])]
  (.jump 2 [(.sym 5), (.tget 0 (.tget 0 (.sym 35))), (.sym 40), (.tget 1 (.sym 42))]))) (.jump 1 [(.sym 40), (.sym 41), (.sym 15), (.sym 42), (.tget 1 (.tget 0 (.sym 35))), (.sym 11), (.sym 19), (.sym 20), (.sym 11), (.sym 11), (.sym 12), (.sym 13), (.sym 14), (.tcons (.tget 0 (.tget 0 (.sym 17))) (.tcons (.tget 1 (.tget 0 (.sym 17))) .tnil)), (.tcons (.tget 0 (.tget 0 (.sym 17))) (.tcons (.tget 1 (.tget 0 (.sym 17))) .tnil)), (.tget 0 (.tget 0 (.sym 17))), (.tget 1 (.tget 0 (.sym 17))), (.tget 1 (.tget 0 (.sym 17))), (.sym 18), (.sym 22), (.sym 22), (.sym 24), (.sym 26), (.sym 26), (.sym 34), (.sym 43)]))))))))))))))) (.jump 0 [(.sym 11), (.sym 12), (.sym 13), (.sym 14), (.sym 15), (.sym 36)])))
noncomputable def e125 : Entry := { f := 125, kn := .plain, cf := (scf false [] [] Tryz.f125), own := false, ones := [true, true, true, true], t := t125 }
theorem ok125 : EntOk Tryz.prog e125 := EntOk.ofPlain Tryz.func125 (by kernel_rfl) (by kernel_rfl)

noncomputable def t140 : T := (wrapBinds [(.ev (.bin .add .int (.sym 1) (.const (.v (.int .i64 1)))))]
  (.join 0 4 (.loop 1 [(.sym 4), (.sym 3)] (wrapBinds [(.ev (.bin .lss .int (.sym 5) (.sym 2)))]
  (.ite (.sym 7) (.join 2 6 (.join 3 6 (.loop 4 [(.sym 5), (.sym 6)] (wrapBinds [(.ev (.bin .gtr .int (.sym 8) (.sym 1))),
  (.ev (.guard (.sym 10) true (.eaddr 1 (.sym 0) (.sym 8)))),
  (.ev (.guard (.sym 10) true (.ld false 1 (.sym 9) (.sym 11)))),
  (.ev (.guard (.sym 10) true (.bin .sub .int (.sym 8) (.const (.v (.int .i64 1)))))),
  (.ev (.guard (.sym 10) true (.eaddr 1 (.sym 0) (.sym 13)))),
  (.ev (.guard (.sym 10) true (.ld false 1 (.sym 9) (.sym 14)))),
  (.call [((.sym 10), true)] 146 (.sym 9) [(.sym 12), (.sym 15)] [true]),
  (.ev (.ite (.sym 10) (.sym 16) (.const (.v (.bool false)))))]
  (.ite (.sym 17) (.join 5 9 (wrapBinds [(.ev (.bin .sub .int (.sym 8) (.const (.v (.int .i64 1))))),
  (.ev (.bin .sub .int (.sym 8) (.const (.v (.int .i64 1))))),
  (.ev (.eaddr 1 (.sym 0) (.sym 19))),
  (.ev (.ld false 1 (.sym 9) (.sym 20))),
  (.ev (.eaddr 1 (.sym 0) (.sym 8))),
  (.ev (.ld false 1 (.sym 9) (.sym 22))),
  (.ev (.eaddr 1 (.sym 0) (.sym 8))),
  (.ev (.sto 1 (.sym 9) (.sym 24) (.sym 21))),
  (.ev (.eaddr 1 (.sym 0) (.sym 18))),
  (.ev (.sto 1 (.sym 25) (.sym 26) (.sym 23)))]
  (.jump 5 [(.sym 18), (.sym 19), (.sym 20), (.sym 21), (.sym 22), (.sym 23), (.sym 24), (.sym 26), (.sym 27)])) (wrapBinds [(.ev (.bin .sub .int (.sym 8) (.const (.v (.int .i64 1)))))]
  (.jump 4 [(.sym 27), (.sym 26)]))) (.jump 3 [(.sym 8), (.sym 8), (.sym 10), (.sym 10), (.sym 17), (.sym 9)])))) (.jump 2 [(.sym 8), (.sym 9), (.sym 10), (.sym 11), (.sym 12), (.sym 13)])) (wrapBinds [(.ev (.bin .add .int (.sym 5) (.const (.v (.int .i64 1)))))]
  (.jump 1 [(.sym 14), (.sym 13)]))) (.jump 0 [(.sym 5), (.sym 5), (.sym 7), (.sym 6)])))) (.ret (.tcons .tnil (.tcons (.sym 8) .tnil)))))
noncomputable def e140 : Entry := { f := 140, kn := .plain, cf := (scf false [] [] Tryz.f140), own := false, ones := [true, true, true], t := t140 }
theorem ok140 : EntOk Tryz.prog e140 := EntOk.ofPlain Tryz.func140 (by kernel_rfl) (by kernel_rfl)

noncomputable def t146 : T := (wrapBinds [(.call [] 115 (.sym 2) [(.sym 0)] [true]),
  (.call [((.sym 3), true)] 115 (.sym 2) [(.sym 1)] [true]),
  (.ev (.guard (.sym 3) true (.un .not (.sym 4)))),
  (.ev (.ite (.sym 3) (.sym 5) (.const (.v (.bool false))))),
  (.ev (.guard (.sym 6) false (.bin .lss .int (.sym 0) (.sym 1)))),
  (.ev (.ite (.sym 6) (.const (.v (.bool true))) (.sym 7)))]
  (.ret (.tcons (.sym 8) (.tcons (.sym 2) .tnil))))
noncomputable def e146 : Entry := { f := 146, kn := .plain, cf := (scf true [] [] Tryz.f146), own := false, ones := [true, true], t := t146 }
theorem ok146 : EntOk Tryz.prog e146 := EntOk.ofPlain Tryz.func146 (by kernel_rfl) (by kernel_rfl)

noncomputable def tabKnown : Tab := [e17, e44, e45, e35, e23, e22, e34, e18, e19, e46, e47, e99, e126, e100, e48, e88, e119, e101, e127, e102, e54, e55, e57, e108, e109, e123, e103, e66, e104, e105, e106, e107, e78, e65, e111, e69, e70, e72, e73, e75, e77, e114, e71, e74, e115, e83, e84, e85, e118, e53, e56, e64, e67, e89, e29, e31, e139, e82, e68, e76, e96, e112, e116, e128, e125, e140, e146]

theorem tabKnown_ok : ∀ e, e ∈ tabKnown → EntOk Tryz.prog e := by
  intro e he
  simp only [tabKnown, List.mem_cons, List.not_mem_nil, or_false] at he
  rcases he with rfl | rfl | rfl | rfl | rfl | rfl | rfl | rfl | rfl | rfl | rfl | rfl | rfl | rfl | rfl | rfl | rfl | rfl | rfl | rfl | rfl | rfl | rfl | rfl | rfl | rfl | rfl | rfl | rfl | rfl | rfl | rfl | rfl | rfl | rfl | rfl | rfl | rfl | rfl | rfl | rfl | rfl | rfl | rfl | rfl | rfl | rfl | rfl | rfl | rfl | rfl | rfl | rfl | rfl | rfl | rfl | rfl | rfl | rfl | rfl | rfl | rfl | rfl | rfl | rfl | rfl | rfl
  · exact ok17
  · exact ok44
  · exact ok45
  · exact ok35
  · exact ok23
  · exact ok22
  · exact ok34
  · exact ok18
  · exact ok19
  · exact ok46
  · exact ok47
  · exact ok99
  · exact ok126
  · exact ok100
  · exact ok48
  · exact ok88
  · exact ok119
  · exact ok101
  · exact ok127
  · exact ok102
  · exact ok54
  · exact ok55
  · exact ok57
  · exact ok108
  · exact ok109
  · exact ok123
  · exact ok103
  · exact ok66
  · exact ok104
  · exact ok105
  · exact ok106
  · exact ok107
  · exact ok78
  · exact ok65
  · exact ok111
  · exact ok69
  · exact ok70
  · exact ok72
  · exact ok73
  · exact ok75
  · exact ok77
  · exact ok114
  · exact ok71
  · exact ok74
  · exact ok115
  · exact ok83
  · exact ok84
  · exact ok85
  · exact ok118
  · exact ok53
  · exact ok56
  · exact ok64
  · exact ok67
  · exact ok89
  · exact ok29
  · exact ok31
  · exact ok139
  · exact ok82
  · exact ok68
  · exact ok76
  · exact ok96
  · exact ok112
  · exact ok116
  · exact ok128
  · exact ok125
  · exact ok140
  · exact ok146

end Go.Am.Sc
