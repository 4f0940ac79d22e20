/-
  More functions as texts: the law AppealCodes.
-/
import Derived.Test.YtnenlnmfoocpdaaApTab
set_option linter.unusedSimpArgs false
set_option linter.unusedVariables false
namespace Go.Am.Ap
open Go.Proofs


/-- function 7 -/
noncomputable def t7 : T := (wrapBinds [(.ev (.aggN 6 (.sym 0))),
  (.call [] 21 (.sym 3) [(.cons (.cell 0 (.sym 4)) (.cons (.cell 1 (.sym 4)) (.cons (.cell 2 (.sym 4)) (.cons (.cell 3 (.sym 4)) (.cons (.cell 4 (.sym 4)) (.cons (.cell 5 (.sym 4)) .nil))))))] [true]),
  (.ev (.un .not (.sym 5)))]
  (.ite (.sym 6) (wrapBinds [(.call [] 16 (.sym 3) [] [true])]
  (.ret (.tcons (.sym 7) (.tcons (.sym 3) .tnil)))) (wrapBinds [(.call [] 23 (.sym 3) [(.cons (.cell 0 (.sym 4)) (.cons (.cell 1 (.sym 4)) (.cons (.cell 2 (.sym 4)) (.cons (.cell 3 (.sym 4)) (.cons (.cell 4 (.sym 4)) (.cons (.cell 5 (.sym 4)) .nil))))))] [true]),
  (.wcall [] 24 (.sym 3) [(.cons (.cell 0 (.sym 4)) (.cons (.cell 1 (.sym 4)) (.cons (.cell 2 (.sym 4)) (.cons (.cell 3 (.sym 4)) (.cons (.cell 4 (.sym 4)) (.cons (.cell 5 (.sym 4)) .nil))))))] [true, true]),
  (.call [] 39 (.tget 1 (.sym 8)) [(.cons (.cell 0 (.sym 4)) (.cons (.cell 1 (.sym 4)) (.cons (.cell 2 (.sym 4)) (.cons (.cell 3 (.sym 4)) (.cons (.cell 4 (.sym 4)) (.cons (.cell 5 (.sym 4)) .nil)))))), (.sym 1), (.sym 2)] [false, true]),
  (.ev (.aggN 4 (.tget 0 (.sym 9)))),
  (.ev (.un .not (.sym 7))),
  (.ev (.guard (.sym 11) false (.bin .lss .int (.sym 1) (.const (.v (.int .i64 1)))))),
  (.ev (.ite (.sym 11) (.const (.v (.bool true))) (.sym 12))),
  (.ev (.guard (.sym 13) false (.bin .gtr .int (.sym 1) (.const (.v (.int .i64 10000)))))),
  (.ev (.ite (.sym 13) (.const (.v (.bool true))) (.sym 14))),
  (.ev (.guard (.sym 15) false (.bin .lss .int (.sym 2) (.const (.v (.int .i64 0)))))),
  (.ev (.ite (.sym 15) (.const (.v (.bool true))) (.sym 16))),
  (.ev (.guard (.sym 17) false (.bin .gtr .int (.sym 2) (.const (.v (.int .i64 10000000)))))),
  (.ev (.ite (.sym 17) (.const (.v (.bool true))) (.sym 18)))]
  (.join 0 0 (.ite (.sym 19) (wrapBinds [(.ev (.bin .neq .int (.tget 1 (.sym 9)) (.const (.v (.int .i64 2))))),
  (.ev (.guard (.sym 20) false (.cons (.const (.agg [(.v (.int .i64 0))])) (.cons (.const (.agg [(.v (.int .i64 0))])) (.cons (.const (.agg [(.v (.int .i64 0))])) (.cons (.const (.agg [(.v (.int .i64 0))])) .nil)))))),
  (.ev (.guard (.sym 20) false (.bin .neq (.agg [0, 0, 0, 0]) (.cons (.cell 0 (.sym 10)) (.cons (.cell 1 (.sym 10)) (.cons (.cell 2 (.sym 10)) (.cons (.cell 3 (.sym 10)) .nil)))) (.sym 21)))),
  (.ev (.ite (.sym 20) (.const (.v (.bool true))) (.sym 22)))]
  (.ite (.sym 23) (.ret (.tcons (.const (.v (.bool false))) (.tcons (.tget 1 (.sym 8)) .tnil))) (.jump 0 []))) (wrapBinds [(.call [] 40 (.tget 1 (.sym 8)) [(.cons (.cell 0 (.sym 4)) (.cons (.cell 1 (.sym 4)) (.cons (.cell 2 (.sym 4)) (.cons (.cell 3 (.sym 4)) (.cons (.cell 4 (.sym 4)) (.cons (.cell 5 (.sym 4)) .nil)))))), (.sym 1), (.sym 2)] [false, true]),
  (.ev (.aggN 4 (.tget 0 (.sym 20)))),
  (.ev (.guard (.tget 1 (.sym 20)) true (.tget 1 (.sym 9)))),
  (.ev (.guard (.tget 1 (.sym 20)) true (.bin .neq .int (.sym 22) (.const (.v (.int .i64 0)))))),
  (.ev (.guard (.tget 1 (.sym 20)) true (.guard (.sym 23) false (.bin .neq (.agg [0, 0, 0, 0]) (.cons (.cell 0 (.sym 10)) (.cons (.cell 1 (.sym 10)) (.cons (.cell 2 (.sym 10)) (.cons (.cell 3 (.sym 10)) .nil)))) (.cons (.cell 0 (.sym 21)) (.cons (.cell 1 (.sym 21)) (.cons (.cell 2 (.sym 21)) (.cons (.cell 3 (.sym 21)) .nil)))))))),
  (.ev (.guard (.tget 1 (.sym 20)) true (.ite (.sym 23) (.const (.v (.bool true))) (.sym 24)))),
  (.ev (.ite (.tget 1 (.sym 20)) (.sym 25) (.const (.v (.bool false))))),
  (.ev (.guard (.sym 26) false (.tget 1 (.sym 20)))),
  (.ev (.guard (.sym 26) false (.un .not (.sym 27)))),
  (.ev (.guard (.sym 26) false (.guard (.sym 28) true (.tget 1 (.sym 9))))),
  (.ev (.guard (.sym 26) false (.guard (.sym 28) true (.bin .neq .int (.sym 29) (.const (.v (.int .i64 5))))))),
  (.ev (.guard (.sym 26) false (.guard (.sym 28) true (.guard (.sym 30) false (.cons (.const (.agg [(.v (.int .i64 0))])) (.cons (.const (.agg [(.v (.int .i64 0))])) (.cons (.const (.agg [(.v (.int .i64 0))])) (.cons (.const (.agg [(.v (.int .i64 0))])) .nil)))))))),
  (.ev (.guard (.sym 26) false (.guard (.sym 28) true (.guard (.sym 30) false (.bin .neq (.agg [0, 0, 0, 0]) (.cons (.cell 0 (.sym 10)) (.cons (.cell 1 (.sym 10)) (.cons (.cell 2 (.sym 10)) (.cons (.cell 3 (.sym 10)) .nil)))) (.sym 31)))))),
  (.ev (.guard (.sym 26) false (.guard (.sym 28) true (.ite (.sym 30) (.const (.v (.bool true))) (.sym 32))))),
  (.ev (.guard (.sym 26) false (.ite (.sym 28) (.sym 33) (.const (.v (.bool false)))))),
  (.ev (.ite (.sym 26) (.const (.v (.bool true))) (.sym 34)))]
  (.ite (.sym 35) (.ret (.tcons (.const (.v (.bool false))) (.tcons (.tget 1 (.sym 8)) .tnil))) (.jump 0 [])))) (wrapBinds [(.ev (.un .not (.sym 7)))]
  (.ite (.sym 20) (wrapBinds [(.call [] 41 (.tget 1 (.sym 8)) [(.cons (.cell 0 (.sym 4)) (.cons (.cell 1 (.sym 4)) (.cons (.cell 2 (.sym 4)) (.cons (.cell 3 (.sym 4)) (.cons (.cell 4 (.sym 4)) (.cons (.cell 5 (.sym 4)) .nil))))))] [true]),
  (.ev (.bin .eql .int (.sym 21) (.const (.v (.int .i64 2))))),
  (.ev (.guard (.sym 22) true (.tget 1 (.tget 0 (.sym 8))))),
  (.ev (.guard (.sym 22) true (.bin .eql .int (.sym 23) (.const (.v (.int .i64 2)))))),
  (.ev (.ite (.sym 22) (.sym 24) (.const (.v (.bool false))))),
  (.ev (.guard (.sym 25) true (.tget 0 (.tget 0 (.sym 8))))),
  (.ev (.guard (.sym 25) true (.bin .eql .ptr (.sym 26) (.const (.v (.pointer none)))))),
  (.ev (.ite (.sym 25) (.sym 27) (.const (.v (.bool false))))),
  (.call [((.sym 28), true)] 16 (.tget 1 (.sym 8)) [] [true]),
  (.ev (.ite (.sym 28) (.sym 29) (.const (.v (.bool false)))))]
  (.ret (.tcons (.sym 30) (.tcons (.tget 1 (.sym 8)) .tnil)))) (wrapBinds [(.call [] 41 (.tget 1 (.sym 8)) [(.cons (.cell 0 (.sym 4)) (.cons (.cell 1 (.sym 4)) (.cons (.cell 2 (.sym 4)) (.cons (.cell 3 (.sym 4)) (.cons (.cell 4 (.sym 4)) (.cons (.cell 5 (.sym 4)) .nil))))))] [true]),
  (.ev (.bin .eql .int (.sym 21) (.const (.v (.int .i64 0))))),
  (.ev (.guard (.sym 22) true (.tget 1 (.tget 0 (.sym 8))))),
  (.ev (.guard (.sym 22) true (.bin .eql .int (.sym 23) (.const (.v (.int .i64 0)))))),
  (.ev (.ite (.sym 22) (.sym 24) (.const (.v (.bool false))))),
  (.ev (.guard (.sym 25) true (.tget 0 (.tget 0 (.sym 8))))),
  (.ev (.guard (.sym 25) true (.bin .neq .ptr (.sym 26) (.const (.v (.pointer none)))))),
  (.ev (.ite (.sym 25) (.sym 27) (.const (.v (.bool false))))),
  (.ev (.guard (.sym 28) true (.tget 0 (.tget 0 (.sym 8))))),
  (.call [((.sym 28), true)] 29 (.tget 1 (.sym 8)) [(.sym 29)] [true]),
  (.ev (.guard (.sym 28) true (.lenL (.sym 30)))),
  (.ev (.guard (.sym 28) true (.bin .eql .int (.sym 31) (.const (.v (.int .i64 0)))))),
  (.ev (.ite (.sym 28) (.sym 32) (.const (.v (.bool false))))),
  (.call [((.sym 33), true)] 16 (.tget 1 (.sym 8)) [] [true]),
  (.ev (.ite (.sym 33) (.sym 34) (.const (.v (.bool false)))))]
  (.ret (.tcons (.sym 35) (.tcons (.tget 1 (.sym 8)) .tnil))))))))))
noncomputable def e7 : Entry := { f := 7, kn := .plain, cf := (autoCfg false WRA PAN [] [] Try.f7), own := false, ones := [false, true, true], t := t7 }
theorem ok7 : EntOk Try.prog e7 := EntOk.ofPlain Try.func7 (by kernel_rfl) (by kernel_rfl)

/-- function 21 -/
noncomputable def t21 : T := (wrapBinds [(.ev (.aggN 6 (.sym 0))),
  (.ev (.lenL (.cell 1 (.sym 2)))),
  (.ev (.bin .leq .int (.sym 3) (.const (.v (.int .i64 20))))),
  (.ev (.guard (.sym 4) false (.cell 1 (.sym 2)))),
  (.ev (.guard (.sym 4) false (.lenL (.sym 5)))),
  (.ev (.guard (.sym 4) false (.bin .gtr .int (.sym 6) (.const (.v (.int .i64 500)))))),
  (.ev (.guard (.sym 4) false (.guard (.sym 7) true (.cell 1 (.sym 2))))),
  (.ev (.guard (.sym 4) false (.guard (.sym 7) true (.lenL (.sym 8))))),
  (.ev (.guard (.sym 4) false (.guard (.sym 7) true (.bin .lss .int (.sym 9) (.const (.v (.int .i64 600))))))),
  (.ev (.guard (.sym 4) false (.ite (.sym 7) (.sym 10) (.const (.v (.bool false)))))),
  (.ev (.ite (.sym 4) (.const (.v (.bool true))) (.sym 11)))]
  (.ret (.tcons (.sym 12) (.tcons (.sym 1) .tnil))))
noncomputable def e21 : Entry := { f := 21, kn := .plain, cf := (autoCfg true WRA PAN [] [] Try.f21), own := false, ones := [false], t := t21 }
theorem ok21 : EntOk Try.prog e21 := EntOk.ofPlain Try.func21 (by kernel_rfl) (by kernel_rfl)

/-- function 23 -/
noncomputable def t23 : T := (wrapBinds [(.ev (.aggN 6 (.sym 0))),
  (.call [] 55 (.sym 1) [(.cell 0 (.sym 2)), (.const (.v (.int .i64 1))), (.const (.v (.int .i64 200)))] [true]),
  (.ev (.un .not (.sym 3))),
  (.ev (.guard (.sym 4) false (.cell 1 (.sym 2)))),
  (.ev (.guard (.sym 4) false (.lenL (.sym 5)))),
  (.call [((.sym 4), false)] 55 (.sym 1) [(.sym 6), (.const (.v (.int .i64 1))), (.const (.v (.int .i64 500)))] [true]),
  (.ev (.guard (.sym 4) false (.un .not (.sym 7)))),
  (.ev (.ite (.sym 4) (.const (.v (.bool true))) (.sym 8))),
  (.ev (.guard (.sym 9) false (.cell 2 (.sym 2)))),
  (.call [((.sym 9), false)] 55 (.sym 1) [(.sym 10), (.const (.v (.int .i64 0))), (.const (.v (.int .i64 10000)))] [true]),
  (.ev (.guard (.sym 9) false (.un .not (.sym 11)))),
  (.ev (.ite (.sym 9) (.const (.v (.bool true))) (.sym 12))),
  (.ev (.guard (.sym 13) false (.cell 3 (.sym 2)))),
  (.call [((.sym 13), false)] 55 (.sym 1) [(.sym 14), (.const (.v (.int .i64 0))), (.const (.v (.int .i64 10000)))] [true]),
  (.ev (.guard (.sym 13) false (.un .not (.sym 15)))),
  (.ev (.ite (.sym 13) (.const (.v (.bool true))) (.sym 16))),
  (.ev (.guard (.sym 17) false (.cell 4 (.sym 2)))),
  (.call [((.sym 17), false)] 55 (.sym 1) [(.sym 18), (.const (.v (.int .i64 0))), (.const (.v (.int .i64 1000000000)))] [true]),
  (.ev (.guard (.sym 17) false (.un .not (.sym 19)))),
  (.ev (.ite (.sym 17) (.const (.v (.bool true))) (.sym 20))),
  (.ev (.guard (.sym 21) false (.cell 5 (.sym 2)))),
  (.call [((.sym 21), false)] 55 (.sym 1) [(.sym 22), (.const (.v (.int .i64 0))), (.const (.v (.int .i64 1000000000)))] [true]),
  (.ev (.guard (.sym 21) false (.un .not (.sym 23)))),
  (.ev (.ite (.sym 21) (.const (.v (.bool true))) (.sym 24)))]
  (.ite (.sym 25) (.ret (.tcons (.const (.v (.bool false))) (.tcons (.sym 1) .tnil))) (.join 0 4 (.loop 1 [(.const (.v (.int .i64 0)))] (wrapBinds [(.ev (.lenL (.cell 1 (.sym 2)))),
  (.ev (.bin .lss .int (.sym 26) (.sym 27)))]
  (.ite (.sym 28) (.join 2 18 (wrapBinds [(.ev (.eaddr 4 (.cell 1 (.sym 2)) (.sym 26))),
  (.ev (.ld true 4 (.sym 1) (.sym 29))),
  (.ev (.aggN 4 (.sym 30))),
  (.call [] 55 (.sym 1) [(.cell 0 (.sym 31)), (.const (.v (.int .i64 1))), (.const (.v (.int .i64 10000)))] [true]),
  (.ev (.un .not (.sym 32))),
  (.ev (.guard (.sym 33) false (.cell 1 (.sym 31)))),
  (.call [((.sym 33), false)] 55 (.sym 1) [(.sym 34), (.const (.v (.int .i64 0))), (.const (.v (.int .i64 10000000)))] [true]),
  (.ev (.guard (.sym 33) false (.un .not (.sym 35)))),
  (.ev (.ite (.sym 33) (.const (.v (.bool true))) (.sym 36))),
  (.ev (.guard (.sym 37) false (.cell 2 (.sym 31)))),
  (.ev (.guard (.sym 37) false (.cell 3 (.sym 31)))),
  (.call [((.sym 37), false)] 55 (.sym 1) [(.sym 38), (.const (.v (.int .i64 0))), (.sym 39)] [true]),
  (.ev (.guard (.sym 37) false (.un .not (.sym 40)))),
  (.ev (.ite (.sym 37) (.const (.v (.bool true))) (.sym 41))),
  (.ev (.guard (.sym 42) false (.cell 3 (.sym 31)))),
  (.ev (.guard (.sym 42) false (.bin .gtr .int (.sym 43) (.const (.v (.int .i64 36000000)))))),
  (.ev (.ite (.sym 42) (.const (.v (.bool true))) (.sym 44)))]
  (.ite (.sym 45) (.ret (.tcons (.const (.v (.bool false))) (.tcons (.sym 1) .tnil))) (wrapBinds [(.ev (.bin .gtr .int (.sym 26) (.const (.v (.int .i64 0))))),
  (.ev (.guard (.sym 46) true (.cell 0 (.sym 31)))),
  (.ev (.guard (.sym 46) true (.cell 1 (.sym 2)))),
  (.ev (.guard (.sym 46) true (.bin .sub .int (.sym 26) (.const (.v (.int .i64 1)))))),
  (.ev (.guard (.sym 46) true (.eaddr 4 (.sym 48) (.sym 49)))),
  (.ev (.guard (.sym 46) true (.padd 0 (.sym 50)))),
  (.ev (.guard (.sym 46) true (.ld false 1 (.sym 1) (.sym 51)))),
  (.ev (.guard (.sym 46) true (.bin .lss .int (.sym 47) (.sym 52)))),
  (.ev (.guard (.sym 46) true (.guard (.sym 53) false (.cell 0 (.sym 31))))),
  (.ev (.guard (.sym 46) true (.guard (.sym 53) false (.cell 1 (.sym 2))))),
  (.ev (.guard (.sym 46) true (.guard (.sym 53) false (.bin .sub .int (.sym 26) (.const (.v (.int .i64 1))))))),
  (.ev (.guard (.sym 46) true (.guard (.sym 53) false (.eaddr 4 (.sym 55) (.sym 56))))),
  (.ev (.guard (.sym 46) true (.guard (.sym 53) false (.padd 0 (.sym 57))))),
  (.ev (.guard (.sym 46) true (.guard (.sym 53) false (.ld false 1 (.sym 1) (.sym 58))))),
  (.ev (.guard (.sym 46) true (.guard (.sym 53) false (.bin .eql .int (.sym 54) (.sym 59))))),
  (.ev (.guard (.sym 46) true (.guard (.sym 53) false (.guard (.sym 60) true (.cell 1 (.sym 31)))))),
  (.ev (.guard (.sym 46) true (.guard (.sym 53) false (.guard (.sym 60) true (.cell 1 (.sym 2)))))),
  (.ev (.guard (.sym 46) true (.guard (.sym 53) false (.guard (.sym 60) true (.bin .sub .int (.sym 26) (.const (.v (.int .i64 1)))))))),
  (.ev (.guard (.sym 46) true (.guard (.sym 53) false (.guard (.sym 60) true (.eaddr 4 (.sym 62) (.sym 63)))))),
  (.ev (.guard (.sym 46) true (.guard (.sym 53) false (.guard (.sym 60) true (.padd 1 (.sym 64)))))),
  (.ev (.guard (.sym 46) true (.guard (.sym 53) false (.guard (.sym 60) true (.ld false 1 (.sym 1) (.sym 65)))))),
  (.ev (.guard (.sym 46) true (.guard (.sym 53) false (.guard (.sym 60) true (.bin .leq .int (.sym 61) (.sym 66)))))),
  (.ev (.guard (.sym 46) true (.guard (.sym 53) false (.ite (.sym 60) (.sym 67) (.const (.v (.bool false))))))),
  (.ev (.guard (.sym 46) true (.ite (.sym 53) (.const (.v (.bool true))) (.sym 68)))),
  (.ev (.ite (.sym 46) (.sym 69) (.const (.v (.bool false)))))]
  (.ite (.sym 70) (.ret (.tcons (.const (.v (.bool false))) (.tcons (.sym 1) .tnil))) (.jump 2 [(.sym 29), (.sym 30), (.cell 0 (.sym 31)), (.sym 32), (.sym 33), (.sym 33), (.sym 37), (.sym 37), (.sym 42), (.sym 42), (.sym 45), (.sym 46), (.sym 46), (.sym 70), (.cell 0 (.sym 31)), (.cell 1 (.sym 31)), (.cell 2 (.sym 31)), (.cell 3 (.sym 31))]))))) (wrapBinds [(.ev (.bin .add .int (.sym 26) (.const (.v (.int .i64 1)))))]
  (.jump 1 [(.sym 47)]))) (.jump 0 [(.sym 26), (.sym 26), (.sym 27), (.sym 28)])))) (.ret (.tcons (.const (.v (.bool true))) (.tcons (.sym 1) .tnil))))))
noncomputable def e23 : Entry := { f := 23, kn := .plain, cf := (autoCfg true WRA PAN [] [] Try.f23), own := false, ones := [false], t := t23 }
theorem ok23 : EntOk Try.prog e23 := EntOk.ofPlain Try.func23 (by kernel_rfl) (by kernel_rfl)

/-- function 39 -/
noncomputable def t39 : T := (wrapBinds [(.ev (.aggN 6 (.sym 0))),
  (.call [] 41 (.sym 3) [(.cons (.cell 0 (.sym 4)) (.cons (.cell 1 (.sym 4)) (.cons (.cell 2 (.sym 4)) (.cons (.cell 3 (.sym 4)) (.cons (.cell 4 (.sym 4)) (.cons (.cell 5 (.sym 4)) .nil))))))] [true]),
  (.ev (.bin .neq .int (.sym 5) (.const (.v (.int .i64 0))))),
  (.call [((.sym 6), false)] 52 (.sym 3) [(.sym 1), (.const (.v (.int .i64 1))), (.const (.v (.int .i64 10000)))] [true]),
  (.ev (.guard (.sym 6) false (.un .not (.sym 7)))),
  (.ev (.ite (.sym 6) (.const (.v (.bool true))) (.sym 8))),
  (.call [((.sym 9), false)] 52 (.sym 3) [(.sym 2), (.const (.v (.int .i64 0))), (.const (.v (.int .i64 10000000)))] [true]),
  (.ev (.guard (.sym 9) false (.un .not (.sym 10)))),
  (.ev (.ite (.sym 9) (.const (.v (.bool true))) (.sym 11)))]
  (.ite (.sym 12) (wrapBinds [(.ev (.cons (.const (.agg [(.v (.int .i64 0))])) (.cons (.const (.agg [(.v (.int .i64 0))])) (.cons (.const (.agg [(.v (.int .i64 0))])) (.cons (.const (.agg [(.v (.int .i64 0))])) .nil))))),
  (.ev (.aggN 4 (.sym 13)))]
  (.ret (.tcons (.tcons (.cons (.cell 0 (.sym 14)) (.cons (.cell 1 (.sym 14)) (.cons (.cell 2 (.sym 14)) (.cons (.cell 3 (.sym 14)) .nil)))) (.tcons (.const (.v (.int .i64 2))) .tnil)) (.tcons (.sym 3) .tnil)))) (wrapBinds [(.call [] 81 (.sym 3) [(.cons (.cell 0 (.sym 4)) (.cons (.cell 1 (.sym 4)) (.cons (.cell 2 (.sym 4)) (.cons (.cell 3 (.sym 4)) (.cons (.cell 4 (.sym 4)) (.cons (.cell 5 (.sym 4)) .nil)))))), (.sym 1), (.sym 2)] [true, true]),
  (.ev (.un .not (.tget 1 (.sym 13))))]
  (.ite (.sym 14) (wrapBinds [(.ev (.cons (.const (.agg [(.v (.int .i64 0))])) (.cons (.const (.agg [(.v (.int .i64 0))])) (.cons (.const (.agg [(.v (.int .i64 0))])) (.cons (.const (.agg [(.v (.int .i64 0))])) .nil))))),
  (.ev (.aggN 4 (.sym 15)))]
  (.ret (.tcons (.tcons (.cons (.cell 0 (.sym 16)) (.cons (.cell 1 (.sym 16)) (.cons (.cell 2 (.sym 16)) (.cons (.cell 3 (.sym 16)) .nil)))) (.tcons (.const (.v (.int .i64 5))) .tnil)) (.tcons (.sym 3) .tnil)))) (wrapBinds [(.ev (.eaddr 4 (.cell 1 (.sym 4)) (.tget 0 (.sym 13)))),
  (.ev (.ld true 4 (.sym 3) (.sym 15))),
  (.ev (.aggN 4 (.sym 16)))]
  (.ret (.tcons (.tcons (.cons (.cell 0 (.sym 17)) (.cons (.cell 1 (.sym 17)) (.cons (.cell 2 (.sym 17)) (.cons (.cell 3 (.sym 17)) .nil)))) (.tcons (.const (.v (.int .i64 0))) .tnil)) (.tcons (.sym 3) .tnil))))))))
noncomputable def e39 : Entry := { f := 39, kn := .plain, cf := (autoCfg true WRA PAN [] [] Try.f39), own := false, ones := [false, true, true], t := t39 }
theorem ok39 : EntOk Try.prog e39 := EntOk.ofPlain Try.func39 (by kernel_rfl) (by kernel_rfl)

/-- function 40 -/
noncomputable def t40 : T := (wrapBinds [(.ev (.aggN 6 (.sym 0)))]
  (.join 0 9 (.loop 1 [(.const (.v (.bool false))), (.const (.v (.int .i64 0))), (.const (.v (.int .i64 0))), (.const (.v (.int .i64 0))), (.const (.v (.int .i64 0))), (.const (.v (.int .i64 0)))] (wrapBinds [(.ev (.lenL (.cell 1 (.sym 4)))),
  (.ev (.bin .lss .int (.sym 6) (.sym 11)))]
  (.ite (.sym 12) (.join 2 15 (wrapBinds [(.ev (.eaddr 4 (.cell 1 (.sym 4)) (.sym 6))),
  (.ev (.ld true 4 (.sym 3) (.sym 13))),
  (.ev (.aggN 4 (.sym 14))),
  (.ev (.bin .eql .int (.cell 0 (.sym 15)) (.sym 1))),
  (.ev (.guard (.sym 16) true (.cell 1 (.sym 15)))),
  (.ev (.guard (.sym 16) true (.bin .leq .int (.sym 17) (.sym 2)))),
  (.ev (.ite (.sym 16) (.sym 18) (.const (.v (.bool false)))))]
  (.join 3 5 (.ite (.sym 19) (.jump 3 [(.const (.v (.bool true))), (.cell 0 (.sym 15)), (.cell 1 (.sym 15)), (.cell 2 (.sym 15)), (.cell 3 (.sym 15))]) (.jump 3 [(.sym 5), (.sym 7), (.sym 8), (.sym 9), (.sym 10)])) (.jump 2 [(.sym 20), (.sym 13), (.sym 14), (.cell 0 (.sym 15)), (.sym 16), (.sym 16), (.sym 19), (.sym 21), (.sym 22), (.sym 23), (.sym 24), (.cell 0 (.sym 15)), (.cell 1 (.sym 15)), (.cell 2 (.sym 15)), (.cell 3 (.sym 15))]))) (wrapBinds [(.ev (.bin .add .int (.sym 6) (.const (.v (.int .i64 1)))))]
  (.jump 1 [(.sym 13), (.sym 28), (.sym 20), (.sym 21), (.sym 22), (.sym 23)]))) (.jump 0 [(.sym 5), (.sym 6), (.sym 6), (.sym 11), (.sym 12), (.sym 7), (.sym 8), (.sym 9), (.sym 10)])))) (.ret (.tcons (.tcons (.cons (.sym 10) (.cons (.sym 11) (.cons (.sym 12) (.cons (.sym 13) .nil)))) (.tcons (.sym 5) .tnil)) (.tcons (.sym 3) .tnil)))))
noncomputable def e40 : Entry := { f := 40, kn := .plain, cf := (autoCfg true WRA PAN [] [] Try.f40), own := false, ones := [false, true, true], t := t40 }
theorem ok40 : EntOk Try.prog e40 := EntOk.ofPlain Try.func40 (by kernel_rfl) (by kernel_rfl)

/-- function 29 -/
noncomputable def t29 : T := (wrapBinds [(.call [] 61 (.sym 1) [(.sym 0)] [true]),
  (.ev (.un .not (.sym 2)))]
  (.ite (.sym 3) (.ret (.tcons (.const (.lst [])) (.tcons (.sym 1) .tnil))) (wrapBinds [(.ev (.nn (.sym 0))),
  (.ev (.padd 7 (.sym 4))),
  (.ev (.ld false 1 (.sym 1) (.sym 5))),
  (.ev (.lenL (.sym 6)))]
  (.join 0 3 (.loop 1 [(.const (.lst [])), (.const (.v (.int .i64 0)))] (wrapBinds [(.ev (.bin .lss .int (.sym 9) (.sym 7)))]
  (.ite (.sym 10) (.join 2 20 (wrapBinds [(.ev (.eaddr 12 (.sym 6) (.sym 9))),
  (.ev (.ld true 12 (.sym 1) (.sym 11))),
  (.ev (.aggN 12 (.sym 12))),
  (.call [] 70 (.sym 1) [(.cell 8 (.sym 13))] [true]),
  (.ev (.lcons (.aggN 12 (.cons (.cell 0 (.sym 13)) (.cons (.cell 1 (.sym 13)) (.cons (.cell 2 (.sym 13)) (.cons (.cell 3 (.sym 13)) (.cons (.cell 4 (.sym 13)) (.cons (.cell 5 (.sym 13)) (.cons (.cell 6 (.sym 13)) (.cons (.cell 7 (.sym 13)) (.cons (.sym 14) (.cons (.cell 9 (.sym 13)) (.cons (.cell 10 (.sym 13)) (.cons (.cell 11 (.sym 13)) .nil))))))))))))) (.const (.lst [])))),
  (.ev (.app 12 112 (.sym 8) (.sym 15)))]
  (.jump 2 [(.sym 16), (.sym 11), (.sym 12), (.cell 8 (.sym 13)), (.sym 14), (.cons (.cell 0 (.sym 13)) (.cons (.cell 1 (.sym 13)) (.cons (.cell 2 (.sym 13)) (.cons (.cell 3 (.sym 13)) (.cons (.cell 4 (.sym 13)) (.cons (.cell 5 (.sym 13)) (.cons (.cell 6 (.sym 13)) (.cons (.cell 7 (.sym 13)) (.cons (.sym 14) (.cons (.cell 9 (.sym 13)) (.cons (.cell 10 (.sym 13)) (.cons (.cell 11 (.sym 13)) .nil)))))))))))), (.sym 15), (.sym 16), (.cell 0 (.sym 13)), (.cell 1 (.sym 13)), (.cell 2 (.sym 13)), (.cell 3 (.sym 13)), (.cell 4 (.sym 13)), (.cell 5 (.sym 13)), (.cell 6 (.sym 13)), (.cell 7 (.sym 13)), (.sym 14), (.cell 9 (.sym 13)), (.cell 10 (.sym 13)), (.cell 11 (.sym 13))])) (wrapBinds [(.ev (.bin .add .int (.sym 9) (.const (.v (.int .i64 1)))))]
  (.jump 1 [(.sym 11), (.sym 31)]))) (.jump 0 [(.sym 8), (.sym 9), (.sym 10)])))) (.ret (.tcons (.sym 8) (.tcons (.sym 1) .tnil)))))))
noncomputable def e29 : Entry := { f := 29, kn := .plain, cf := (autoCfg true WRA PAN [] [] Try.f29), own := false, ones := [true], t := t29 }
theorem ok29 : EntOk Try.prog e29 := EntOk.ofPlain Try.func29 (by kernel_rfl) (by kernel_rfl)

/-- function 55 -/
noncomputable def t55 : T := (wrapBinds [(.ev (.bin .geq .int (.sym 0) (.sym 1))),
  (.ev (.guard (.sym 4) true (.bin .leq .int (.sym 0) (.sym 2)))),
  (.ev (.ite (.sym 4) (.sym 5) (.const (.v (.bool false)))))]
  (.ret (.tcons (.sym 6) (.tcons (.sym 3) .tnil))))
noncomputable def e55 : Entry := { f := 55, kn := .plain, cf := (autoCfg true WRA PAN [] [] Try.f55), own := false, ones := [true, true, true], t := t55 }
theorem ok55 : EntOk Try.prog e55 := EntOk.ofPlain Try.func55 (by kernel_rfl) (by kernel_rfl)

end Go.Am.Ap
