/-
  More functions as texts: the law AppealNil.
-/
import Derived.Test.YtnenlnmfoocpdaaApTab
set_option linter.unusedSimpArgs false
set_option linter.unusedVariables false
namespace Go.Am.Ap
open Go.Proofs


/-- function 15 -/
noncomputable def t15 : T := (wrapBinds [(.ev (.aggN 12 (.sym 0))),
  (.ev (.lenL (.cell 8 (.sym 4)))),
  (.ev (.bin .gtr .int (.sym 5) (.const (.v (.int .i64 25))))),
  (.wcall [((.sym 6), false)] 51 (.sym 3) [(.const (.v (.pointer none))), (.cons (.cell 0 (.sym 4)) (.cons (.cell 1 (.sym 4)) (.cons (.cell 2 (.sym 4)) (.cons (.cell 3 (.sym 4)) (.cons (.cell 4 (.sym 4)) (.cons (.cell 5 (.sym 4)) (.cons (.cell 6 (.sym 4)) (.cons (.cell 7 (.sym 4)) (.cons (.cell 8 (.sym 4)) (.cons (.cell 9 (.sym 4)) (.cons (.cell 10 (.sym 4)) (.cons (.cell 11 (.sym 4)) .nil)))))))))))), (.sym 1), (.sym 2)] [true]),
  (.ev (.guard (.sym 6) false (.tget 0 (.sym 7)))),
  (.ev (.guard (.sym 6) false (.guard (.sym 8) true (.cons (.const (.agg [(.v (.int .i64 0)), (.lst []), (.v (.int .i64 0)), (.v (.int .i64 0)), (.v (.int .i64 0)), (.v (.int .i64 0))])) (.cons (.const (.agg [(.v (.bool false))])) (.cons (.const (.agg [(.lst [])])) (.cons (.const (.agg [(.lst [])])) .nil))))))),
  (.ev (.guard (.sym 6) false (.guard (.sym 8) true (.mkptr (.aggN 9 (.sym 9)))))),
  (.wcall [((.sym 6), false), ((.sym 8), true)] 51 (.tget 1 (.sym 7)) [(.sym 10), (.cons (.cell 0 (.sym 4)) (.cons (.cell 1 (.sym 4)) (.cons (.cell 2 (.sym 4)) (.cons (.cell 3 (.sym 4)) (.cons (.cell 4 (.sym 4)) (.cons (.cell 5 (.sym 4)) (.cons (.cell 6 (.sym 4)) (.cons (.cell 7 (.sym 4)) (.cons (.cell 8 (.sym 4)) (.cons (.cell 9 (.sym 4)) (.cons (.cell 10 (.sym 4)) (.cons (.cell 11 (.sym 4)) .nil)))))))))))), (.sym 1), (.sym 2)] [true]),
  (.ev (.guard (.sym 6) false (.ite (.sym 8) (.tget 0 (.sym 11)) (.const (.v (.bool false)))))),
  (.call [((.sym 6), false), ((.sym 12), true)] 16 (.tget 1 (.sym 11)) [] [true]),
  (.ev (.guard (.sym 6) false (.ite (.sym 12) (.sym 13) (.const (.v (.bool false)))))),
  (.ev (.ite (.sym 6) (.const (.v (.bool true))) (.sym 14)))]
  (.ret (.tcons (.sym 15) (.tcons (.tget 1 (.sym 11)) .tnil))))
noncomputable def e15 : Entry := { f := 15, kn := .plain, cf := (autoCfg false WRA PAN [] [] Try.f15), own := false, ones := [false, true, true], t := t15 }
theorem ok15 : EntOk Try.prog e15 := EntOk.ofPlain Try.func15 (by kernel_rfl) (by kernel_rfl)

/-- function 51 -/
noncomputable def t51 : T := (wrapBinds [(.ev (.aggN 12 (.sym 1))),
  (.wcall [] 26 (.sym 4) [(.sym 0), (.cons (.cell 0 (.sym 5)) (.cons (.cell 1 (.sym 5)) (.cons (.cell 2 (.sym 5)) (.cons (.cell 3 (.sym 5)) (.cons (.cell 4 (.sym 5)) (.cons (.cell 5 (.sym 5)) (.cons (.cell 6 (.sym 5)) (.cons (.cell 7 (.sym 5)) (.cons (.cell 8 (.sym 5)) (.cons (.cell 9 (.sym 5)) (.cons (.cell 10 (.sym 5)) (.cons (.cell 11 (.sym 5)) .nil))))))))))))] [true, true]),
  (.call [] 31 (.tget 1 (.sym 6)) [(.sym 0), (.sym 2), (.sym 3)] [true, true]),
  (.wcall [] 32 (.tget 1 (.sym 6)) [(.sym 0), (.sym 2), (.sym 3)] [true, true, true]),
  (.wcall [] 49 (.tget 1 (.sym 8)) [(.sym 0), (.sym 2), (.sym 3)] [true, true]),
  (.call [] 45 (.tget 1 (.sym 9)) [(.sym 0), (.sym 2), (.sym 3)] [true, true]),
  (.call [] 47 (.tget 1 (.sym 9)) [(.sym 0), (.sym 3)] [true, true]),
  (.ev (.bin .neq .int (.tget 1 (.tget 0 (.sym 6))) (.const (.v (.int .i64 1))))),
  (.ev (.guard (.sym 12) false (.tget 1 (.sym 7)))),
  (.ev (.guard (.sym 12) false (.bin .neq .int (.sym 13) (.const (.v (.int .i64 1)))))),
  (.ev (.ite (.sym 12) (.const (.v (.bool true))) (.sym 14))),
  (.ev (.guard (.sym 15) false (.tget 2 (.tget 0 (.sym 8))))),
  (.ev (.guard (.sym 15) false (.bin .neq .int (.sym 16) (.const (.v (.int .i64 1)))))),
  (.ev (.ite (.sym 15) (.const (.v (.bool true))) (.sym 17))),
  (.ev (.guard (.sym 18) false (.tget 1 (.tget 0 (.sym 9))))),
  (.ev (.guard (.sym 18) false (.bin .neq .int (.sym 19) (.const (.v (.int .i64 1)))))),
  (.ev (.ite (.sym 18) (.const (.v (.bool true))) (.sym 20))),
  (.ev (.guard (.sym 21) false (.tget 1 (.sym 10)))),
  (.ev (.guard (.sym 21) false (.bin .neq .int (.sym 22) (.const (.v (.int .i64 1)))))),
  (.ev (.ite (.sym 21) (.const (.v (.bool true))) (.sym 23))),
  (.ev (.guard (.sym 24) false (.tget 1 (.sym 11)))),
  (.ev (.guard (.sym 24) false (.bin .neq .int (.sym 25) (.const (.v (.int .i64 1)))))),
  (.ev (.ite (.sym 24) (.const (.v (.bool true))) (.sym 26)))]
  (.ite (.sym 27) (.ret (.tcons (.const (.v (.bool false))) (.tcons (.tget 1 (.sym 9)) .tnil))) (wrapBinds [(.ev (.bin .eql .int (.tget 0 (.tget 0 (.sym 6))) (.const (.v (.int .i64 0))))),
  (.ev (.guard (.sym 28) true (.tget 0 (.sym 7)))),
  (.ev (.guard (.sym 28) true (.bin .eql .int (.sym 29) (.const (.v (.int .i64 0)))))),
  (.ev (.ite (.sym 28) (.sym 30) (.const (.v (.bool false))))),
  (.ev (.guard (.sym 31) true (.tget 0 (.tget 0 (.sym 8))))),
  (.ev (.guard (.sym 31) true (.bin .eql .int (.sym 32) (.const (.v (.int .i64 0)))))),
  (.ev (.ite (.sym 31) (.sym 33) (.const (.v (.bool false))))),
  (.ev (.guard (.sym 34) true (.tget 1 (.tget 0 (.sym 8))))),
  (.ev (.guard (.sym 34) true (.un .not (.sym 35)))),
  (.ev (.ite (.sym 34) (.sym 36) (.const (.v (.bool false))))),
  (.ev (.guard (.sym 37) true (.tget 0 (.tget 0 (.sym 9))))),
  (.ev (.guard (.sym 37) true (.lenL (.sym 38)))),
  (.ev (.guard (.sym 37) true (.bin .eql .int (.sym 39) (.const (.v (.int .i64 0)))))),
  (.ev (.ite (.sym 37) (.sym 40) (.const (.v (.bool false))))),
  (.ev (.guard (.sym 41) true (.tget 0 (.sym 10)))),
  (.ev (.guard (.sym 41) true (.bin .eql .int (.sym 42) (.const (.v (.int .i64 0)))))),
  (.ev (.ite (.sym 41) (.sym 43) (.const (.v (.bool false))))),
  (.ev (.guard (.sym 44) true (.tget 0 (.sym 11)))),
  (.ev (.guard (.sym 44) true (.lenL (.sym 45)))),
  (.ev (.guard (.sym 44) true (.bin .eql .int (.sym 46) (.const (.v (.int .i64 0)))))),
  (.ev (.ite (.sym 44) (.sym 47) (.const (.v (.bool false))))),
  (.call [((.sym 48), true)] 29 (.tget 1 (.sym 9)) [(.sym 0)] [true]),
  (.ev (.guard (.sym 48) true (.lenL (.sym 49)))),
  (.ev (.guard (.sym 48) true (.bin .eql .int (.sym 50) (.const (.v (.int .i64 0)))))),
  (.ev (.ite (.sym 48) (.sym 51) (.const (.v (.bool false)))))]
  (.ret (.tcons (.sym 52) (.tcons (.tget 1 (.sym 9)) .tnil))))))
noncomputable def e51 : Entry := { f := 51, kn := .plain, cf := (autoCfg false WRA PAN [] [] Try.f51), own := false, ones := [true, false, true, true], t := t51 }
theorem ok51 : EntOk Try.prog e51 := EntOk.ofPlain Try.func51 (by kernel_rfl) (by kernel_rfl)

/-- function 49 -/
noncomputable def t49 : T := (wrapBinds [(.call [] 74 (.sym 3) [(.sym 0), (.sym 1), (.sym 2)] [true]),
  (.ev (.bin .neq .int (.sym 4) (.const (.v (.int .i64 0)))))]
  (.ite (.sym 5) (.ret (.tcons (.tcons (.const (.lst [])) (.tcons (.sym 4) .tnil)) (.tcons (.sym 3) .tnil))) (wrapBinds [(.call [] 75 (.sym 3) [(.sym 0), (.sym 1), (.sym 2)] [true]),
  (.ev (.lenL (.sym 6)))]
  (.join 0 4 (.loop 1 [(.const .snil), (.const (.v (.int .i64 0))), (.sym 3)] (wrapBinds [(.ev (.bin .lss .int (.sym 9) (.sym 7)))]
  (.ite (.sym 11) (.join 2 15 (wrapBinds [(.ev (.eaddr 2 (.sym 6) (.sym 9))),
  (.ev (.ld true 2 (.sym 10) (.sym 12))),
  (.ev (.aggN 2 (.sym 13))),
  (.call [] 76 (.sym 10) [(.sym 0), (.cons (.cell 0 (.sym 14)) (.cons (.cell 1 (.sym 14)) .nil)), (.sym 2)] [true, true]),
  (.ev (.un .not (.tget 1 (.sym 15))))]
  (.ite (.sym 16) (.jump 2 [(.sym 8), (.tget 0 (.sym 15)), (.tget 1 (.sym 15)), (.sym 12), (.sym 13), (.tcons (.tget 0 (.sym 15)) (.tcons (.tget 1 (.sym 15)) .tnil)), (.cons (.cell 0 (.sym 14)) (.cons (.cell 1 (.sym 14)) .nil)), (.tcons (.tget 0 (.sym 15)) (.tcons (.tget 1 (.sym 15)) .tnil)), (.tget 0 (.sym 15)), (.tget 1 (.sym 15)), (.tget 1 (.sym 15)), (.sym 16), (.cell 0 (.sym 14)), (.cell 1 (.sym 14)), (.sym 10)]) (wrapBinds [(.ev (.lenL (.cell 1 (.sym 14))))]
  (.join 3 4 (.loop 4 [(.sym 8), (.const (.v (.int .i64 0))), (.sym 10)] (wrapBinds [(.ev (.bin .lss .int (.sym 19) (.sym 17)))]
  (.ite (.sym 21) (.join 5 13 (wrapBinds [(.ev (.eaddr 1 (.cell 1 (.sym 14)) (.sym 19))),
  (.ev (.ld false 1 (.sym 20) (.sym 22))),
  (.ev (.nn (.sym 0))),
  (.ev (.padd 7 (.sym 24))),
  (.ev (.ld false 1 (.sym 20) (.sym 25))),
  (.ev (.eaddr 12 (.sym 26) (.sym 23))),
  (.ev (.padd 1 (.sym 27))),
  (.ev (.ld false 1 (.sym 20) (.sym 28))),
  (.ev (.bin .leq .int (.sym 29) (.sym 2)))]
  (.join 6 2 (.ite (.sym 30) (wrapBinds [(.ev (.lcons (.scal (.sym 23)) (.const (.lst [])))),
  (.ev (.apph 3 1 8 (.sym 20) (.sym 18) (.sym 31)))]
  (.jump 6 [(.apps (.sym 20) (.sym 18) (.sym 31)), (.sym 32)])) (.jump 6 [(.sym 18), (.sym 20)])) (.jump 5 [(.sym 31), (.sym 23), (.sym 22), (.sym 23), (.sym 24), (.sym 25), (.sym 26), (.sym 23), (.sym 27), (.sym 28), (.sym 29), (.sym 30), (.sym 32)]))) (wrapBinds [(.ev (.bin .add .int (.sym 19) (.const (.v (.int .i64 1)))))]
  (.jump 4 [(.sym 22), (.sym 35), (.sym 34)]))) (.jump 3 [(.sym 18), (.sym 19), (.sym 21), (.sym 20)])))) (wrapBinds [(.ev (.nn (.sym 0))),
  (.ev (.padd 7 (.sym 22))),
  (.ev (.ld false 1 (.sym 21) (.sym 23))),
  (.ev (.eaddr 12 (.sym 24) (.cell 0 (.sym 14)))),
  (.ev (.padd 2 (.sym 25))),
  (.ev (.ld false 1 (.sym 21) (.sym 26))),
  (.ev (.newb 3 1 (.sym 21) (.const (.agg [(.v (.int .i64 0))])))),
  (.ev (.sto 1 (.sym 28) (.fstid (.sym 21)) (.sym 27))),
  (.ev (.m4 .same (.ld false 1 (.sym 21) (.sym 23)) (.ld false 1 (.sym 28) (.sym 23)) .nil .nil)),
  (.ev (.m4 .same (.ld false 1 (.sym 21) (.sym 26)) (.ld false 1 (.sym 28) (.sym 26)) .nil .nil)),
  (.ev (.nn (.sym 0))),
  (.ev (.padd 7 (.sym 32))),
  (.ev (.ld false 1 (.sym 29) (.sym 33))),
  (.ev (.mkfn 87 .tnil (.tcons (.fstid (.sym 21)) .tnil))),
  (.call [] 86 (.sym 29) [(.sym 34), (.sym 35)] [true]),
  (.ev (.lcons (.scal (.sym 36)) (.const (.lst [])))),
  (.ev (.apph 3 1 8 (.sym 29) (.sym 18) (.sym 37)))]
  (.jump 2 [(.apps (.sym 29) (.sym 18) (.sym 37)), (.tget 0 (.sym 15)), (.tget 1 (.sym 15)), (.sym 12), (.sym 13), (.tcons (.tget 0 (.sym 15)) (.tcons (.tget 1 (.sym 15)) .tnil)), (.cons (.cell 0 (.sym 14)) (.cons (.cell 1 (.sym 14)) .nil)), (.tcons (.tget 0 (.sym 15)) (.tcons (.tget 1 (.sym 15)) .tnil)), (.tget 0 (.sym 15)), (.tget 1 (.sym 15)), (.tget 1 (.sym 15)), (.sym 16), (.cell 0 (.sym 14)), (.cell 1 (.sym 14)), (.sym 38)])))))) (wrapBinds [(.ev (.bin .add .int (.sym 9) (.const (.v (.int .i64 1)))))]
  (.jump 1 [(.sym 12), (.sym 27), (.sym 26)]))) (.jump 0 [(.sym 8), (.sym 9), (.sym 11), (.sym 10)])))) (wrapBinds [(.wcall [] 88 (.sym 11) [(.sym 8)] []),
  (.wcall [] 89 (.tget 1 (.sym 12)) [(.sym 8)] [true])]
  (.ret (.tcons (.tcons (.tget 0 (.sym 13)) (.tcons (.const (.v (.int .i64 0))) .tnil)) (.tcons (.tget 1 (.sym 13)) .tnil))))))))
noncomputable def e49 : Entry := { f := 49, kn := .plain, cf := (autoCfg false (88 :: 89 :: WRA) PAN [9] [] Try.f49), own := false, ones := [true, true, true], t := t49 }
theorem ok49 : EntOk Try.prog e49 := EntOk.ofPlain Try.func49 (by kernel_rfl) (by kernel_rfl)

/-- function 31 -/
noncomputable def t31 : T := (wrapBinds [(.call [] 61 (.sym 3) [(.sym 0)] [true]),
  (.ev (.un .not (.sym 4)))]
  (.ite (.sym 5) (.ret (.tcons (.tcons (.const (.v (.int .i64 0))) (.tcons (.const (.v (.int .i64 1))) .tnil)) (.tcons (.sym 3) .tnil))) (wrapBinds [(.call [] 52 (.sym 3) [(.sym 2), (.const (.v (.int .i64 0))), (.const (.v (.int .i64 10000000)))] [true]),
  (.ev (.un .not (.sym 6)))]
  (.ite (.sym 7) (.ret (.tcons (.tcons (.const (.v (.int .i64 0))) (.tcons (.const (.v (.int .i64 2))) .tnil)) (.tcons (.sym 3) .tnil))) (wrapBinds [(.ev (.bin .lss .int (.sym 1) (.const (.v (.int .i64 0))))),
  (.ev (.guard (.sym 8) false (.nn (.sym 0)))),
  (.ev (.guard (.sym 8) false (.padd 8 (.sym 9)))),
  (.ev (.guard (.sym 8) false (.ld false 1 (.sym 3) (.sym 10)))),
  (.ev (.guard (.sym 8) false (.lenL (.sym 11)))),
  (.ev (.guard (.sym 8) false (.bin .geq .int (.sym 1) (.sym 12)))),
  (.ev (.ite (.sym 8) (.const (.v (.bool true))) (.sym 13))),
  (.ev (.guard (.sym 14) false (.nn (.sym 0)))),
  (.ev (.guard (.sym 14) false (.padd 8 (.sym 15)))),
  (.ev (.guard (.sym 14) false (.ld false 1 (.sym 3) (.sym 16)))),
  (.ev (.guard (.sym 14) false (.eaddr 2 (.sym 17) (.sym 1)))),
  (.ev (.guard (.sym 14) false (.ld true 2 (.sym 3) (.sym 18)))),
  (.call [((.sym 14), false)] 72 (.sym 3) [(.sym 0), (.sym 19), (.sym 2)] [true]),
  (.ev (.guard (.sym 14) false (.un .not (.sym 20)))),
  (.ev (.ite (.sym 14) (.const (.v (.bool true))) (.sym 21)))]
  (.ite (.sym 22) (.ret (.tcons (.tcons (.const (.v (.int .i64 0))) (.tcons (.const (.v (.int .i64 5))) .tnil)) (.tcons (.sym 3) .tnil))) (wrapBinds [(.ev (.nn (.sym 0))),
  (.ev (.padd 8 (.sym 23))),
  (.ev (.ld false 1 (.sym 3) (.sym 24))),
  (.ev (.eaddr 2 (.sym 25) (.sym 1))),
  (.ev (.ld true 2 (.sym 3) (.sym 26))),
  (.call [] 73 (.sym 3) [(.sym 0), (.sym 27), (.sym 2)] [true])]
  (.ret (.tcons (.tcons (.sym 28) (.tcons (.const (.v (.int .i64 0))) .tnil)) (.tcons (.sym 3) .tnil))))))))))
noncomputable def e31 : Entry := { f := 31, kn := .plain, cf := (autoCfg true WRA PAN [] [] Try.f31), own := false, ones := [true, true, true], t := t31 }
theorem ok31 : EntOk Try.prog e31 := EntOk.ofPlain Try.func31 (by kernel_rfl) (by kernel_rfl)

/-- function 45 -/
noncomputable def t45 : T := (wrapBinds [(.call [] 74 (.sym 3) [(.sym 0), (.sym 1), (.sym 2)] [true]),
  (.ev (.bin .neq .int (.sym 4) (.const (.v (.int .i64 0)))))]
  (.ite (.sym 5) (.ret (.tcons (.tcons (.const (.v (.int .i64 0))) (.tcons (.sym 4) .tnil)) (.tcons (.sym 3) .tnil))) (wrapBinds [(.ev (.nn (.sym 0))),
  (.ev (.padd 8 (.sym 6))),
  (.ev (.ld false 1 (.sym 3) (.sym 7))),
  (.ev (.lenL (.sym 8)))]
  (.join 0 3 (.loop 1 [(.const (.v (.int .i64 0))), (.const (.v (.int .i64 0)))] (wrapBinds [(.ev (.bin .lss .int (.sym 11) (.sym 9)))]
  (.ite (.sym 12) (.join 2 8 (wrapBinds [(.ev (.eaddr 2 (.sym 8) (.sym 11))),
  (.ev (.ld true 2 (.sym 3) (.sym 13))),
  (.ev (.aggN 2 (.sym 14))),
  (.call [] 72 (.sym 3) [(.sym 0), (.cons (.cell 0 (.sym 15)) (.cons (.cell 1 (.sym 15)) .nil)), (.sym 2)] [true]),
  (.ev (.un .not (.sym 16)))]
  (.ite (.sym 17) (.jump 2 [(.sym 10), (.sym 13), (.sym 14), (.cons (.cell 0 (.sym 15)) (.cons (.cell 1 (.sym 15)) .nil)), (.sym 16), (.sym 17), (.cell 0 (.sym 15)), (.cell 1 (.sym 15))]) (wrapBinds [(.ev (.lenL (.cell 1 (.sym 15))))]
  (.join 3 5 (.loop 4 [(.const (.v (.pointer none))), (.const (.v (.pointer none))), (.const (.v (.int .i64 0))), (.const (.v (.int .i64 0)))] (wrapBinds [(.ev (.bin .lss .int (.sym 22) (.sym 18)))]
  (.ite (.sym 23) (.join 5 23 (wrapBinds [(.ev (.eaddr 1 (.cell 1 (.sym 15)) (.sym 22))),
  (.ev (.ld false 1 (.sym 3) (.sym 24))),
  (.ev (.nn (.sym 0))),
  (.ev (.padd 7 (.sym 26))),
  (.ev (.ld false 1 (.sym 3) (.sym 27))),
  (.ev (.eaddr 12 (.sym 28) (.sym 25))),
  (.ev (.nn (.sym 29))),
  (.ev (.padd 1 (.sym 30))),
  (.ev (.ld false 1 (.sym 3) (.sym 31))),
  (.ev (.bin .gtr .int (.sym 32) (.sym 2)))]
  (.ite (.sym 33) (.jump 3 [(.sym 19), (.sym 20), (.sym 21), (.sym 22), (.sym 23)]) (wrapBinds [(.ev (.nn (.sym 29))),
  (.ev (.padd 0 (.sym 34))),
  (.ev (.ld false 1 (.sym 3) (.sym 35)))]
  (.join 6 5 (wrapBinds [(.ev (.bin .eql .int (.sym 36) (.const (.v (.int .i64 3)))))]
  (.join 7 3 (.ite (.sym 37) (.jump 7 [(.sym 29), (.sym 20), (.sym 21)]) (wrapBinds [(.ev (.bin .eql .int (.sym 36) (.const (.v (.int .i64 4)))))]
  (.join 8 2 (.ite (.sym 38) (wrapBinds [(.ev (.nn (.sym 29))),
  (.ev (.padd 4 (.sym 39))),
  (.ev (.ld false 1 (.sym 3) (.sym 40)))]
  (.jump 8 [(.sym 20), (.sym 41)])) (wrapBinds [(.ev (.bin .eql .int (.sym 36) (.const (.v (.int .i64 5)))))]
  (.join 9 1 (.ite (.sym 39) (.jump 9 [(.sym 29)]) (.jump 9 [(.sym 20)])) (.jump 8 [(.sym 40), (.sym 21)])))) (.jump 7 [(.sym 19), (.sym 39), (.sym 40)])))) (.jump 6 [(.sym 38), (.sym 39), (.sym 40), (.sym 37), (.sym 37)]))) (.jump 5 [(.sym 37), (.sym 38), (.sym 39), (.sym 25), (.sym 29), (.sym 24), (.sym 25), (.sym 26), (.sym 27), (.sym 28), (.sym 25), (.sym 29), (.sym 29), (.sym 30), (.sym 31), (.sym 32), (.sym 33), (.sym 29), (.sym 34), (.sym 35), (.sym 36), (.sym 40), (.sym 41)]))))) (wrapBinds [(.ev (.bin .add .int (.sym 22) (.const (.v (.int .i64 1)))))]
  (.jump 4 [(.sym 24), (.sym 25), (.sym 26), (.sym 47)]))) (.jump 3 [(.sym 19), (.sym 20), (.sym 21), (.sym 22), (.sym 23)])))) (wrapBinds [(.call [] 73 (.sym 3) [(.sym 0), (.cons (.cell 0 (.sym 15)) (.cons (.cell 1 (.sym 15)) .nil)), (.sym 2)] [true]),
  (.call [] 84 (.sym 3) [(.sym 0), (.cons (.cell 0 (.sym 15)) (.cons (.cell 1 (.sym 15)) .nil)), (.sym 2)] [false, true]),
  (.ev (.aggN 12 (.tget 0 (.sym 25)))),
  (.ev (.nn (.sym 0))),
  (.ev (.padd 7 (.sym 27))),
  (.ev (.ld false 1 (.sym 3) (.sym 28))),
  (.ev (.eaddr 12 (.sym 29) (.cell 0 (.sym 15)))),
  (.ev (.padd 4 (.sym 30))),
  (.ev (.ld false 1 (.sym 3) (.sym 31))),
  (.ev (.bin .eql .int (.sym 32) (.sym 1))),
  (.ev (.guard (.sym 33) true (.bin .neq .int (.sym 24) (.const (.v (.int .i64 2)))))),
  (.ev (.ite (.sym 33) (.sym 34) (.const (.v (.bool false))))),
  (.ev (.guard (.sym 35) true (.bin .eql .int (.sym 24) (.const (.v (.int .i64 5)))))),
  (.ev (.guard (.sym 35) true (.guard (.sym 36) true (.tget 1 (.sym 25))))),
  (.ev (.guard (.sym 35) true (.ite (.sym 36) (.sym 37) (.const (.v (.bool false)))))),
  (.ev (.guard (.sym 35) true (.guard (.sym 38) true (.cell 10 (.sym 26))))),
  (.ev (.guard (.sym 35) true (.ite (.sym 38) (.sym 39) (.const (.v (.bool false)))))),
  (.ev (.guard (.sym 35) true (.un .not (.sym 40)))),
  (.ev (.ite (.sym 35) (.sym 41) (.const (.v (.bool false)))))]
  (.join 3 1 (.ite (.sym 42) (wrapBinds [(.ev (.nn (.sym 0))),
  (.ev (.padd 0 (.sym 43))),
  (.ev (.padd 4 (.sym 44))),
  (.ev (.ld false 1 (.sym 3) (.sym 45))),
  (.ev (.bin .add .int (.sym 10) (.sym 46)))]
  (.jump 3 [(.sym 47)])) (.jump 3 [(.sym 10)])) (wrapBinds [(.ev (.bin .neq .ptr (.sym 20) (.const (.v (.pointer none))))),
  (.ev (.guard (.sym 44) true (.nn (.sym 20)))),
  (.ev (.guard (.sym 44) true (.padd 10 (.sym 45)))),
  (.ev (.guard (.sym 44) true (.ld false 1 (.sym 3) (.sym 46)))),
  (.ev (.guard (.sym 44) true (.nn (.sym 19)))),
  (.ev (.guard (.sym 44) true (.padd 10 (.sym 48)))),
  (.ev (.guard (.sym 44) true (.ld false 1 (.sym 3) (.sym 49)))),
  (.ev (.guard (.sym 44) true (.bin .neq .bool (.sym 47) (.sym 50)))),
  (.ev (.guard (.sym 44) true (.guard (.sym 51) false (.nn (.sym 20))))),
  (.ev (.guard (.sym 44) true (.guard (.sym 51) false (.padd 11 (.sym 52))))),
  (.ev (.guard (.sym 44) true (.guard (.sym 51) false (.ld false 1 (.sym 3) (.sym 53))))),
  (.ev (.guard (.sym 44) true (.guard (.sym 51) false (.nn (.sym 19))))),
  (.ev (.guard (.sym 44) true (.guard (.sym 51) false (.padd 11 (.sym 55))))),
  (.ev (.guard (.sym 44) true (.guard (.sym 51) false (.ld false 1 (.sym 3) (.sym 56))))),
  (.ev (.guard (.sym 44) true (.guard (.sym 51) false (.bin .neq .int (.sym 54) (.sym 57))))),
  (.ev (.guard (.sym 44) true (.ite (.sym 51) (.const (.v (.bool true))) (.sym 58)))),
  (.ev (.ite (.sym 44) (.sym 59) (.const (.v (.bool false))))),
  (.ev (.bin .eql .int (.sym 21) (.sym 1))),
  (.ev (.guard (.sym 61) true (.un .not (.sym 60)))),
  (.ev (.ite (.sym 61) (.sym 62) (.const (.v (.bool false)))))]
  (.join 3 1 (.ite (.sym 63) (wrapBinds [(.ev (.nn (.sym 0))),
  (.ev (.padd 0 (.sym 64))),
  (.ev (.padd 5 (.sym 65))),
  (.ev (.ld false 1 (.sym 3) (.sym 66))),
  (.ev (.bin .add .int (.sym 43) (.sym 67)))]
  (.jump 3 [(.sym 68)])) (.jump 3 [(.sym 43)])) (.jump 2 [(.sym 64), (.sym 13), (.sym 14), (.cons (.cell 0 (.sym 15)) (.cons (.cell 1 (.sym 15)) .nil)), (.sym 16), (.sym 17), (.cell 0 (.sym 15)), (.cell 1 (.sym 15))]))))))))) (wrapBinds [(.ev (.bin .add .int (.sym 11) (.const (.v (.int .i64 1)))))]
  (.jump 1 [(.sym 13), (.sym 21)]))) (.jump 0 [(.sym 10), (.sym 11), (.sym 12)])))) (.ret (.tcons (.tcons (.sym 10) (.tcons (.const (.v (.int .i64 0))) .tnil)) (.tcons (.sym 3) .tnil)))))))
noncomputable def e45 : Entry := { f := 45, kn := .plain, cf := (autoCfg true WRA PAN [] [] Try.f45), own := false, ones := [true, true, true], t := t45 }
theorem ok45 : EntOk Try.prog e45 := EntOk.ofPlain Try.func45 (by kernel_rfl) (by kernel_rfl)

/-- function 47 -/
noncomputable def t47 : T := (wrapBinds [(.call [] 74 (.sym 2) [(.sym 0), (.const (.v (.int .i64 1))), (.sym 1)] [true]),
  (.ev (.bin .neq .int (.sym 3) (.const (.v (.int .i64 0)))))]
  (.ite (.sym 4) (.ret (.tcons (.tcons (.const (.lst [])) (.tcons (.sym 3) .tnil)) (.tcons (.sym 2) .tnil))) (wrapBinds [(.ev (.nn (.sym 0))),
  (.ev (.padd 8 (.sym 5))),
  (.ev (.ld false 1 (.sym 2) (.sym 6))),
  (.ev (.lenL (.sym 7)))]
  (.join 0 3 (.loop 1 [(.const (.lst [])), (.const (.v (.int .i64 0)))] (wrapBinds [(.ev (.bin .lss .int (.sym 10) (.sym 8)))]
  (.ite (.sym 11) (.join 2 13 (wrapBinds [(.ev (.eaddr 2 (.sym 7) (.sym 10))),
  (.ev (.ld true 2 (.sym 2) (.sym 12))),
  (.ev (.aggN 2 (.sym 13))),
  (.ev (.bin .add .int (.sym 10) (.const (.v (.int .i64 1)))))]
  (.join 3 8 (.loop 4 [(.sym 9), (.sym 15)] (wrapBinds [(.ev (.nn (.sym 0))),
  (.ev (.padd 8 (.sym 18))),
  (.ev (.ld false 1 (.sym 2) (.sym 19))),
  (.ev (.lenL (.sym 20))),
  (.ev (.bin .lss .int (.sym 17) (.sym 21)))]
  (.ite (.sym 22) (.join 5 7 (wrapBinds [(.ev (.nn (.sym 0))),
  (.ev (.padd 8 (.sym 23))),
  (.ev (.ld false 1 (.sym 2) (.sym 24))),
  (.ev (.eaddr 2 (.sym 25) (.sym 17))),
  (.ev (.ld true 2 (.sym 2) (.sym 26))),
  (.call [] 85 (.sym 2) [(.sym 0), (.cons (.cell 0 (.sym 14)) (.cons (.cell 1 (.sym 14)) .nil)), (.sym 27), (.sym 1)] [true])]
  (.join 6 1 (.ite (.sym 28) (wrapBinds [(.ev (.cons (.scal (.sym 10)) (.cons (.scal (.sym 17)) .nil))),
  (.ev (.lcons (.aggN 2 (.sym 29)) (.const (.lst [])))),
  (.ev (.app 2 16 (.sym 16) (.sym 30)))]
  (.jump 6 [(.sym 31)])) (.jump 6 [(.sym 16)])) (.jump 5 [(.sym 29), (.sym 23), (.sym 24), (.sym 25), (.sym 26), (.sym 27), (.sym 28)]))) (wrapBinds [(.ev (.bin .add .int (.sym 17) (.const (.v (.int .i64 1)))))]
  (.jump 4 [(.sym 23), (.sym 30)]))) (.jump 3 [(.sym 16), (.sym 17), (.sym 17), (.sym 18), (.sym 19), (.sym 20), (.sym 21), (.sym 22)])))) (.jump 2 [(.sym 16), (.sym 17), (.sym 12), (.sym 13), (.sym 15), (.sym 18), (.sym 19), (.sym 20), (.sym 21), (.sym 22), (.sym 23), (.cell 0 (.sym 14)), (.cell 1 (.sym 14))]))) (wrapBinds [(.ev (.bin .add .int (.sym 10) (.const (.v (.int .i64 1)))))]
  (.jump 1 [(.sym 12), (.sym 25)]))) (.jump 0 [(.sym 9), (.sym 10), (.sym 11)])))) (.ret (.tcons (.tcons (.sym 9) (.tcons (.const (.v (.int .i64 0))) .tnil)) (.tcons (.sym 2) .tnil)))))))
noncomputable def e47 : Entry := { f := 47, kn := .plain, cf := (autoCfg true WRA PAN [] [] Try.f47), own := false, ones := [true, true], t := t47 }
theorem ok47 : EntOk Try.prog e47 := EntOk.ofPlain Try.func47 (by kernel_rfl) (by kernel_rfl)

end Go.Am.Ap
