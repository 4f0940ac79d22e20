/-
  Several texts, one behind the other.
-/
import Derived.Test.YtnenlnmfoocpdaaAmFntoAmSt2
import Derived.Test.YtnenlnmfoocpdaaApTab
set_option linter.unusedSimpArgs false
set_option linter.unusedVariables false
/-
  The laws, as texts.
-/
namespace Go.Am.Ap
open Go.Proofs

noncomputable def u24 : U := (ups [.chk (.aggN 6 (.sym 0)),
  .call 41 (.sym 1) [(agc 6 (.sym 0))] [true],
  .ev (.bin .neq .int (.sym 2) (ki 0))]
  (.ite (.sym 3) (.ret (.tcons (.tcons (.const (.v (.pointer none))) (.tcons (.sym 2) .tnil)) (.tcons (.sym 1) .tnil))) (ups [.call 56 (.sym 1) [(.cell 1 (.sym 0))] [true],
  .ev (.cons (.aggN 6 (.cons (.cell 0 (.sym 0)) (.cons (.sym 4) (.cons (.cell 2 (.sym 0)) (.cons (.cell 3 (.sym 0)) (.cons (.cell 4 (.sym 0)) (.cons (.cell 5 (.sym 0)) .nil))))))) (.cons (.scal (kb true)) (.cons (.const (.agg [.snil])) (.cons (.const (.agg [.snil])) .nil)))),
  .ev (.newb 99 9 (.sym 1) (.aggN 9 (.sym 5)))]
  (.ret (.tcons (.tcons (.fstid (.sym 1)) (.tcons (ki 0) .tnil)) (.tcons (.sym 6) .tnil))))))
theorem ku24 : UOk Try.prog 24 .plain { autoCfg false WRA PAN [16] [] Try.f24 with nils := true } [false] u24 := UOk.plain Try.func24 (by kernel_rfl) (by kernel_rfl)

noncomputable def u4 : U := (ups [.chk (.aggN 6 (.sym 0)),
  .call 21 (.sym 2) [(agc 6 (.sym 0))] [true],
  .ev (.un .not (.sym 3)),
  .chain true (.sym 4) (ups [.call 22 (.sym 2) [(.sym 1), (ki 25)] [true],
  .ev (.un .not (.sym 5))]
  (.ret (.sym 6))),
  .chain true (.sym 5) (ups [.call 23 (.sym 2) [(agc 6 (.sym 0))] [true],
  .ev (.un .not (.sym 6))]
  (.ret (.sym 7)))]
  (.ite (.sym 6) (ups [.call 16 (.sym 2) [] [true]]
  (.ret (.tcons (.sym 7) (.tcons (.sym 2) .tnil)))) (ups [.wcall 24 (.sym 2) [(agc 6 (.sym 0))] [true, true],
  .ev (.bin .neq .int (.tget 1 (.sym 7)) (ki 0)),
  .chain true (.sym 9) (ups [.chk (.tget 0 (.sym 7)),
  .ev (.bin .eql .ptr (.tget 0 (.sym 7)) (.const (.v (.pointer none))))]
  (.ret (.sym 10)))]
  (.ite (.sym 10) (.ret (.tcons (kb false) (.tcons (.sym 8) .tnil))) (ups [.join 0 1 (.loop 1 [(.const (.lst [])), (ki 0), (.sym 8)] (ups [.ev (.lenL (.sym 1)),
  .ev (.bin .lss .int (.sym 12) (.sym 14))]
  (.ite (.sym 15) (ups [.join 2 2 (ups [.ev (.eaddr 12 (.sym 1) (.sym 12)),
  .ev (.ld true 12 (.sym 13) (.sym 16)),
  .call 25 (.sym 13) [(agc 6 (.sym 0)), (.sym 11), (.sym 17)] [true],
  .ev (.eaddr 12 (.sym 1) (.sym 12)),
  .ev (.ld true 12 (.sym 13) (.sym 19)),
  .wcall 26 (.sym 13) [(.tget 0 (.sym 7)), (.sym 20)] [true, true],
  .ev (.bin .neq .int (.tget 1 (.sym 21)) (.sym 18))]
  (.ite (.sym 23) (.ret (.tcons (kb false) (.tcons (.sym 22) .tnil))) (ups [.ev (.bin .eql .int (.sym 18) (ki 0)),
  .join 3 3 (.ite (.sym 24) (ups [.ev (.eaddr 12 (.sym 1) (.sym 12)),
  .ev (.ld true 12 (.sym 22) (.sym 25)),
  .ev (.lcons (.aggN 12 (.sym 26)) (.const (.lst []))),
  .ev (.app 12 112 (.sym 11) (.sym 27)),
  .ev (.eaddr 12 (.sym 1) (.sym 12)),
  .chk (.padd 0 (.sym 29)),
  .ev (.ld false 1 (.sym 22) (.padd 0 (.sym 29))),
  .join 4 1 (ups [.ev (.bin .eql .int (.sym 30) (ki 1)),
  .join 5 1 (.ite (.sym 31) (.jump 5 [(ki (-1))] []) (ups [.ev (.bin .eql .int (.sym 30) (ki 2)),
  .join 6 1 (.ite (.sym 32) (ups [.call 27 (.sym 22) [(.sym 28)] [true],
  .ev (.lenL (.sym 33)),
  .ev (.bin .sub .int (.sym 34) (ki 1))]
  (.jump 6 [(.sym 35)] [])) (ups [.ev (.eaddr 12 (.sym 1) (.sym 12)),
  .chk (.padd 3 (.sym 33)),
  .ev (.ld false 1 (.sym 22) (.padd 3 (.sym 33)))]
  (.jump 6 [(.sym 34)] [])))]
  (.jump 5 [(.sym 33)] [])))]
  (.jump 4 [(.sym 32)] []))]
  (.jump 3 [(.sym 28), (.sym 31), (.sym 11)] [])) (.jump 3 [(.sym 11), (ki 0), (.sym 11)] [])),
  .ev (.bin .neq .int (.tget 0 (.sym 21)) (.sym 26)),
  .chain true (.sym 28) (ups [.chk (.tget 0 (.sym 7)),
  .call 29 (.sym 22) [(.tget 0 (.sym 7))] [true],
  .call 28 (.sym 22) [(.sym 29), (.sym 25)] [true],
  .ev (.un .not (.sym 30))]
  (.ret (.sym 31)))]
  (.ite (.sym 29) (.ret (.tcons (kb false) (.tcons (.sym 22) .tnil))) (.jump 2 [(.sym 25), (.sym 22)] [(.tget 0 (.sym 21)), (.tget 1 (.sym 21)), (.tcons (.tget 0 (.sym 21)) (.tcons (.tget 1 (.sym 21)) .tnil)), (.tcons (.tget 0 (.sym 21)) (.tcons (.tget 1 (.sym 21)) .tnil)), (.tget 0 (.sym 21)), (.tget 1 (.sym 21)), (.tget 1 (.sym 21)), (.tget 0 (.sym 21))]))))),
  .ev (.bin .add .int (.sym 12) (ki 1))]
  (.jump 1 [(.sym 16), (.sym 18), (.sym 17)] [])) (.jump 0 [(.sym 13)] [])))),
  .call 16 (.sym 11) [] [true]]
  (.ret (.tcons (.sym 12) (.tcons (.sym 11) .tnil))))))))
theorem ku4 : UOk Try.prog 4 .plain (autoCfg false WRA PAN [] [] Try.f4) [false, true] u4 := UOk.plain Try.func4 (by kernel_rfl) (by kernel_rfl)

end Go.Am.Ap

/-
  The specification's functions, as texts.
-/
namespace Go.Am.Ap
open Go.Proofs

noncomputable def u22 : U := (ups [.join 0 0 (.loop 1 [(ki 0)] (ups [.ev (.lenL (.sym 0)),
  .ev (.bin .lss .int (.sym 3) (.sym 4)),
  .chain false (.sym 5) (ups [.ev (.bin .leq .int (.sym 3) (.sym 1))]
  (.ret (.sym 6)))]
  (.ite (.sym 6) (ups [.join 2 0 (ups [.ev (.eaddr 12 (.sym 0) (.sym 3)),
  .chk (.padd 8 (.sym 7)),
  .ev (.ld false 1 (.sym 2) (.padd 8 (.sym 7))),
  .ev (.lenL (.sym 8)),
  .ev (.bin .gtr .int (.sym 9) (ki 25))]
  (.ite (.sym 10) (.ret (.tcons (kb false) (.tcons (.sym 2) .tnil))) (.jump 2 [] []))),
  .ev (.bin .add .int (.sym 3) (ki 1))]
  (.jump 1 [(.sym 7)] [])) (.jump 0 [] [])))),
  .ev (.lenL (.sym 0)),
  .ev (.bin .leq .int (.sym 3) (.sym 1))]
  (.ret (.tcons (.sym 4) (.tcons (.sym 2) .tnil))))
theorem ku22 : UOk Try.prog 22 .plain (autoCfg true WRA PAN [] [] Try.f22) [true, true] u22 := UOk.plain Try.func22 (by kernel_rfl) (by kernel_rfl)

noncomputable def u25 : U := (ups [.chk (.aggN 6 (.sym 0)),
  .chk (.aggN 12 (.sym 2)),
  .call 57 (.sym 3) [(agc 6 (.sym 0)), (agc 12 (.sym 2))] [true],
  .ev (.un .not (.sym 4)),
  .chain true (.sym 5) (ups [.ev (.lenL (.sym 1)),
  .ev (.bin .gtr .int (.sym 6) (ki 0)),
  .chain false (.sym 7) (ups [.chk (.cell 1 (.sym 2)),
  .ev (.lenL (.sym 1)),
  .ev (.bin .sub .int (.sym 8) (ki 1)),
  .ev (.eaddr 12 (.sym 1) (.sym 9)),
  .chk (.padd 1 (.sym 10)),
  .ev (.ld false 1 (.sym 3) (.padd 1 (.sym 10))),
  .ev (.bin .lss .int (.cell 1 (.sym 2)) (.sym 11))]
  (.ret (.sym 12)))]
  (.ret (.sym 8)))]
  (.ite (.sym 6) (.ret (.tcons (ki 2) (.tcons (.sym 3) .tnil))) (ups [.ev (.lenL (.sym 1)),
  .ev (.bin .geq .int (.sym 7) (ki 2000))]
  (.ite (.sym 8) (.ret (.tcons (ki 4) (.tcons (.sym 3) .tnil))) (ups [.ev (.bin .eql .int (.cell 0 (.sym 2)) (ki 1))]
  (.ite (.sym 9) (ups [.call 58 (.sym 3) [(.sym 1), (.cell 2 (.sym 2))] [true],
  .ev (.bin .geq .int (.sym 10) (ki 0))]
  (.ite (.sym 11) (.ret (.tcons (ki 6) (.tcons (.sym 3) .tnil))) (.ret (.tcons (ki 0) (.tcons (.sym 3) .tnil))))) (ups [.ev (.bin .eql .int (.cell 0 (.sym 2)) (ki 2))]
  (.ite (.sym 10) (ups [.call 58 (.sym 3) [(.sym 1), (.cell 2 (.sym 2))] [true],
  .call 40 (.sym 3) [(agc 6 (.sym 0)), (.cell 6 (.sym 2)), (.cell 7 (.sym 2))] [false, true],
  .chk (.aggN 4 (.tget 0 (.sym 12))),
  .ev (.bin .lss .int (.sym 11) (ki 0)),
  .chain true (.sym 13) (ups [.chk (.tget 1 (.sym 12)),
  .ev (.un .not (.tget 1 (.sym 12)))]
  (.ret (.sym 14)))]
  (.ite (.sym 14) (.ret (.tcons (ki 5) (.tcons (.sym 3) .tnil))) (ups [.ev (.eaddr 12 (.sym 1) (.sym 11)),
  .chk (.padd 1 (.sym 15)),
  .ev (.ld false 1 (.sym 3) (.padd 1 (.sym 15))),
  .ev (.bin .sub .int (.cell 1 (.sym 2)) (.sym 16)),
  .ev (.bin .gtr .int (.sym 17) (.cell 2 (.sym 0)))]
  (.ite (.sym 18) (.ret (.tcons (ki 8) (.tcons (.sym 3) .tnil))) (ups [.ev (.bin .neq .int (.cell 9 (.sym 2)) (.cell 4 (.sym 0)))]
  (.ite (.sym 19) (.ret (.tcons (ki 7) (.tcons (.sym 3) .tnil))) (.ret (.tcons (ki 0) (.tcons (.sym 3) .tnil))))))))) (ups [.call 27 (.sym 3) [(.sym 1)] [true],
  .ev (.lenL (.sym 11)),
  .ev (.bin .geq .int (.cell 3 (.sym 2)) (.sym 12))]
  (.ite (.sym 13) (.ret (.tcons (ki 5) (.tcons (.sym 3) .tnil))) (ups [.ev (.eaddr 1 (.sym 11) (.cell 3 (.sym 2))),
  .ev (.ld false 1 (.sym 3) (.sym 14)),
  .ev (.eaddr 12 (.sym 1) (.sym 15)),
  .ev (.ld true 12 (.sym 3) (.sym 16)),
  .chk (.aggN 12 (.sym 17)),
  .call 59 (.sym 3) [(.sym 1), (ki 6), (.cell 3 (.sym 2)), (ki 10000000)] [true],
  .ev (.bin .geq .int (.sym 18) (ki 0)),
  .call 59 (.sym 3) [(.sym 1), (ki 3), (.cell 3 (.sym 2)), (ki 10000000)] [true],
  .call 59 (.sym 3) [(.sym 1), (ki 4), (.cell 3 (.sym 2)), (ki 10000000)] [true],
  .ev (.bin .geq .int (.sym 21) (ki 0)),
  .call 59 (.sym 3) [(.sym 1), (ki 5), (.cell 3 (.sym 2)), (ki 10000000)] [true],
  .ev (.bin .geq .int (.sym 23) (ki 0)),
  .join 0 0 (ups [.ev (.bin .eql .int (.cell 0 (.sym 2)) (ki 3)),
  .join 1 0 (.ite (.sym 25) (ups [.chain true (.sym 19) (ups [.ev (.bin .geq .int (.sym 20) (ki 0))]
  (.ret (.sym 26)))]
  (.ite (.sym 26) (.ret (.tcons (ki 6) (.tcons (.sym 3) .tnil))) (ups [.call 60 (.sym 3) [(agc 6 (.sym 0)), (.sym 1), (agc 12 (.sym 2))] [true],
  .ev (.un .not (.sym 27))]
  (.ite (.sym 28) (.ret (.tcons (ki 7) (.tcons (.sym 3) .tnil))) (.jump 1 [] []))))) (ups [.ev (.bin .eql .int (.cell 0 (.sym 2)) (ki 4)),
  .join 2 0 (.ite (.sym 26) (ups [.ev (.bin .lss .int (.sym 20) (ki 0)),
  .ev (.ite (.sym 27) (kb true) (.sym 22))]
  (.ite (.sym 28) (.ret (.tcons (ki 6) (.tcons (.sym 3) .tnil))) (ups [.ev (.bin .neq .int (.cell 4 (.sym 2)) (.cell 4 (.sym 17))),
  .chain false (.sym 29) (ups [.chk (.cell 4 (.sym 2)),
  .chk (.cell 5 (.sym 17)),
  .ev (.bin .neq .int (.cell 4 (.sym 2)) (.cell 5 (.sym 17)))]
  (.ret (.sym 30)))]
  (.ite (.sym 30) (.ret (.tcons (ki 7) (.tcons (.sym 3) .tnil))) (ups [.ev (.eaddr 12 (.sym 1) (.sym 20)),
  .chk (.padd 1 (.sym 31)),
  .ev (.ld false 1 (.sym 3) (.padd 1 (.sym 31))),
  .ev (.bin .sub .int (.cell 1 (.sym 2)) (.sym 32)),
  .ev (.bin .gtr .int (.sym 33) (.cell 3 (.sym 0)))]
  (.ite (.sym 34) (.ret (.tcons (ki 8) (.tcons (.sym 3) .tnil))) (ups [.ev (.bin .neq .int (.cell 9 (.sym 2)) (.cell 5 (.sym 0)))]
  (.ite (.sym 35) (.ret (.tcons (ki 7) (.tcons (.sym 3) .tnil))) (.jump 2 [] []))))))))) (ups [.ev (.bin .eql .int (.cell 0 (.sym 2)) (ki 5)),
  .join 3 0 (.ite (.sym 27) (ups [.ev (.un .not (.sym 22)),
  .ev (.ite (.sym 28) (kb true) (.sym 24))]
  (.ite (.sym 29) (.ret (.tcons (ki 6) (.tcons (.sym 3) .tnil))) (ups [.call 60 (.sym 3) [(agc 6 (.sym 0)), (.sym 1), (agc 12 (.sym 2))] [true],
  .ev (.un .not (.sym 30))]
  (.ite (.sym 31) (.ret (.tcons (ki 7) (.tcons (.sym 3) .tnil))) (.jump 3 [] []))))) (ups [.ev (.bin .eql .int (.cell 0 (.sym 2)) (ki 6)),
  .join 4 0 (.ite (.sym 28) (ups [.chain true (.sym 19) (ups [.ev (.bin .geq .int (.sym 20) (ki 0))]
  (.ret (.sym 29)))]
  (.ite (.sym 29) (.ret (.tcons (ki 6) (.tcons (.sym 3) .tnil))) (ups [.ev (.bin .neq .int (.cell 4 (.sym 2)) (.cell 4 (.sym 17)))]
  (.ite (.sym 30) (.ret (.tcons (ki 7) (.tcons (.sym 3) .tnil))) (.jump 4 [] []))))) (.jump 4 [] []))]
  (.jump 3 [] [])))]
  (.jump 2 [] [])))]
  (.jump 1 [] [])))]
  (.jump 0 [] []))]
  (.ret (.tcons (ki 0) (.tcons (.sym 3) .tnil))))))))))))))
theorem ku25 : UOk Try.prog 25 .plain (autoCfg true WRA PAN [] [] Try.f25) [false, true, false] u25 := UOk.plain Try.func25 (by kernel_rfl) (by kernel_rfl)

noncomputable def u27 : U := (ups [.join 0 1 (.loop 1 [(.const (.lst [])), (ki 0)] (ups [.ev (.lenL (.sym 0)),
  .ev (.bin .lss .int (.sym 3) (.sym 4))]
  (.ite (.sym 5) (ups [.join 2 1 (ups [.ev (.eaddr 12 (.sym 0) (.sym 3)),
  .chk (.padd 0 (.sym 6)),
  .ev (.ld false 1 (.sym 1) (.padd 0 (.sym 6))),
  .ev (.bin .eql .int (.sym 7) (ki 2)),
  .join 3 1 (.ite (.sym 8) (ups [.ev (.lcons (.scal (.sym 3)) (.const (.lst []))),
  .ev (.app 1 8 (.sym 2) (.sym 9))]
  (.jump 3 [(.sym 10)] [])) (.jump 3 [(.sym 2)] []))]
  (.jump 2 [(.sym 9)] [])),
  .ev (.bin .add .int (.sym 3) (ki 1))]
  (.jump 1 [(.sym 6), (.sym 7)] [])) (.jump 0 [(.sym 2)] []))))]
  (.ret (.tcons (.sym 2) (.tcons (.sym 1) .tnil))))
theorem ku27 : UOk Try.prog 27 .plain (autoCfg true WRA PAN [] [] Try.f27) [true] u27 := UOk.plain Try.func27 (by kernel_rfl) (by kernel_rfl)

noncomputable def u28 : U := (ups [.ev (.lenL (.sym 0)),
  .ev (.lenL (.sym 1)),
  .ev (.bin .neq .int (.sym 3) (.sym 4))]
  (.ite (.sym 5) (.ret (.tcons (kb false) (.tcons (.sym 2) .tnil))) (ups [.join 0 0 (.loop 1 [(ki 0)] (ups [.ev (.lenL (.sym 0)),
  .ev (.bin .lss .int (.sym 6) (.sym 7))]
  (.ite (.sym 8) (ups [.join 2 0 (ups [.ev (.eaddr 12 (.sym 0) (.sym 6)),
  .ev (.ld true 12 (.sym 2) (.sym 9)),
  .ev (.eaddr 12 (.sym 1) (.sym 6)),
  .ev (.ld true 12 (.sym 2) (.sym 11)),
  .call 71 (.sym 2) [(.sym 10), (.sym 12)] [true],
  .ev (.un .not (.sym 13))]
  (.ite (.sym 14) (.ret (.tcons (kb false) (.tcons (.sym 2) .tnil))) (.jump 2 [] []))),
  .ev (.bin .add .int (.sym 6) (ki 1))]
  (.jump 1 [(.sym 9)] [])) (.jump 0 [] []))))]
  (.ret (.tcons (kb true) (.tcons (.sym 2) .tnil))))))
theorem ku28 : UOk Try.prog 28 .plain (autoCfg true WRA PAN [] [] Try.f28) [true, true] u28 := UOk.plain Try.func28 (by kernel_rfl) (by kernel_rfl)

noncomputable def u57 : U := (ups [.chk (.aggN 6 (.sym 0)),
  .chk (.aggN 12 (.sym 1)),
  .call 55 (.sym 2) [(.cell 1 (.sym 1)), (ki 0), (ki 10000000)] [true],
  .ev (.un .not (.sym 3))]
  (.ite (.sym 4) (.ret (.tcons (kb false) (.tcons (.sym 2) .tnil))) (ups [.ev (.cons (.scal (.cell 0 (.sym 1))) (.cons (.scal (.cell 1 (.sym 1))) (.cons (.const (.agg [(.v (.int .i64 0))])) (.cons (.const (.agg [(.v (.int .i64 0))])) (.cons (.const (.agg [(.v (.int .i64 0))])) (.cons (.const (.agg [(.v (.int .i64 0))])) (.cons (.const (.agg [(.v (.int .i64 0))])) (.cons (.const (.agg [(.v (.int .i64 0))])) (.cons (.const (.agg [(.lst [])])) (.cons (.const (.agg [(.v (.int .i64 0))])) (.cons (.const (.agg [(.v (.bool false))])) (.cons (.const (.agg [(.v (.int .i64 0))])) .nil)))))))))))),
  .chk (.aggN 12 (.sym 5)),
  .join 0 11 (ups [.ev (.bin .eql .int (.cell 0 (.sym 1)) (ki 1)),
  .join 1 11 (.ite (.sym 6) (ups [.call 55 (.sym 2) [(.cell 2 (.sym 1)), (ki 1), (ki 1000000)] [true]]
  (.jump 1 [(.sym 7), (.cell 2 (.sym 1)), (.cell 3 (.sym 5)), (.cell 4 (.sym 5)), (.cell 5 (.sym 5)), (.cell 6 (.sym 5)), (.cell 7 (.sym 5)), (.cell 8 (.sym 5)), (.cell 9 (.sym 5)), (.cell 10 (.sym 5)), (.cell 11 (.sym 5))] [])) (ups [.ev (.bin .eql .int (.cell 0 (.sym 1)) (ki 2)),
  .join 2 11 (.ite (.sym 7) (ups [.call 55 (.sym 2) [(.cell 4 (.sym 1)), (ki 1), (.cell 0 (.sym 0))] [true],
  .chain false (.sym 8) (ups [.chk (.cell 5 (.sym 1)),
  .chk (.cell 0 (.sym 0)),
  .call 55 (.sym 2) [(.cell 5 (.sym 1)), (ki 1), (.cell 0 (.sym 0))] [true]]
  (.ret (.sym 9))),
  .chain false (.sym 9) (ups [.chk (.cell 4 (.sym 1)),
  .chk (.cell 5 (.sym 1)),
  .ev (.bin .neq .int (.cell 4 (.sym 1)) (.cell 5 (.sym 1)))]
  (.ret (.sym 10))),
  .chain false (.sym 10) (ups [.chk (.cell 2 (.sym 1)),
  .call 55 (.sym 2) [(.cell 2 (.sym 1)), (ki 1), (ki 1000000)] [true]]
  (.ret (.sym 11))),
  .chain false (.sym 11) (ups [.chk (.cell 6 (.sym 1)),
  .call 55 (.sym 2) [(.cell 6 (.sym 1)), (ki 1), (ki 10000)] [true]]
  (.ret (.sym 12))),
  .chain false (.sym 12) (ups [.chk (.cell 7 (.sym 1)),
  .chk (.cell 1 (.sym 1)),
  .call 55 (.sym 2) [(.cell 7 (.sym 1)), (ki 0), (.cell 1 (.sym 1))] [true]]
  (.ret (.sym 13))),
  .chain false (.sym 13) (ups [.chk (.cell 8 (.sym 1)),
  .call 94 (.sym 2) [(.cell 8 (.sym 1))] [true]]
  (.ret (.sym 14))),
  .chain false (.sym 14) (ups [.chk (.cell 9 (.sym 1)),
  .call 55 (.sym 2) [(.cell 9 (.sym 1)), (ki 0), (ki 1000000000)] [true]]
  (.ret (.sym 15)))]
  (.jump 2 [(.sym 15), (.cell 2 (.sym 1)), (.cell 3 (.sym 5)), (.cell 4 (.sym 1)), (.cell 5 (.sym 1)), (.cell 6 (.sym 1)), (.cell 7 (.sym 1)), (.cell 8 (.sym 1)), (.cell 9 (.sym 1)), (.cell 10 (.sym 5)), (.cell 11 (.sym 5))] [])) (ups [.ev (.bin .eql .int (.cell 0 (.sym 1)) (ki 3)),
  .join 3 1 (.ite (.sym 8) (.jump 3 [(.sym 8)] []) (ups [.ev (.bin .eql .int (.cell 0 (.sym 1)) (ki 5))]
  (.jump 3 [(.sym 9)] []))),
  .join 3 5 (.ite (.sym 9) (ups [.ev (.bin .geq .int (.cell 3 (.sym 1)) (ki 0)),
  .chain false (.sym 10) (ups [.chk (.cell 11 (.sym 1)),
  .call 55 (.sym 2) [(.cell 11 (.sym 1)), (ki 0), (ki 36000000)] [true]]
  (.ret (.sym 11)))]
  (.jump 3 [(.sym 11), (.cell 4 (.sym 5)), (.cell 9 (.sym 5)), (.cell 10 (.sym 1)), (.cell 11 (.sym 1))] [])) (ups [.ev (.bin .eql .int (.cell 0 (.sym 1)) (ki 4)),
  .join 4 2 (.ite (.sym 10) (ups [.ev (.bin .geq .int (.cell 3 (.sym 1)) (ki 0)),
  .chain false (.sym 11) (ups [.chk (.cell 4 (.sym 1)),
  .chk (.cell 0 (.sym 0)),
  .call 55 (.sym 2) [(.cell 4 (.sym 1)), (ki 1), (.cell 0 (.sym 0))] [true]]
  (.ret (.sym 12))),
  .chain false (.sym 12) (ups [.chk (.cell 9 (.sym 1)),
  .call 55 (.sym 2) [(.cell 9 (.sym 1)), (ki 0), (ki 1000000000)] [true]]
  (.ret (.sym 13)))]
  (.jump 4 [(.sym 13), (.cell 9 (.sym 1))] [])) (ups [.ev (.bin .eql .int (.cell 0 (.sym 1)) (ki 6))]
  (.ite (.sym 11) (ups [.ev (.bin .geq .int (.cell 3 (.sym 1)) (ki 0)),
  .chain false (.sym 12) (ups [.chk (.cell 4 (.sym 1)),
  .chk (.cell 0 (.sym 0)),
  .call 55 (.sym 2) [(.cell 4 (.sym 1)), (ki 1), (.cell 0 (.sym 0))] [true]]
  (.ret (.sym 13)))]
  (.jump 4 [(.sym 13), (.cell 9 (.sym 5))] [])) (.ret (.tcons (kb false) (.tcons (.sym 2) .tnil))))))]
  (.jump 3 [(.sym 11), (.cell 4 (.sym 1)), (.sym 12), (.cell 10 (.sym 5)), (.cell 11 (.sym 5))] [])))]
  (.jump 2 [(.sym 10), (.cell 2 (.sym 5)), (.cell 3 (.sym 1)), (.sym 11), (.cell 5 (.sym 5)), (.cell 6 (.sym 5)), (.cell 7 (.sym 5)), (.cell 8 (.sym 5)), (.sym 12), (.sym 13), (.sym 14)] [])))]
  (.jump 1 [(.sym 8), (.sym 9), (.sym 10), (.sym 11), (.sym 12), (.sym 13), (.sym 14), (.sym 15), (.sym 16), (.sym 17), (.sym 18)] [])))]
  (.jump 0 [(.sym 7), (.sym 8), (.sym 9), (.sym 10), (.sym 11), (.sym 12), (.sym 13), (.sym 14), (.sym 15), (.sym 16), (.sym 17)] [])),
  .chain false (.sym 6) (ups [.call 71 (.sym 2) [(agc 12 (.sym 1)), (.cons (.cell 0 (.sym 5)) (.cons (.cell 1 (.sym 5)) (.cons (.sym 7) (.cons (.sym 8) (.cons (.sym 9) (.cons (.sym 10) (.cons (.sym 11) (.cons (.sym 12) (.cons (.sym 13) (.cons (.sym 14) (.cons (.sym 15) (.cons (.sym 16) .nil))))))))))))] [true]]
  (.ret (.sym 17)))]
  (.ret (.tcons (.sym 17) (.tcons (.sym 2) .tnil))))))
theorem ku57 : UOk Try.prog 57 .plain (autoCfg true WRA PAN [] [] Try.f57) [false, false] u57 := UOk.plain Try.func57 (by kernel_rfl) (by kernel_rfl)

noncomputable def u58 : U := (ups [.join 0 0 (.loop 1 [(ki 0)] (ups [.ev (.lenL (.sym 0)),
  .ev (.bin .lss .int (.sym 3) (.sym 4))]
  (.ite (.sym 5) (ups [.join 2 0 (ups [.ev (.eaddr 12 (.sym 0) (.sym 3)),
  .chk (.padd 0 (.sym 6)),
  .ev (.ld false 1 (.sym 2) (.padd 0 (.sym 6))),
  .ev (.bin .eql .int (.sym 7) (ki 1)),
  .chain false (.sym 8) (ups [.ev (.eaddr 12 (.sym 0) (.sym 3)),
  .chk (.padd 2 (.sym 9)),
  .ev (.ld false 1 (.sym 2) (.padd 2 (.sym 9))),
  .ev (.bin .eql .int (.sym 10) (.sym 1))]
  (.ret (.sym 11)))]
  (.ite (.sym 9) (.ret (.tcons (.sym 3) (.tcons (.sym 2) .tnil))) (.jump 2 [] []))),
  .ev (.bin .add .int (.sym 3) (ki 1))]
  (.jump 1 [(.sym 6)] [])) (.jump 0 [] []))))]
  (.ret (.tcons (ki (-1)) (.tcons (.sym 2) .tnil))))
theorem ku58 : UOk Try.prog 58 .plain (autoCfg true WRA PAN [] [] Try.f58) [true, true] u58 := UOk.plain Try.func58 (by kernel_rfl) (by kernel_rfl)

noncomputable def u59 : U := (ups [.join 0 1 (.loop 1 [(ki (-1)), (ki 0)] (ups [.ev (.lenL (.sym 0)),
  .ev (.bin .lss .int (.sym 6) (.sym 7))]
  (.ite (.sym 8) (ups [.join 2 1 (ups [.ev (.eaddr 12 (.sym 0) (.sym 6)),
  .ev (.ld true 12 (.sym 4) (.sym 9)),
  .chk (.aggN 12 (.sym 10)),
  .ev (.bin .eql .int (.cell 0 (.sym 10)) (.sym 1)),
  .chain false (.sym 11) (ups [.chk (.cell 3 (.sym 10)),
  .ev (.bin .eql .int (.cell 3 (.sym 10)) (.sym 2))]
  (.ret (.sym 12))),
  .chain false (.sym 12) (ups [.chk (.cell 1 (.sym 10)),
  .ev (.bin .leq .int (.cell 1 (.sym 10)) (.sym 3))]
  (.ret (.sym 13))),
  .phi (.sym 13) [(.sym 6)] [(.sym 5)]]
  (.jump 2 [(.sym 14)] [(.cell 0 (.sym 10)), (.cell 0 (.sym 10)), (.cell 1 (.sym 10)), (.cell 2 (.sym 10)), (.cell 3 (.sym 10)), (.cell 4 (.sym 10)), (.cell 5 (.sym 10)), (.cell 6 (.sym 10)), (.cell 7 (.sym 10)), (.cell 8 (.sym 10)), (.cell 9 (.sym 10)), (.cell 10 (.sym 10)), (.cell 11 (.sym 10))])),
  .ev (.bin .add .int (.sym 6) (ki 1))]
  (.jump 1 [(.sym 9), (.sym 10)] [])) (.jump 0 [(.sym 5)] []))))]
  (.ret (.tcons (.sym 5) (.tcons (.sym 4) .tnil))))
theorem ku59 : UOk Try.prog 59 .plain (autoCfg true WRA PAN [] [] Try.f59) [true, true, true, true] u59 := UOk.plain Try.func59 (by kernel_rfl) (by kernel_rfl)

noncomputable def u60 : U := (ups [.chk (.aggN 6 (.sym 0)),
  .chk (.aggN 12 (.sym 2)),
  .ev (.un .not (.cell 10 (.sym 2)))]
  (.ite (.sym 4) (ups [.ev (.bin .eql .int (.cell 11 (.sym 2)) (ki 0))]
  (.ret (.tcons (.sym 5) (.tcons (.sym 3) .tnil)))) (ups [.call 27 (.sym 3) [(.sym 1)] [true],
  .ev (.eaddr 1 (.sym 5) (.cell 3 (.sym 2))),
  .ev (.ld false 1 (.sym 3) (.sym 6)),
  .ev (.eaddr 12 (.sym 1) (.sym 7)),
  .ev (.ld true 12 (.sym 3) (.sym 8)),
  .chk (.aggN 12 (.sym 9)),
  .call 40 (.sym 3) [(agc 6 (.sym 0)), (.cell 6 (.sym 9)), (.cell 7 (.sym 9))] [false, true],
  .chk (.aggN 4 (.tget 0 (.sym 10))),
  .call 55 (.sym 3) [(.cell 11 (.sym 2)), (.cell 2 (.tget 0 (.sym 10))), (.cell 3 (.tget 0 (.sym 10)))] [true]]
  (.ret (.tcons (.sym 11) (.tcons (.sym 3) .tnil))))))
theorem ku60 : UOk Try.prog 60 .plain (autoCfg true WRA PAN [] [] Try.f60) [false, true, false] u60 := UOk.plain Try.func60 (by kernel_rfl) (by kernel_rfl)

noncomputable def u71 : U := (ups [.chk (.aggN 12 (.sym 0)),
  .chk (.aggN 12 (.sym 1)),
  .ev (.bin .eql .int (.cell 0 (.sym 0)) (.cell 0 (.sym 1))),
  .chain false (.sym 3) (ups [.chk (.cell 1 (.sym 0)),
  .chk (.cell 1 (.sym 1)),
  .ev (.bin .eql .int (.cell 1 (.sym 0)) (.cell 1 (.sym 1)))]
  (.ret (.sym 4))),
  .chain false (.sym 4) (ups [.chk (.cell 2 (.sym 0)),
  .chk (.cell 2 (.sym 1)),
  .ev (.bin .eql .int (.cell 2 (.sym 0)) (.cell 2 (.sym 1)))]
  (.ret (.sym 5))),
  .chain false (.sym 5) (ups [.chk (.cell 3 (.sym 0)),
  .chk (.cell 3 (.sym 1)),
  .ev (.bin .eql .int (.cell 3 (.sym 0)) (.cell 3 (.sym 1)))]
  (.ret (.sym 6))),
  .chain false (.sym 6) (ups [.chk (.cell 4 (.sym 0)),
  .chk (.cell 4 (.sym 1)),
  .ev (.bin .eql .int (.cell 4 (.sym 0)) (.cell 4 (.sym 1)))]
  (.ret (.sym 7))),
  .chain false (.sym 7) (ups [.chk (.cell 5 (.sym 0)),
  .chk (.cell 5 (.sym 1)),
  .ev (.bin .eql .int (.cell 5 (.sym 0)) (.cell 5 (.sym 1)))]
  (.ret (.sym 8))),
  .chain false (.sym 8) (ups [.chk (.cell 6 (.sym 0)),
  .chk (.cell 6 (.sym 1)),
  .ev (.bin .eql .int (.cell 6 (.sym 0)) (.cell 6 (.sym 1)))]
  (.ret (.sym 9))),
  .chain false (.sym 9) (ups [.chk (.cell 7 (.sym 0)),
  .chk (.cell 7 (.sym 1)),
  .ev (.bin .eql .int (.cell 7 (.sym 0)) (.cell 7 (.sym 1)))]
  (.ret (.sym 10))),
  .chain false (.sym 10) (ups [.chk (.cell 9 (.sym 0)),
  .chk (.cell 9 (.sym 1)),
  .ev (.bin .eql .int (.cell 9 (.sym 0)) (.cell 9 (.sym 1)))]
  (.ret (.sym 11))),
  .chain false (.sym 11) (ups [.chk (.cell 10 (.sym 0)),
  .chk (.cell 10 (.sym 1)),
  .ev (.bin .eql .bool (.cell 10 (.sym 0)) (.cell 10 (.sym 1)))]
  (.ret (.sym 12))),
  .chain false (.sym 12) (ups [.chk (.cell 11 (.sym 0)),
  .chk (.cell 11 (.sym 1)),
  .ev (.bin .eql .int (.cell 11 (.sym 0)) (.cell 11 (.sym 1)))]
  (.ret (.sym 13))),
  .chain false (.sym 13) (ups [.chk (.cell 8 (.sym 0)),
  .chk (.cell 8 (.sym 1)),
  .call 19 (.sym 2) [(.cell 8 (.sym 0)), (.cell 8 (.sym 1))] [true]]
  (.ret (.sym 14)))]
  (.ret (.tcons (.sym 14) (.tcons (.sym 2) .tnil))))
theorem ku71 : UOk Try.prog 71 .plain (autoCfg true WRA PAN [] [] Try.f71) [false, false] u71 := UOk.plain Try.func71 (by kernel_rfl) (by kernel_rfl)

noncomputable def u94 : U := (ups [.join 0 0 (.loop 1 [(ki 0)] (ups [.ev (.lenL (.sym 0)),
  .ev (.bin .lss .int (.sym 2) (.sym 3))]
  (.ite (.sym 4) (ups [.join 2 0 (ups [.ev (.eaddr 1 (.sym 0) (.sym 2)),
  .ev (.ld false 1 (.sym 1) (.sym 5)),
  .call 55 (.sym 1) [(.sym 6), (ki 1), (ki 1000)] [true],
  .ev (.un .not (.sym 7)),
  .chain true (.sym 8) (ups [.ev (.bin .gtr .int (.sym 2) (ki 0)),
  .chain false (.sym 9) (ups [.ev (.eaddr 1 (.sym 0) (.sym 2)),
  .ev (.ld false 1 (.sym 1) (.sym 10)),
  .ev (.bin .sub .int (.sym 2) (ki 1)),
  .ev (.eaddr 1 (.sym 0) (.sym 12)),
  .ev (.ld false 1 (.sym 1) (.sym 13)),
  .ev (.bin .leq .int (.sym 11) (.sym 14))]
  (.ret (.sym 15)))]
  (.ret (.sym 10)))]
  (.ite (.sym 9) (.ret (.tcons (kb false) (.tcons (.sym 1) .tnil))) (.jump 2 [] []))),
  .ev (.bin .add .int (.sym 2) (ki 1))]
  (.jump 1 [(.sym 5)] [])) (.jump 0 [] [])))),
  .ev (.lenL (.sym 0)),
  .ev (.bin .leq .int (.sym 2) (ki 20))]
  (.ret (.tcons (.sym 3) (.tcons (.sym 1) .tnil))))
theorem ku94 : UOk Try.prog 94 .plain (autoCfg true WRA PAN [] [] Try.f94) [true] u94 := UOk.plain Try.func94 (by kernel_rfl) (by kernel_rfl)

noncomputable def u19 : U := (ups [.ev (.lenL (.sym 0)),
  .ev (.lenL (.sym 1)),
  .ev (.bin .neq .int (.sym 3) (.sym 4))]
  (.ite (.sym 5) (.ret (.tcons (kb false) (.tcons (.sym 2) .tnil))) (ups [.join 0 0 (.loop 1 [(ki 0)] (ups [.ev (.lenL (.sym 0)),
  .ev (.bin .lss .int (.sym 6) (.sym 7))]
  (.ite (.sym 8) (ups [.join 2 0 (ups [.ev (.eaddr 1 (.sym 0) (.sym 6)),
  .ev (.ld false 1 (.sym 2) (.sym 9)),
  .ev (.eaddr 1 (.sym 1) (.sym 6)),
  .ev (.ld false 1 (.sym 2) (.sym 11)),
  .ev (.bin .neq .int (.sym 10) (.sym 12))]
  (.ite (.sym 13) (.ret (.tcons (kb false) (.tcons (.sym 2) .tnil))) (.jump 2 [] []))),
  .ev (.bin .add .int (.sym 6) (ki 1))]
  (.jump 1 [(.sym 9)] [])) (.jump 0 [] []))))]
  (.ret (.tcons (kb true) (.tcons (.sym 2) .tnil))))))
theorem ku19 : UOk Try.prog 19 .plain (autoCfg true WRA PAN [] [] Try.f19) [true, true] u19 := UOk.plain Try.func19 (by kernel_rfl) (by kernel_rfl)

end Go.Am.Ap

/-
  The court's functions, as texts.
-/
namespace Go.Am.Ap
open Go.Proofs

noncomputable def u26 : U := (ups [.chk (.aggN 12 (.sym 1)),
  .ev (.newb 3 1 (.sym 2) (.const (.agg [(.v (.int .i64 0))]))),
  .ev (.newb 24 1 (.sym 3) (.const (.agg [(.v (.int .i64 0))]))),
  .call 61 (.sym 4) [(.sym 0)] [true],
  .ev (.un .not (.sym 5))]
  (.ite (.sym 6) (ups [.ev (.sto 1 (.sym 4) (.fstid (.sym 2)) (ki 0)),
  .ev (.sto 1 (.sym 7) (.fstid (.sym 3)) (ki 1))]
  (.ret (.tcons (.tcons (.ld false 1 (.sym 8) (.fstid (.sym 2))) (.tcons (.ld false 1 (.sym 8) (.fstid (.sym 3))) .tnil)) (.tcons (.sym 8) .tnil)))) (ups [.call 62 (.sym 4) [(.sym 0), (agc 12 (.sym 1))] [true],
  .ev (.un .not (.sym 7)),
  .chain true (.sym 8) (ups [.chk (.nn (.sym 0)),
  .chk (.padd 7 (.sym 0)),
  .ev (.ld false 1 (.sym 4) (.padd 7 (.sym 0))),
  .ev (.lenL (.sym 9)),
  .ev (.bin .gtr .int (.sym 10) (ki 0)),
  .chain false (.sym 11) (ups [.chk (.cell 1 (.sym 1)),
  .chk (.nn (.sym 0)),
  .chk (.padd 7 (.sym 0)),
  .ev (.ld false 1 (.sym 4) (.padd 7 (.sym 0))),
  .chk (.nn (.sym 0)),
  .chk (.padd 7 (.sym 0)),
  .ev (.ld false 1 (.sym 4) (.padd 7 (.sym 0))),
  .ev (.lenL (.sym 13)),
  .ev (.bin .sub .int (.sym 14) (ki 1)),
  .ev (.eaddr 12 (.sym 12) (.sym 15)),
  .chk (.padd 1 (.sym 16)),
  .ev (.ld false 1 (.sym 4) (.padd 1 (.sym 16))),
  .ev (.bin .lss .int (.cell 1 (.sym 1)) (.sym 17))]
  (.ret (.sym 18)))]
  (.ret (.sym 12)))]
  (.ite (.sym 9) (ups [.ev (.sto 1 (.sym 4) (.fstid (.sym 2)) (ki 0)),
  .ev (.sto 1 (.sym 10) (.fstid (.sym 3)) (ki 2))]
  (.ret (.tcons (.tcons (.ld false 1 (.sym 11) (.fstid (.sym 2))) (.tcons (.ld false 1 (.sym 11) (.fstid (.sym 3))) .tnil)) (.tcons (.sym 11) .tnil)))) (ups [.chk (.nn (.sym 0)),
  .chk (.padd 7 (.sym 0)),
  .ev (.ld false 1 (.sym 4) (.padd 7 (.sym 0))),
  .ev (.lenL (.sym 10)),
  .ev (.bin .geq .int (.sym 11) (ki 2000))]
  (.ite (.sym 12) (ups [.ev (.sto 1 (.sym 4) (.fstid (.sym 2)) (ki 0)),
  .ev (.sto 1 (.sym 13) (.fstid (.sym 3)) (ki 4))]
  (.ret (.tcons (.tcons (.ld false 1 (.sym 14) (.fstid (.sym 2))) (.tcons (.ld false 1 (.sym 14) (.fstid (.sym 3))) .tnil)) (.tcons (.sym 14) .tnil)))) (ups [.dfr 63 [4, 5] [(.fstid (.sym 2)), (.fstid (.sym 3))] (.tcons (.ld false 1 (.sym 2) (.sym 0)) (.tcons (.ld false 1 (.sym 2) (.sym 1)) .tnil)),
  .ev (.m4 .newm (.sym 4) .nil .nil .nil),
  .ev (.mkfn 64 (.tcons (.sym 0) .tnil) .tnil),
  .ev (.m4 (.put .int) (.sym 13) (.m4 .fstm (.sym 4) .nil .nil .nil) (ki 1) (.sym 14)),
  .ev (.mkfn 65 (.tcons (.sym 0) .tnil) .tnil),
  .ev (.m4 (.put .int) (.sym 15) (.m4 .fstm (.sym 4) .nil .nil .nil) (ki 2) (.sym 16)),
  .ev (.mkfn 66 (.tcons (.sym 0) .tnil) .tnil),
  .ev (.m4 (.put .int) (.sym 17) (.m4 .fstm (.sym 4) .nil .nil .nil) (ki 3) (.sym 18)),
  .ev (.mkfn 67 (.tcons (.sym 0) .tnil) .tnil),
  .ev (.m4 (.put .int) (.sym 19) (.m4 .fstm (.sym 4) .nil .nil .nil) (ki 4) (.sym 20)),
  .ev (.mkfn 68 (.tcons (.sym 0) .tnil) .tnil),
  .ev (.m4 (.put .int) (.sym 21) (.m4 .fstm (.sym 4) .nil .nil .nil) (ki 5) (.sym 22)),
  .ev (.mkfn 69 (.tcons (.sym 0) .tnil) .tnil),
  .ev (.m4 (.put .int) (.sym 23) (.m4 .fstm (.sym 4) .nil .nil .nil) (ki 6) (.sym 24)),
  .ev (.m4 (.get .int false) (.sym 25) (.m4 .fstm (.sym 4) .nil .nil .nil) (.cell 0 (.sym 1)) (.const (.v .nilFunc))),
  .wpcallv (.sym 26) (.sym 25) [(agc 12 (.sym 1))] [true] [4, 5] [(.fstid (.sym 2)), (.fstid (.sym 3))],
  .ev (.sto 1 (.sym 28) (.fstid (.sym 2)) (.sym 27)),
  .call 70 (.sym 29) [(.cell 8 (.sym 1))] [true],
  .ev (.ld false 1 (.sym 29) (.fstid (.sym 2))),
  .ev (.bin .geq .int (.sym 31) (ki 0)),
  .join 0 1 (.ite (.sym 32) (ups [.chk (.nn (.sym 0)),
  .chk (.padd 8 (.sym 0)),
  .ev (.ld false 1 (.sym 29) (.padd 8 (.sym 0))),
  .ev (.ld false 1 (.sym 29) (.fstid (.sym 2))),
  .chk (.nn (.sym 0)),
  .chk (.padd 8 (.sym 0)),
  .ev (.ld false 1 (.sym 29) (.padd 8 (.sym 0))),
  .ev (.ld false 1 (.sym 29) (.fstid (.sym 2))),
  .ev (.eaddr 2 (.sym 35) (.sym 36)),
  .chk (.padd 1 (.sym 37)),
  .ev (.ld false 1 (.sym 29) (.padd 1 (.sym 37))),
  .chk (.nn (.sym 0)),
  .chk (.padd 7 (.sym 0)),
  .ev (.ld false 1 (.sym 29) (.padd 7 (.sym 0))),
  .ev (.lenL (.sym 39)),
  .ev (.lcons (.scal (.sym 40)) (.const (.lst []))),
  .ev (.apph 3 1 8 (.sym 29) (.sym 38) (.sym 41)),
  .ev (.eaddr 2 (.sym 33) (.sym 34)),
  .chk (.padd 1 (.sym 43)),
  .ev (.sto 1 (.sym 42) (.padd 1 (.sym 43)) (.apps (.sym 29) (.sym 38) (.sym 41))),
  .ev (.m4 .same (.ld false 1 (.sym 29) (.padd 8 (.sym 0))) (.ld false 1 (.sym 42) (.padd 8 (.sym 0))) .nil .nil),
  .ev (.m4 .same (.ld false 1 (.sym 29) (.fstid (.sym 2))) (.ld false 1 (.sym 42) (.fstid (.sym 2))) .nil .nil)]
  (.jump 0 [(.sym 44)] [])) (.jump 0 [(.sym 29)] [])),
  .chk (.nn (.sym 0)),
  .chk (.padd 7 (.sym 0)),
  .ev (.ld false 1 (.sym 33) (.padd 7 (.sym 0))),
  .ev (.lcons (.aggN 12 (.cons (.cell 0 (.sym 1)) (.cons (.cell 1 (.sym 1)) (.cons (.cell 2 (.sym 1)) (.cons (.cell 3 (.sym 1)) (.cons (.cell 4 (.sym 1)) (.cons (.cell 5 (.sym 1)) (.cons (.cell 6 (.sym 1)) (.cons (.cell 7 (.sym 1)) (.cons (.sym 30) (.cons (.cell 9 (.sym 1)) (.cons (.cell 10 (.sym 1)) (.cons (.cell 11 (.sym 1)) .nil))))))))))))) (.const (.lst []))),
  .ev (.apph 43 12 112 (.sym 33) (.sym 34) (.sym 35)),
  .chk (.nn (.sym 0)),
  .chk (.padd 7 (.sym 0)),
  .ev (.sto 1 (.sym 36) (.padd 7 (.sym 0)) (.apps (.sym 33) (.sym 34) (.sym 35))),
  .ev (.ld false 1 (.sym 37) (.fstid (.sym 2))),
  .ev (.sto 1 (.sym 37) (.fstid (.sym 2)) (.sym 38)),
  .ev (.sto 1 (.sym 39) (.fstid (.sym 3)) (ki 0))]
  (.ret (.tcons (.tcons (.fstid (.sym 2)) (.tcons (.fstid (.sym 3)) .tnil)) (.tcons (.sym 40) .tnil))))))))))
theorem ku26 : UOk Try.prog 26 (.defers [4,5]) (autoCfg false WRA PAN [] [] Try.f26) [true, false] u26 := UOk.defers Try.func26 (by kernel_rfl) (by kernel_rfl)

noncomputable def u63 : U := (ups [.ev (.m4 (.ifnil true) (.sym 3) .nil .nil .nil),
  .join 0 1 (.ite (.sym 4) (ups [.ev (.m4 (.tassert 109) (.sym 3) (.const (.agg [(.v (.int .i64 0))])) .nil .nil),
  .chk (.aggN 1 (.tget 0 (.sym 5))),
  .ev (.un .not (.tget 1 (.sym 5))),
  .join 1 0 (.ite (.sym 6) (.pan (.m4 .isifc (.sym 3) .nil .nil .nil) (.sym 2) [] []) (.jump 1 [] [])),
  .ev (.sto 1 (.sym 2) (.sym 0) (ki 0)),
  .ev (.sto 1 (.sym 7) (.sym 1) (.cell 0 (.tget 0 (.sym 5))))]
  (.jump 0 [(.sym 8)] [])) (.jump 0 [(.sym 2)] []))]
  (.ret (.tcons .tnil (.tcons (.sym 5) .tnil))))
theorem ku63 : UOk Try.prog 63 .recovers (autoCfg false WRA PAN [] [] Try.f63) [true, true] u63 := UOk.recovers Try.func63 (by kernel_rfl) (by kernel_rfl)

noncomputable def u65 : U := (ups [.chk (.aggN 12 (.sym 1)),
  .call 97 (.sym 2) [(.sym 0), (.cell 2 (.sym 1))] [true],
  .chk (.nn (.sym 0)),
  .chk (.padd 0 (.sym 0)),
  .ev (.ld true 6 (.sym 2) (.padd 0 (.sym 0))),
  .call 81 (.sym 2) [(.sym 4), (.cell 6 (.sym 1)), (.cell 7 (.sym 1))] [true, true],
  .ev (.bin .lss .int (.sym 3) (ki 0)),
  .chain true (.sym 6) (ups [.chk (.tget 1 (.sym 5)),
  .ev (.un .not (.tget 1 (.sym 5)))]
  (.ret (.sym 7))),
  .pcall 96 (.sym 2) [(.sym 7), (ki 5)] [] [] [],
  .ev (.bin .sub .int (.cell 1 (.sym 1)) (.sym 3)),
  .chk (.nn (.sym 0)),
  .chk (.padd 0 (.sym 0)),
  .chk (.padd 2 (.padd 0 (.sym 0))),
  .ev (.ld false 1 (.sym 2) (.padd 2 (.padd 0 (.sym 0)))),
  .ev (.bin .gtr .int (.sym 9) (.sym 10)),
  .pcall 96 (.sym 2) [(.sym 11), (ki 8)] [] [] [],
  .chk (.nn (.sym 0)),
  .chk (.padd 0 (.sym 0)),
  .chk (.padd 4 (.padd 0 (.sym 0))),
  .ev (.ld false 1 (.sym 2) (.padd 4 (.padd 0 (.sym 0)))),
  .ev (.bin .neq .int (.cell 9 (.sym 1)) (.sym 13)),
  .pcall 96 (.sym 2) [(.sym 14), (ki 7)] [] [] [],
  .chk (.nn (.sym 0)),
  .chk (.padd 8 (.sym 0)),
  .ev (.ld false 1 (.sym 2) (.padd 8 (.sym 0))),
  .chk (.nn (.sym 0)),
  .chk (.padd 7 (.sym 0)),
  .ev (.ld false 1 (.sym 2) (.padd 7 (.sym 0))),
  .ev (.lenL (.sym 17)),
  .ev (.cons (.scal (.sym 18)) (.cons (.const (.agg [.snil])) .nil)),
  .ev (.lcons (.aggN 2 (.sym 19)) (.const (.lst []))),
  .ev (.apph 115 2 32 (.sym 2) (.sym 16) (.sym 20)),
  .chk (.nn (.sym 0)),
  .chk (.padd 8 (.sym 0)),
  .ev (.sto 1 (.sym 21) (.padd 8 (.sym 0)) (.apps (.sym 2) (.sym 16) (.sym 20))),
  .chk (.nn (.sym 0)),
  .chk (.padd 8 (.sym 0)),
  .ev (.ld false 1 (.sym 22) (.padd 8 (.sym 0))),
  .ev (.lenL (.sym 23)),
  .ev (.bin .sub .int (.sym 24) (ki 1))]
  (.ret (.tcons (.sym 25) (.tcons (.sym 22) .tnil))))
theorem ku65 : UOk Try.prog 65 .plain { autoCfg false WRA PAN [] [] Try.f65 with nils := true } [true, false] u65 := UOk.plain Try.func65 (by kernel_rfl) (by kernel_rfl)

noncomputable def u61 : U := (ups [.ev (.bin .neq .ptr (.sym 0) (.const (.v (.pointer none)))),
  .chain false (.sym 2) (ups [.chk (.nn (.sym 0)),
  .chk (.padd 6 (.sym 0)),
  .ev (.ld false 1 (.sym 1) (.padd 6 (.sym 0)))]
  (.ret (.sym 3)))]
  (.ret (.tcons (.sym 3) (.tcons (.sym 1) .tnil))))
theorem ku61 : UOk Try.prog 61 .plain (autoCfg true WRA PAN [] [] Try.f61) [true] u61 := UOk.plain Try.func61 (by kernel_rfl) (by kernel_rfl)

noncomputable def u62 : U := (ups [.ev (.mkptr (.cons (.scal (.sym 0)) .nil)),
  .chk (.aggN 12 (.sym 1)),
  .ev (.mkfn 95 .tnil (.tcons (.sym 3) .tnil)),
  .ev (.cons (.scal (.cell 0 (.sym 1))) (.cons (.scal (.cell 1 (.sym 1))) (.cons (.const (.agg [(.v (.int .i64 0))])) (.cons (.const (.agg [(.v (.int .i64 0))])) (.cons (.const (.agg [(.v (.int .i64 0))])) (.cons (.const (.agg [(.v (.int .i64 0))])) (.cons (.const (.agg [(.v (.int .i64 0))])) (.cons (.const (.agg [(.v (.int .i64 0))])) (.cons (.const (.agg [(.lst [])])) (.cons (.const (.agg [(.v (.int .i64 0))])) (.cons (.const (.agg [(.v (.bool false))])) (.cons (.const (.agg [(.v (.int .i64 0))])) .nil)))))))))))),
  .chk (.aggN 12 (.sym 5)),
  .ev (.lenL (.cell 8 (.sym 1))),
  .ev (.bin .eql .int (.sym 6) (ki 0)),
  .call 52 (.sym 2) [(.cell 1 (.sym 1)), (ki 0), (ki 10000000)] [true],
  .join 0 11 (ups [.ev (.bin .eql .int (.cell 0 (.sym 1)) (ki 1)),
  .join 1 11 (.ite (.sym 9) (ups [.chain false (.sym 8) (ups [.chk (.cell 2 (.sym 1)),
  .call 52 (.sym 2) [(.cell 2 (.sym 1)), (ki 1), (ki 1000000)] [true]]
  (.ret (.sym 10)))]
  (.jump 1 [(.sym 7), (.sym 10), (.cell 2 (.sym 1)), (.cell 3 (.sym 5)), (.cell 4 (.sym 5)), (.cell 5 (.sym 5)), (.cell 6 (.sym 5)), (.cell 7 (.sym 5)), (.cell 9 (.sym 5)), (.cell 10 (.sym 5)), (.cell 11 (.sym 5))] [])) (ups [.ev (.bin .eql .int (.cell 0 (.sym 1)) (ki 2)),
  .join 2 11 (.ite (.sym 10) (ups [.chain false (.sym 8) (ups [.chk (.cell 4 (.sym 1)),
  .callv (.sym 4) (.sym 2) [(.cell 4 (.sym 1))] [true]]
  (.ret (.sym 11))),
  .chain false (.sym 11) (ups [.chk (.cell 5 (.sym 1)),
  .callv (.sym 4) (.sym 2) [(.cell 5 (.sym 1))] [true]]
  (.ret (.sym 12))),
  .chain false (.sym 12) (ups [.chk (.cell 4 (.sym 1)),
  .chk (.cell 5 (.sym 1)),
  .ev (.bin .neq .int (.cell 4 (.sym 1)) (.cell 5 (.sym 1)))]
  (.ret (.sym 13))),
  .chain false (.sym 13) (ups [.chk (.cell 2 (.sym 1)),
  .call 52 (.sym 2) [(.cell 2 (.sym 1)), (ki 1), (ki 1000000)] [true]]
  (.ret (.sym 14))),
  .chain false (.sym 14) (ups [.chk (.cell 6 (.sym 1)),
  .call 52 (.sym 2) [(.cell 6 (.sym 1)), (ki 1), (ki 10000)] [true]]
  (.ret (.sym 15))),
  .chain false (.sym 15) (ups [.chk (.cell 7 (.sym 1)),
  .chk (.cell 1 (.sym 1)),
  .call 52 (.sym 2) [(.cell 7 (.sym 1)), (ki 0), (.cell 1 (.sym 1))] [true]]
  (.ret (.sym 16))),
  .chain false (.sym 16) (ups [.chk (.cell 9 (.sym 1)),
  .call 52 (.sym 2) [(.cell 9 (.sym 1)), (ki 0), (ki 1000000000)] [true]]
  (.ret (.sym 17))),
  .ev (.lenL (.cell 8 (.sym 1))),
  .ev (.bin .leq .int (.sym 18) (ki 20)),
  .ev (.lenL (.cell 8 (.sym 1))),
  .join 3 1 (.loop 4 [(.sym 19), (ki 0)] (ups [.ev (.bin .lss .int (.sym 22) (.sym 20))]
  (.ite (.sym 23) (ups [.join 5 1 (ups [.ev (.eaddr 1 (.cell 8 (.sym 1)) (.sym 22)),
  .ev (.ld false 1 (.sym 2) (.sym 24)),
  .chain false (.sym 21) (ups [.call 52 (.sym 2) [(.sym 25), (ki 1), (ki 1000)] [true]]
  (.ret (.sym 26))),
  .chain false (.sym 26) (ups [.ev (.bin .eql .int (.sym 22) (ki 0)),
  .chain true (.sym 27) (ups [.chk (.cell 8 (.sym 1)),
  .ev (.bin .sub .int (.sym 22) (ki 1)),
  .ev (.eaddr 1 (.cell 8 (.sym 1)) (.sym 28)),
  .ev (.ld false 1 (.sym 2) (.sym 29)),
  .ev (.bin .gtr .int (.sym 25) (.sym 30))]
  (.ret (.sym 31)))]
  (.ret (.sym 28)))]
  (.jump 5 [(.sym 27)] [])),
  .ev (.bin .add .int (.sym 22) (ki 1))]
  (.jump 4 [(.sym 24), (.sym 25)] [])) (.jump 3 [(.sym 21)] []))))]
  (.jump 2 [(.sym 21), (.sym 17), (.cell 2 (.sym 1)), (.cell 3 (.sym 5)), (.cell 4 (.sym 1)), (.cell 5 (.sym 1)), (.cell 6 (.sym 1)), (.cell 7 (.sym 1)), (.cell 9 (.sym 1)), (.cell 10 (.sym 5)), (.cell 11 (.sym 5))] [])) (ups [.ev (.bin .eql .int (.cell 0 (.sym 1)) (ki 3)),
  .join 3 1 (.ite (.sym 11) (.jump 3 [(.sym 11)] []) (ups [.ev (.bin .eql .int (.cell 0 (.sym 1)) (ki 5))]
  (.jump 3 [(.sym 12)] []))),
  .join 3 5 (.ite (.sym 12) (ups [.chain false (.sym 8) (ups [.chk (.cell 3 (.sym 1)),
  .ev (.bin .geq .int (.cell 3 (.sym 1)) (ki 0))]
  (.ret (.sym 13))),
  .chain false (.sym 13) (ups [.chk (.cell 11 (.sym 1)),
  .call 52 (.sym 2) [(.cell 11 (.sym 1)), (ki 0), (ki 36000000)] [true]]
  (.ret (.sym 14)))]
  (.jump 3 [(.sym 14), (.cell 4 (.sym 5)), (.cell 9 (.sym 5)), (.cell 10 (.sym 1)), (.cell 11 (.sym 1))] [])) (ups [.ev (.bin .eql .int (.cell 0 (.sym 1)) (ki 4)),
  .join 4 2 (.ite (.sym 13) (ups [.chain false (.sym 8) (ups [.chk (.cell 3 (.sym 1)),
  .ev (.bin .geq .int (.cell 3 (.sym 1)) (ki 0))]
  (.ret (.sym 14))),
  .chain false (.sym 14) (ups [.chk (.cell 4 (.sym 1)),
  .callv (.sym 4) (.sym 2) [(.cell 4 (.sym 1))] [true]]
  (.ret (.sym 15))),
  .chain false (.sym 15) (ups [.chk (.cell 9 (.sym 1)),
  .call 52 (.sym 2) [(.cell 9 (.sym 1)), (ki 0), (ki 1000000000)] [true]]
  (.ret (.sym 16)))]
  (.jump 4 [(.sym 16), (.cell 9 (.sym 1))] [])) (ups [.ev (.bin .eql .int (.cell 0 (.sym 1)) (ki 6))]
  (.ite (.sym 14) (ups [.chain false (.sym 8) (ups [.chk (.cell 3 (.sym 1)),
  .ev (.bin .geq .int (.cell 3 (.sym 1)) (ki 0))]
  (.ret (.sym 15))),
  .chain false (.sym 15) (ups [.chk (.cell 4 (.sym 1)),
  .callv (.sym 4) (.sym 2) [(.cell 4 (.sym 1))] [true]]
  (.ret (.sym 16)))]
  (.jump 4 [(.sym 16), (.cell 9 (.sym 5))] [])) (.ret (.tcons (kb false) (.tcons (.sym 2) .tnil))))))]
  (.jump 3 [(.sym 14), (.cell 4 (.sym 1)), (.sym 15), (.cell 10 (.sym 5)), (.cell 11 (.sym 5))] [])))]
  (.jump 2 [(.sym 7), (.sym 13), (.cell 2 (.sym 5)), (.cell 3 (.sym 1)), (.sym 14), (.cell 5 (.sym 5)), (.cell 6 (.sym 5)), (.cell 7 (.sym 5)), (.sym 15), (.sym 16), (.sym 17)] [])))]
  (.jump 1 [(.sym 11), (.sym 12), (.sym 13), (.sym 14), (.sym 15), (.sym 16), (.sym 17), (.sym 18), (.sym 19), (.sym 20), (.sym 21)] [])))]
  (.jump 0 [(.sym 10), (.sym 11), (.sym 12), (.sym 13), (.sym 14), (.sym 15), (.sym 16), (.sym 17), (.sym 18), (.sym 19), (.sym 20)] [])),
  .ev (.ite (.sym 10) (.sym 9) (kb false)),
  .chain false (.sym 20) (ups [.chk (.cell 0 (.sym 1)),
  .chk (.cell 0 (.sym 5)),
  .ev (.bin .eql .int (.cell 0 (.sym 1)) (.cell 0 (.sym 5)))]
  (.ret (.sym 21))),
  .chain false (.sym 21) (ups [.chk (.cell 1 (.sym 1)),
  .chk (.cell 1 (.sym 5)),
  .ev (.bin .eql .int (.cell 1 (.sym 1)) (.cell 1 (.sym 5)))]
  (.ret (.sym 22))),
  .chain false (.sym 22) (ups [.chk (.cell 2 (.sym 1)),
  .ev (.bin .eql .int (.cell 2 (.sym 1)) (.sym 11))]
  (.ret (.sym 23))),
  .chain false (.sym 23) (ups [.chk (.cell 3 (.sym 1)),
  .ev (.bin .eql .int (.cell 3 (.sym 1)) (.sym 12))]
  (.ret (.sym 24))),
  .chain false (.sym 24) (ups [.chk (.cell 4 (.sym 1)),
  .ev (.bin .eql .int (.cell 4 (.sym 1)) (.sym 13))]
  (.ret (.sym 25))),
  .chain false (.sym 25) (ups [.chk (.cell 5 (.sym 1)),
  .ev (.bin .eql .int (.cell 5 (.sym 1)) (.sym 14))]
  (.ret (.sym 26))),
  .chain false (.sym 26) (ups [.chk (.cell 6 (.sym 1)),
  .ev (.bin .eql .int (.cell 6 (.sym 1)) (.sym 15))]
  (.ret (.sym 27))),
  .chain false (.sym 27) (ups [.chk (.cell 7 (.sym 1)),
  .ev (.bin .eql .int (.cell 7 (.sym 1)) (.sym 16))]
  (.ret (.sym 28))),
  .chain false (.sym 28) (ups [.chk (.cell 9 (.sym 1)),
  .ev (.bin .eql .int (.cell 9 (.sym 1)) (.sym 17))]
  (.ret (.sym 29))),
  .chain false (.sym 29) (ups [.chk (.cell 10 (.sym 1)),
  .ev (.bin .eql .bool (.cell 10 (.sym 1)) (.sym 18))]
  (.ret (.sym 30))),
  .chain false (.sym 30) (ups [.chk (.cell 11 (.sym 1)),
  .ev (.bin .eql .int (.cell 11 (.sym 1)) (.sym 19))]
  (.ret (.sym 31)))]
  (.ret (.tcons (.sym 31) (.tcons (.sym 2) .tnil))))
theorem ku62 : UOk Try.prog 62 .plain (autoCfg true WRA PAN [] [] Try.f62) [true, false] u62 := UOk.plain Try.func62 (by kernel_rfl) (by kernel_rfl)

noncomputable def u95 : U := (ups [.ev (.ld false 1 (.sym 2) (.sym 1)),
  .chk (.nn (.sym 3)),
  .chk (.padd 0 (.sym 3)),
  .chk (.padd 0 (.padd 0 (.sym 3))),
  .ev (.ld false 1 (.sym 2) (.padd 0 (.padd 0 (.sym 3)))),
  .call 52 (.sym 2) [(.sym 0), (ki 1), (.sym 4)] [true]]
  (.ret (.tcons (.sym 5) (.tcons (.sym 2) .tnil))))
theorem ku95 : UOk Try.prog 95 .plain (autoCfg true WRA PAN [] [] Try.f95) [true, true] u95 := UOk.plain Try.func95 (by kernel_rfl) (by kernel_rfl)

noncomputable def u64 : U := (ups [.chk (.aggN 12 (.sym 1)),
  .call 97 (.sym 2) [(.sym 0), (.cell 2 (.sym 1))] [true],
  .ev (.bin .geq .int (.sym 3) (ki 0)),
  .pcall 96 (.sym 2) [(.sym 4), (ki 6)] [] [] []]
  (.ret (.tcons (ki (-1)) (.tcons (.sym 2) .tnil))))
theorem ku64 : UOk Try.prog 64 .plain (autoCfg true WRA PAN [] [] Try.f64) [true, false] u64 := UOk.plain Try.func64 (by kernel_rfl) (by kernel_rfl)

noncomputable def u66 : U := (ups [.chk (.aggN 12 (.sym 1)),
  .pcall 98 (.sym 2) [(.sym 0), (.cell 3 (.sym 1))] [false] [] [],
  .chk (.aggN 2 (.sym 3)),
  .pcall 99 (.sym 2) [(.sym 0), (agc 2 (.sym 3))] [true] [] [],
  .ev (.bin .neq .int (.sym 4) (ki 1)),
  .pcall 96 (.sym 2) [(.sym 5), (ki 6)] [] [] [],
  .pcall 100 (.sym 2) [(.sym 0), (agc 2 (.sym 3)), (agc 12 (.sym 1))] [] [] []]
  (.ret (.tcons (.cell 3 (.sym 1)) (.tcons (.sym 2) .tnil))))
theorem ku66 : UOk Try.prog 66 .plain (autoCfg true WRA PAN [] [] Try.f66) [true, false] u66 := UOk.plain Try.func66 (by kernel_rfl) (by kernel_rfl)

noncomputable def u67 : U := (ups [.chk (.aggN 12 (.sym 1)),
  .pcall 98 (.sym 2) [(.sym 0), (.cell 3 (.sym 1))] [false] [] [],
  .chk (.aggN 2 (.sym 3)),
  .pcall 99 (.sym 2) [(.sym 0), (agc 2 (.sym 3))] [true] [] [],
  .ev (.bin .neq .int (.sym 4) (ki 3)),
  .pcall 96 (.sym 2) [(.sym 5), (ki 6)] [] [] [],
  .chk (.nn (.sym 0)),
  .chk (.padd 7 (.sym 0)),
  .ev (.ld false 1 (.sym 2) (.padd 7 (.sym 0))),
  .ev (.eaddr 12 (.sym 7) (.cell 0 (.sym 3))),
  .ev (.ld true 12 (.sym 2) (.sym 8)),
  .chk (.aggN 12 (.sym 9)),
  .ev (.bin .neq .int (.cell 4 (.sym 1)) (.cell 4 (.sym 9))),
  .chain false (.sym 10) (ups [.chk (.cell 4 (.sym 1)),
  .chk (.cell 5 (.sym 9)),
  .ev (.bin .neq .int (.cell 4 (.sym 1)) (.cell 5 (.sym 9)))]
  (.ret (.sym 11))),
  .pcall 96 (.sym 2) [(.sym 11), (ki 7)] [] [] [],
  .chk (.nn (.sym 0)),
  .chk (.padd 7 (.sym 0)),
  .ev (.ld false 1 (.sym 2) (.padd 7 (.sym 0))),
  .ev (.lenL (.cell 1 (.sym 3))),
  .ev (.bin .sub .int (.sym 14) (ki 1)),
  .ev (.eaddr 1 (.cell 1 (.sym 3)) (.sym 15)),
  .ev (.ld false 1 (.sym 2) (.sym 16)),
  .ev (.eaddr 12 (.sym 13) (.sym 17)),
  .chk (.padd 1 (.sym 18)),
  .ev (.ld false 1 (.sym 2) (.padd 1 (.sym 18))),
  .ev (.bin .sub .int (.cell 1 (.sym 1)) (.sym 19)),
  .chk (.nn (.sym 0)),
  .chk (.padd 0 (.sym 0)),
  .chk (.padd 3 (.padd 0 (.sym 0))),
  .ev (.ld false 1 (.sym 2) (.padd 3 (.padd 0 (.sym 0)))),
  .ev (.bin .gtr .int (.sym 20) (.sym 21)),
  .pcall 96 (.sym 2) [(.sym 22), (ki 8)] [] [] [],
  .chk (.nn (.sym 0)),
  .chk (.padd 0 (.sym 0)),
  .chk (.padd 5 (.padd 0 (.sym 0))),
  .ev (.ld false 1 (.sym 2) (.padd 5 (.padd 0 (.sym 0)))),
  .ev (.bin .neq .int (.cell 9 (.sym 1)) (.sym 24)),
  .pcall 96 (.sym 2) [(.sym 25), (ki 7)] [] [] []]
  (.ret (.tcons (.cell 3 (.sym 1)) (.tcons (.sym 2) .tnil))))
theorem ku67 : UOk Try.prog 67 .plain (autoCfg true WRA PAN [] [] Try.f67) [true, false] u67 := UOk.plain Try.func67 (by kernel_rfl) (by kernel_rfl)

noncomputable def u68 : U := (ups [.chk (.aggN 12 (.sym 1)),
  .pcall 98 (.sym 2) [(.sym 0), (.cell 3 (.sym 1))] [false] [] [],
  .chk (.aggN 2 (.sym 3)),
  .pcall 99 (.sym 2) [(.sym 0), (agc 2 (.sym 3))] [true] [] [],
  .ev (.bin .neq .int (.sym 4) (ki 4)),
  .pcall 96 (.sym 2) [(.sym 5), (ki 6)] [] [] [],
  .pcall 100 (.sym 2) [(.sym 0), (agc 2 (.sym 3)), (agc 12 (.sym 1))] [] [] []]
  (.ret (.tcons (.cell 3 (.sym 1)) (.tcons (.sym 2) .tnil))))
theorem ku68 : UOk Try.prog 68 .plain (autoCfg true WRA PAN [] [] Try.f68) [true, false] u68 := UOk.plain Try.func68 (by kernel_rfl) (by kernel_rfl)

noncomputable def u69 : U := (ups [.chk (.aggN 12 (.sym 1)),
  .pcall 98 (.sym 2) [(.sym 0), (.cell 3 (.sym 1))] [false] [] [],
  .chk (.aggN 2 (.sym 3)),
  .pcall 99 (.sym 2) [(.sym 0), (agc 2 (.sym 3))] [true] [] [],
  .ev (.bin .neq .int (.sym 4) (ki 1)),
  .pcall 96 (.sym 2) [(.sym 5), (ki 6)] [] [] [],
  .chk (.nn (.sym 0)),
  .chk (.padd 7 (.sym 0)),
  .ev (.ld false 1 (.sym 2) (.padd 7 (.sym 0))),
  .ev (.eaddr 12 (.sym 7) (.cell 0 (.sym 3))),
  .chk (.padd 4 (.sym 8)),
  .ev (.ld false 1 (.sym 2) (.padd 4 (.sym 8))),
  .ev (.bin .neq .int (.cell 4 (.sym 1)) (.sym 9)),
  .pcall 96 (.sym 2) [(.sym 10), (ki 7)] [] [] []]
  (.ret (.tcons (.cell 3 (.sym 1)) (.tcons (.sym 2) .tnil))))
theorem ku69 : UOk Try.prog 69 .plain (autoCfg true WRA PAN [] [] Try.f69) [true, false] u69 := UOk.plain Try.func69 (by kernel_rfl) (by kernel_rfl)

noncomputable def u96 : U := (ups [.join 0 0 (.ite (.sym 0) (ups [.ev (.cons (.scal (.sym 1)) .nil)]
  (.pan (.m4 .isifc (.ifc 109 (.sym 3)) .nil .nil .nil) (.sym 2) [] [])) (.jump 0 [] []))]
  (.ret (.tcons .tnil (.tcons (.sym 2) .tnil))))
theorem ku96 : UOk Try.prog 96 .plain (autoCfg true WRA PAN [] [] Try.f96) [true, true] u96 := UOk.plain Try.func96 (by kernel_rfl) (by kernel_rfl)

noncomputable def u97 : U := (ups [.ev (.mkptr (.cons (.scal (.sym 1)) .nil)),
  .chk (.nn (.sym 0)),
  .chk (.padd 7 (.sym 0)),
  .ev (.ld false 1 (.sym 2) (.padd 7 (.sym 0))),
  .ev (.mkfn 110 .tnil (.tcons (.sym 3) .tnil)),
  .call 86 (.sym 2) [(.sym 4), (.sym 5)] [true],
  .ev (.bin .lss .int (.sym 6) (ki 0))]
  (.ite (.sym 7) (.ret (.tcons (ki (-1)) (.tcons (.sym 2) .tnil))) (ups [.chk (.nn (.sym 0)),
  .chk (.padd 7 (.sym 0)),
  .ev (.ld false 1 (.sym 2) (.padd 7 (.sym 0))),
  .ev (.eaddr 12 (.sym 8) (.sym 6)),
  .chk (.padd 1 (.sym 9)),
  .ev (.ld false 1 (.sym 2) (.padd 1 (.sym 9)))]
  (.ret (.tcons (.sym 10) (.tcons (.sym 2) .tnil))))))
theorem ku97 : UOk Try.prog 97 .plain (autoCfg true WRA PAN [] [] Try.f97) [true, true] u97 := UOk.plain Try.func97 (by kernel_rfl) (by kernel_rfl)

noncomputable def u86 : U := (ups [.ev (.lenL (.sym 0)),
  .join 0 0 (.loop 1 [(ki 0)] (ups [.ev (.bin .lss .int (.sym 4) (.sym 3))]
  (.ite (.sym 5) (ups [.join 2 0 (ups [.ev (.eaddr 12 (.sym 0) (.sym 4)),
  .ev (.ld true 12 (.sym 2) (.sym 6)),
  .callv (.sym 1) (.sym 2) [(.sym 7)] [true]]
  (.ite (.sym 8) (.ret (.tcons (.sym 4) (.tcons (.sym 2) .tnil))) (.jump 2 [] []))),
  .ev (.bin .add .int (.sym 4) (ki 1))]
  (.jump 1 [(.sym 6)] [])) (.jump 0 [] []))))]
  (.ret (.tcons (ki (-1)) (.tcons (.sym 2) .tnil))))
theorem ku86 : UOk Try.prog 86 .plain (autoCfg true WRA PAN [] [] Try.f86) [true, true] u86 := UOk.plain Try.func86 (by kernel_rfl) (by kernel_rfl)

noncomputable def u110 : U := (ups [.chk (.aggN 12 (.sym 0)),
  .ev (.bin .eql .int (.cell 0 (.sym 0)) (ki 1)),
  .chain false (.sym 3) (ups [.chk (.cell 2 (.sym 0)),
  .ev (.ld false 1 (.sym 2) (.sym 1)),
  .ev (.bin .eql .int (.cell 2 (.sym 0)) (.sym 4))]
  (.ret (.sym 5)))]
  (.ret (.tcons (.sym 4) (.tcons (.sym 2) .tnil))))
theorem ku110 : UOk Try.prog 110 .plain (autoCfg true WRA PAN [] [] Try.f110) [false, true] u110 := UOk.plain Try.func110 (by kernel_rfl) (by kernel_rfl)

noncomputable def u98 : U := (ups [.chk (.nn (.sym 0)),
  .chk (.padd 8 (.sym 0)),
  .ev (.ld false 1 (.sym 2) (.padd 8 (.sym 0))),
  .ev (.lenL (.sym 3)),
  .ev (.bin .geq .int (.sym 1) (.sym 4)),
  .pcall 96 (.sym 2) [(.sym 5), (ki 5)] [] [] [],
  .chk (.nn (.sym 0)),
  .chk (.padd 8 (.sym 0)),
  .ev (.ld false 1 (.sym 2) (.padd 8 (.sym 0))),
  .ev (.eaddr 2 (.sym 7) (.sym 1)),
  .ev (.ld true 2 (.sym 2) (.sym 8)),
  .chk (.aggN 2 (.sym 9))]
  (.ret (.tcons (agc 2 (.sym 9)) (.tcons (.sym 2) .tnil))))
theorem ku98 : UOk Try.prog 98 .plain (autoCfg true WRA PAN [] [] Try.f98) [true, true] u98 := UOk.plain Try.func98 (by kernel_rfl) (by kernel_rfl)

noncomputable def u99 : U := (ups [.chk (.aggN 2 (.sym 1)),
  .chk (.nn (.sym 0)),
  .chk (.padd 7 (.sym 0)),
  .ev (.ld false 1 (.sym 2) (.padd 7 (.sym 0))),
  .ev (.lenL (.cell 1 (.sym 1))),
  .ev (.bin .sub .int (.sym 4) (ki 1)),
  .ev (.eaddr 1 (.cell 1 (.sym 1)) (.sym 5)),
  .ev (.ld false 1 (.sym 2) (.sym 6)),
  .ev (.eaddr 12 (.sym 3) (.sym 7)),
  .chk (.padd 1 (.sym 8)),
  .ev (.ld false 1 (.sym 2) (.padd 1 (.sym 8))),
  .call 73 (.sym 2) [(.sym 0), (agc 2 (.sym 1)), (.sym 9)] [true]]
  (.ret (.tcons (.sym 10) (.tcons (.sym 2) .tnil))))
theorem ku99 : UOk Try.prog 99 .plain (autoCfg true WRA PAN [] [] Try.f99) [true, false] u99 := UOk.plain Try.func99 (by kernel_rfl) (by kernel_rfl)

noncomputable def u73 : U := (ups [.chk (.aggN 2 (.sym 1)),
  .ev (.lenL (.cell 1 (.sym 1))),
  .join 0 1 (.loop 1 [(ki 1), (ki 0)] (ups [.ev (.bin .lss .int (.sym 6) (.sym 4))]
  (.ite (.sym 7) (ups [.join 2 1 (ups [.ev (.eaddr 1 (.cell 1 (.sym 1)) (.sym 6)),
  .ev (.ld false 1 (.sym 3) (.sym 8)),
  .chk (.nn (.sym 0)),
  .chk (.padd 7 (.sym 0)),
  .ev (.ld false 1 (.sym 3) (.padd 7 (.sym 0))),
  .ev (.eaddr 12 (.sym 10) (.sym 9)),
  .ev (.ld true 12 (.sym 3) (.sym 11)),
  .chk (.aggN 12 (.sym 12)),
  .ev (.bin .gtr .int (.cell 1 (.sym 12)) (.sym 2))]
  (.ite (.sym 13) (.jump 0 [(.sym 5)] []) (ups [.join 3 3 (ups [.ev (.bin .eql .int (.cell 0 (.sym 12)) (ki 6)),
  .join 4 1 (.ite (.sym 14) (.jump 4 [(ki 2)] []) (ups [.ev (.bin .eql .int (.cell 0 (.sym 12)) (ki 3)),
  .join 5 1 (.ite (.sym 15) (ups [.ev (.bin .sub .int (.sym 2) (.cell 1 (.sym 12))),
  .chk (.nn (.sym 0)),
  .chk (.padd 0 (.sym 0)),
  .chk (.padd 3 (.padd 0 (.sym 0))),
  .ev (.ld false 1 (.sym 3) (.padd 3 (.padd 0 (.sym 0)))),
  .ev (.bin .gtr .int (.sym 16) (.sym 17)),
  .phi (.sym 18) [(ki 5)] [(ki 3)]]
  (.jump 5 [(.sym 19)] [])) (ups [.ev (.bin .eql .int (.cell 0 (.sym 12)) (ki 4)),
  .join 6 1 (.ite (.sym 16) (.jump 6 [(ki 4)] []) (ups [.ev (.bin .eql .int (.cell 0 (.sym 12)) (ki 5)),
  .phi (.sym 17) [(ki 5)] [(.sym 5)]]
  (.jump 6 [(.sym 18)] [])))]
  (.jump 5 [(.sym 17)] [])))]
  (.jump 4 [(.sym 16)] [])))]
  (.jump 3 [(.sym 15), (.sym 14), (.sym 14)] []))]
  (.jump 2 [(.sym 14)] [(.cell 1 (.sym 12)), (.cell 0 (.sym 12)), (.cell 0 (.sym 12)), (.cell 1 (.sym 12)), (.cell 2 (.sym 12)), (.cell 3 (.sym 12)), (.cell 4 (.sym 12)), (.cell 5 (.sym 12)), (.cell 6 (.sym 12)), (.cell 7 (.sym 12)), (.cell 8 (.sym 12)), (.cell 9 (.sym 12)), (.cell 10 (.sym 12)), (.cell 11 (.sym 12))])))),
  .ev (.bin .add .int (.sym 6) (ki 1))]
  (.jump 1 [(.sym 8), (.sym 9)] [])) (.jump 0 [(.sym 5)] []))))]
  (.ret (.tcons (.sym 5) (.tcons (.sym 3) .tnil))))
theorem ku73 : UOk Try.prog 73 .plain (autoCfg true WRA PAN [] [] Try.f73) [true, false, true] u73 := UOk.plain Try.func73 (by kernel_rfl) (by kernel_rfl)

noncomputable def u100 : U := (ups [.chk (.aggN 2 (.sym 1)),
  .chk (.aggN 12 (.sym 2)),
  .chk (.nn (.sym 0)),
  .chk (.padd 7 (.sym 0)),
  .ev (.ld false 1 (.sym 3) (.padd 7 (.sym 0))),
  .ev (.eaddr 12 (.sym 4) (.cell 0 (.sym 1))),
  .ev (.ld true 12 (.sym 3) (.sym 5)),
  .chk (.aggN 12 (.sym 6)),
  .chk (.nn (.sym 0)),
  .chk (.padd 0 (.sym 0)),
  .ev (.ld true 6 (.sym 3) (.padd 0 (.sym 0))),
  .call 81 (.sym 3) [(.sym 7), (.cell 6 (.sym 6)), (.cell 7 (.sym 6))] [true, true],
  .chk (.nn (.sym 0)),
  .chk (.padd 0 (.sym 0)),
  .chk (.padd 1 (.padd 0 (.sym 0))),
  .ev (.ld false 1 (.sym 3) (.padd 1 (.padd 0 (.sym 0)))),
  .ev (.eaddr 4 (.sym 9) (.tget 0 (.sym 8))),
  .ev (.ld true 4 (.sym 3) (.sym 10)),
  .chk (.aggN 4 (.sym 11)),
  .chain false (.cell 10 (.sym 2)) (ups [.chk (.cell 11 (.sym 2)),
  .chk (.cell 2 (.sym 11)),
  .chk (.cell 3 (.sym 11)),
  .call 52 (.sym 3) [(.cell 11 (.sym 2)), (.cell 2 (.sym 11)), (.cell 3 (.sym 11))] [true],
  .ev (.un .not (.sym 12))]
  (.ret (.sym 13))),
  .chain true (.sym 12) (ups [.chk (.cell 10 (.sym 2)),
  .ev (.un .not (.cell 10 (.sym 2))),
  .chain false (.sym 13) (ups [.chk (.cell 11 (.sym 2)),
  .ev (.bin .neq .int (.cell 11 (.sym 2)) (ki 0))]
  (.ret (.sym 14)))]
  (.ret (.sym 14))),
  .pcall 96 (.sym 3) [(.sym 13), (ki 7)] [] [] []]
  (.ret (.tcons .tnil (.tcons (.sym 3) .tnil))))
theorem ku100 : UOk Try.prog 100 .plain (autoCfg true WRA PAN [] [] Try.f100) [true, false, false] u100 := UOk.plain Try.func100 (by kernel_rfl) (by kernel_rfl)

noncomputable def u70 : U := (ups [.nilq (.sym 0) false]
  (.ite (.sym 2) (.ret (.tcons (.const (.lst [])) (.tcons (.sym 1) .tnil))) (ups [.ev (.app 1 8 (.const (.lst [])) (.sym 0))]
  (.ret (.tcons (.sym 3) (.tcons (.sym 1) .tnil))))))
theorem ku70 : UOk Try.prog 70 .plain (autoCfg true WRA PAN [] [] Try.f70) [true] u70 := UOk.plain Try.func70 (by kernel_rfl) (by kernel_rfl)

noncomputable def u29 : U := (ups [.call 61 (.sym 1) [(.sym 0)] [true],
  .ev (.un .not (.sym 2))]
  (.ite (.sym 3) (.ret (.tcons (.const (.lst [])) (.tcons (.sym 1) .tnil))) (ups [.chk (.nn (.sym 0)),
  .chk (.padd 7 (.sym 0)),
  .ev (.ld false 1 (.sym 1) (.padd 7 (.sym 0))),
  .ev (.lenL (.sym 4)),
  .join 0 1 (.loop 1 [(.const (.lst [])), (ki 0)] (ups [.ev (.bin .lss .int (.sym 7) (.sym 5))]
  (.ite (.sym 8) (ups [.join 2 1 (ups [.ev (.eaddr 12 (.sym 4) (.sym 7)),
  .ev (.ld true 12 (.sym 1) (.sym 9)),
  .chk (.aggN 12 (.sym 10)),
  .call 70 (.sym 1) [(.cell 8 (.sym 10))] [true],
  .ev (.lcons (.aggN 12 (.cons (.cell 0 (.sym 10)) (.cons (.cell 1 (.sym 10)) (.cons (.cell 2 (.sym 10)) (.cons (.cell 3 (.sym 10)) (.cons (.cell 4 (.sym 10)) (.cons (.cell 5 (.sym 10)) (.cons (.cell 6 (.sym 10)) (.cons (.cell 7 (.sym 10)) (.cons (.sym 11) (.cons (.cell 9 (.sym 10)) (.cons (.cell 10 (.sym 10)) (.cons (.cell 11 (.sym 10)) .nil))))))))))))) (.const (.lst []))),
  .ev (.app 12 112 (.sym 6) (.sym 12))]
  (.jump 2 [(.sym 13)] [(.cell 8 (.sym 10)), (.cons (.cell 0 (.sym 10)) (.cons (.cell 1 (.sym 10)) (.cons (.cell 2 (.sym 10)) (.cons (.cell 3 (.sym 10)) (.cons (.cell 4 (.sym 10)) (.cons (.cell 5 (.sym 10)) (.cons (.cell 6 (.sym 10)) (.cons (.cell 7 (.sym 10)) (.cons (.sym 11) (.cons (.cell 9 (.sym 10)) (.cons (.cell 10 (.sym 10)) (.cons (.cell 11 (.sym 10)) .nil)))))))))))), (.cell 0 (.sym 10)), (.cell 1 (.sym 10)), (.cell 2 (.sym 10)), (.cell 3 (.sym 10)), (.cell 4 (.sym 10)), (.cell 5 (.sym 10)), (.cell 6 (.sym 10)), (.cell 7 (.sym 10)), (.cell 9 (.sym 10)), (.cell 10 (.sym 10)), (.cell 11 (.sym 10))])),
  .ev (.bin .add .int (.sym 7) (ki 1))]
  (.jump 1 [(.sym 9), (.sym 10)] [])) (.jump 0 [(.sym 6)] []))))]
  (.ret (.tcons (.sym 6) (.tcons (.sym 1) .tnil))))))
theorem ku29 : UOk Try.prog 29 .plain (autoCfg true WRA PAN [] [] Try.f29) [true] u29 := UOk.plain Try.func29 (by kernel_rfl) (by kernel_rfl)

end Go.Am.Ap

/-
  More functions as texts: the law AppealCodes.
-/
namespace Go.Am.Ap
open Go.Proofs


noncomputable def t7 : T := (wrapBinds [(.ev (.aggN 6 (.sym 0))),
  (.call [] 21 (.sym 3) [(agc 6 (.sym 4))] [true]),
  (.ev (.un .not (.sym 5)))]
  (.ite (.sym 6) (wrapBinds [(.call [] 16 (.sym 3) [] [true])]
  (.ret (.tcons (.sym 7) (.tcons (.sym 3) .tnil)))) (wrapBinds [(.call [] 23 (.sym 3) [(agc 6 (.sym 4))] [true]),
  (.wcall [] 24 (.sym 3) [(agc 6 (.sym 4))] [true, true]),
  (.call [] 39 (.tget 1 (.sym 8)) [(agc 6 (.sym 4)), (.sym 1), (.sym 2)] [false, true]),
  (.ev (.aggN 4 (.tget 0 (.sym 9)))),
  (.ev (.un .not (.sym 7))),
  (.ev (.guard (.sym 11) false (.bin .lss .int (.sym 1) (ki 1)))),
  (.ev (.ite (.sym 11) (kb true) (.sym 12))),
  (.ev (.guard (.sym 13) false (.bin .gtr .int (.sym 1) (ki 10000)))),
  (.ev (.ite (.sym 13) (kb true) (.sym 14))),
  (.ev (.guard (.sym 15) false (.bin .lss .int (.sym 2) (ki 0)))),
  (.ev (.ite (.sym 15) (kb true) (.sym 16))),
  (.ev (.guard (.sym 17) false (.bin .gtr .int (.sym 2) (ki 10000000)))),
  (.ev (.ite (.sym 17) (kb true) (.sym 18)))]
  (.join 0 0 (.ite (.sym 19) (wrapBinds [(.ev (.bin .neq .int (.tget 1 (.sym 9)) (ki 2))),
  (.ev (.guard (.sym 20) false (.cons zI (.cons zI (.cons zI (.cons zI .nil)))))),
  (.ev (.guard (.sym 20) false (.bin .neq (.agg [0, 0, 0, 0]) (agc 4 (.sym 10)) (.sym 21)))),
  (.ev (.ite (.sym 20) (kb true) (.sym 22)))]
  (.ite (.sym 23) (.ret (.tcons (kb false) (.tcons (.tget 1 (.sym 8)) .tnil))) (.jump 0 []))) (wrapBinds [(.call [] 40 (.tget 1 (.sym 8)) [(agc 6 (.sym 4)), (.sym 1), (.sym 2)] [false, true]),
  (.ev (.aggN 4 (.tget 0 (.sym 20)))),
  (.ev (.guard (.tget 1 (.sym 20)) true (.tget 1 (.sym 9)))),
  (.ev (.guard (.tget 1 (.sym 20)) true (.bin .neq .int (.sym 22) (ki 0)))),
  (.ev (.guard (.tget 1 (.sym 20)) true (.guard (.sym 23) false (.bin .neq (.agg [0, 0, 0, 0]) (agc 4 (.sym 10)) (agc 4 (.sym 21)))))),
  (.ev (.guard (.tget 1 (.sym 20)) true (.ite (.sym 23) (kb true) (.sym 24)))),
  (.ev (.ite (.tget 1 (.sym 20)) (.sym 25) (kb false))),
  (.ev (.guard (.sym 26) false (.tget 1 (.sym 20)))),
  (.ev (.guard (.sym 26) false (.un .not (.sym 27)))),
  (.ev (.guard (.sym 26) false (.guard (.sym 28) true (.tget 1 (.sym 9))))),
  (.ev (.guard (.sym 26) false (.guard (.sym 28) true (.bin .neq .int (.sym 29) (ki 5))))),
  (.ev (.guard (.sym 26) false (.guard (.sym 28) true (.guard (.sym 30) false (.cons zI (.cons zI (.cons zI (.cons zI .nil)))))))),
  (.ev (.guard (.sym 26) false (.guard (.sym 28) true (.guard (.sym 30) false (.bin .neq (.agg [0, 0, 0, 0]) (agc 4 (.sym 10)) (.sym 31)))))),
  (.ev (.guard (.sym 26) false (.guard (.sym 28) true (.ite (.sym 30) (kb true) (.sym 32))))),
  (.ev (.guard (.sym 26) false (.ite (.sym 28) (.sym 33) (kb false)))),
  (.ev (.ite (.sym 26) (kb true) (.sym 34)))]
  (.ite (.sym 35) (.ret (.tcons (kb false) (.tcons (.tget 1 (.sym 8)) .tnil))) (.jump 0 [])))) (wrapBinds [(.ev (.un .not (.sym 7)))]
  (.ite (.sym 20) (wrapBinds [(.call [] 41 (.tget 1 (.sym 8)) [(agc 6 (.sym 4))] [true]),
  (.ev (.bin .eql .int (.sym 21) (ki 2))),
  (.ev (.guard (.sym 22) true (.tget 1 (.tget 0 (.sym 8))))),
  (.ev (.guard (.sym 22) true (.bin .eql .int (.sym 23) (ki 2)))),
  (.ev (.ite (.sym 22) (.sym 24) (kb false))),
  (.ev (.guard (.sym 25) true (.tget 0 (.tget 0 (.sym 8))))),
  (.ev (.guard (.sym 25) true (.bin .eql .ptr (.sym 26) (.const (.v (.pointer none)))))),
  (.ev (.ite (.sym 25) (.sym 27) (kb false))),
  (.call [((.sym 28), true)] 16 (.tget 1 (.sym 8)) [] [true]),
  (.ev (.ite (.sym 28) (.sym 29) (kb false)))]
  (.ret (.tcons (.sym 30) (.tcons (.tget 1 (.sym 8)) .tnil)))) (wrapBinds [(.call [] 41 (.tget 1 (.sym 8)) [(agc 6 (.sym 4))] [true]),
  (.ev (.bin .eql .int (.sym 21) (ki 0))),
  (.ev (.guard (.sym 22) true (.tget 1 (.tget 0 (.sym 8))))),
  (.ev (.guard (.sym 22) true (.bin .eql .int (.sym 23) (ki 0)))),
  (.ev (.ite (.sym 22) (.sym 24) (kb false))),
  (.ev (.guard (.sym 25) true (.tget 0 (.tget 0 (.sym 8))))),
  (.ev (.guard (.sym 25) true (.bin .neq .ptr (.sym 26) (.const (.v (.pointer none)))))),
  (.ev (.ite (.sym 25) (.sym 27) (kb false))),
  (.ev (.guard (.sym 28) true (.tget 0 (.tget 0 (.sym 8))))),
  (.call [((.sym 28), true)] 29 (.tget 1 (.sym 8)) [(.sym 29)] [true]),
  (.ev (.guard (.sym 28) true (.lenL (.sym 30)))),
  (.ev (.guard (.sym 28) true (.bin .eql .int (.sym 31) (ki 0)))),
  (.ev (.ite (.sym 28) (.sym 32) (kb false))),
  (.call [((.sym 33), true)] 16 (.tget 1 (.sym 8)) [] [true]),
  (.ev (.ite (.sym 33) (.sym 34) (kb false)))]
  (.ret (.tcons (.sym 35) (.tcons (.tget 1 (.sym 8)) .tnil))))))))))
noncomputable def e7 : Entry := { f := 7, kn := .plain, cf := (autoCfg false WRA PAN [] [] Try.f7), own := false, ones := [false, true, true], t := t7 }
theorem ok7 : EntOk Try.prog e7 := EntOk.ofPlain Try.func7 (by kernel_rfl) (by kernel_rfl)

noncomputable def t21 : T := (wrapBinds [(.ev (.aggN 6 (.sym 0))),
  (.ev (.lenL (.cell 1 (.sym 2)))),
  (.ev (.bin .leq .int (.sym 3) (ki 20))),
  (.ev (.guard (.sym 4) false (.cell 1 (.sym 2)))),
  (.ev (.guard (.sym 4) false (.lenL (.sym 5)))),
  (.ev (.guard (.sym 4) false (.bin .gtr .int (.sym 6) (ki 500)))),
  (.ev (.guard (.sym 4) false (.guard (.sym 7) true (.cell 1 (.sym 2))))),
  (.ev (.guard (.sym 4) false (.guard (.sym 7) true (.lenL (.sym 8))))),
  (.ev (.guard (.sym 4) false (.guard (.sym 7) true (.bin .lss .int (.sym 9) (ki 600))))),
  (.ev (.guard (.sym 4) false (.ite (.sym 7) (.sym 10) (kb false)))),
  (.ev (.ite (.sym 4) (kb true) (.sym 11)))]
  (.ret (.tcons (.sym 12) (.tcons (.sym 1) .tnil))))
noncomputable def e21 : Entry := { f := 21, kn := .plain, cf := (autoCfg true WRA PAN [] [] Try.f21), own := false, ones := [false], t := t21 }
theorem ok21 : EntOk Try.prog e21 := EntOk.ofPlain Try.func21 (by kernel_rfl) (by kernel_rfl)

noncomputable def t23 : T := (wrapBinds [(.ev (.aggN 6 (.sym 0))),
  (.call [] 55 (.sym 1) [(.cell 0 (.sym 2)), (ki 1), (ki 200)] [true]),
  (.ev (.un .not (.sym 3))),
  (.ev (.guard (.sym 4) false (.cell 1 (.sym 2)))),
  (.ev (.guard (.sym 4) false (.lenL (.sym 5)))),
  (.call [((.sym 4), false)] 55 (.sym 1) [(.sym 6), (ki 1), (ki 500)] [true]),
  (.ev (.guard (.sym 4) false (.un .not (.sym 7)))),
  (.ev (.ite (.sym 4) (kb true) (.sym 8))),
  (.ev (.guard (.sym 9) false (.cell 2 (.sym 2)))),
  (.call [((.sym 9), false)] 55 (.sym 1) [(.sym 10), (ki 0), (ki 10000)] [true]),
  (.ev (.guard (.sym 9) false (.un .not (.sym 11)))),
  (.ev (.ite (.sym 9) (kb true) (.sym 12))),
  (.ev (.guard (.sym 13) false (.cell 3 (.sym 2)))),
  (.call [((.sym 13), false)] 55 (.sym 1) [(.sym 14), (ki 0), (ki 10000)] [true]),
  (.ev (.guard (.sym 13) false (.un .not (.sym 15)))),
  (.ev (.ite (.sym 13) (kb true) (.sym 16))),
  (.ev (.guard (.sym 17) false (.cell 4 (.sym 2)))),
  (.call [((.sym 17), false)] 55 (.sym 1) [(.sym 18), (ki 0), (ki 1000000000)] [true]),
  (.ev (.guard (.sym 17) false (.un .not (.sym 19)))),
  (.ev (.ite (.sym 17) (kb true) (.sym 20))),
  (.ev (.guard (.sym 21) false (.cell 5 (.sym 2)))),
  (.call [((.sym 21), false)] 55 (.sym 1) [(.sym 22), (ki 0), (ki 1000000000)] [true]),
  (.ev (.guard (.sym 21) false (.un .not (.sym 23)))),
  (.ev (.ite (.sym 21) (kb true) (.sym 24)))]
  (.ite (.sym 25) (.ret (.tcons (kb false) (.tcons (.sym 1) .tnil))) (.join 0 4 (.loop 1 [(ki 0)] (wrapBinds [(.ev (.lenL (.cell 1 (.sym 2)))),
  (.ev (.bin .lss .int (.sym 26) (.sym 27)))]
  (.ite (.sym 28) (.join 2 18 (wrapBinds [(.ev (.eaddr 4 (.cell 1 (.sym 2)) (.sym 26))),
  (.ev (.ld true 4 (.sym 1) (.sym 29))),
  (.ev (.aggN 4 (.sym 30))),
  (.call [] 55 (.sym 1) [(.cell 0 (.sym 31)), (ki 1), (ki 10000)] [true]),
  (.ev (.un .not (.sym 32))),
  (.ev (.guard (.sym 33) false (.cell 1 (.sym 31)))),
  (.call [((.sym 33), false)] 55 (.sym 1) [(.sym 34), (ki 0), (ki 10000000)] [true]),
  (.ev (.guard (.sym 33) false (.un .not (.sym 35)))),
  (.ev (.ite (.sym 33) (kb true) (.sym 36))),
  (.ev (.guard (.sym 37) false (.cell 2 (.sym 31)))),
  (.ev (.guard (.sym 37) false (.cell 3 (.sym 31)))),
  (.call [((.sym 37), false)] 55 (.sym 1) [(.sym 38), (ki 0), (.sym 39)] [true]),
  (.ev (.guard (.sym 37) false (.un .not (.sym 40)))),
  (.ev (.ite (.sym 37) (kb true) (.sym 41))),
  (.ev (.guard (.sym 42) false (.cell 3 (.sym 31)))),
  (.ev (.guard (.sym 42) false (.bin .gtr .int (.sym 43) (ki 36000000)))),
  (.ev (.ite (.sym 42) (kb true) (.sym 44)))]
  (.ite (.sym 45) (.ret (.tcons (kb false) (.tcons (.sym 1) .tnil))) (wrapBinds [(.ev (.bin .gtr .int (.sym 26) (ki 0))),
  (.ev (.guard (.sym 46) true (.cell 0 (.sym 31)))),
  (.ev (.guard (.sym 46) true (.cell 1 (.sym 2)))),
  (.ev (.guard (.sym 46) true (.bin .sub .int (.sym 26) (ki 1)))),
  (.ev (.guard (.sym 46) true (.eaddr 4 (.sym 48) (.sym 49)))),
  (.ev (.guard (.sym 46) true (.padd 0 (.sym 50)))),
  (.ev (.guard (.sym 46) true (.ld false 1 (.sym 1) (.sym 51)))),
  (.ev (.guard (.sym 46) true (.bin .lss .int (.sym 47) (.sym 52)))),
  (.ev (.guard (.sym 46) true (.guard (.sym 53) false (.cell 0 (.sym 31))))),
  (.ev (.guard (.sym 46) true (.guard (.sym 53) false (.cell 1 (.sym 2))))),
  (.ev (.guard (.sym 46) true (.guard (.sym 53) false (.bin .sub .int (.sym 26) (ki 1))))),
  (.ev (.guard (.sym 46) true (.guard (.sym 53) false (.eaddr 4 (.sym 55) (.sym 56))))),
  (.ev (.guard (.sym 46) true (.guard (.sym 53) false (.padd 0 (.sym 57))))),
  (.ev (.guard (.sym 46) true (.guard (.sym 53) false (.ld false 1 (.sym 1) (.sym 58))))),
  (.ev (.guard (.sym 46) true (.guard (.sym 53) false (.bin .eql .int (.sym 54) (.sym 59))))),
  (.ev (.guard (.sym 46) true (.guard (.sym 53) false (.guard (.sym 60) true (.cell 1 (.sym 31)))))),
  (.ev (.guard (.sym 46) true (.guard (.sym 53) false (.guard (.sym 60) true (.cell 1 (.sym 2)))))),
  (.ev (.guard (.sym 46) true (.guard (.sym 53) false (.guard (.sym 60) true (.bin .sub .int (.sym 26) (ki 1)))))),
  (.ev (.guard (.sym 46) true (.guard (.sym 53) false (.guard (.sym 60) true (.eaddr 4 (.sym 62) (.sym 63)))))),
  (.ev (.guard (.sym 46) true (.guard (.sym 53) false (.guard (.sym 60) true (.padd 1 (.sym 64)))))),
  (.ev (.guard (.sym 46) true (.guard (.sym 53) false (.guard (.sym 60) true (.ld false 1 (.sym 1) (.sym 65)))))),
  (.ev (.guard (.sym 46) true (.guard (.sym 53) false (.guard (.sym 60) true (.bin .leq .int (.sym 61) (.sym 66)))))),
  (.ev (.guard (.sym 46) true (.guard (.sym 53) false (.ite (.sym 60) (.sym 67) (kb false))))),
  (.ev (.guard (.sym 46) true (.ite (.sym 53) (kb true) (.sym 68)))),
  (.ev (.ite (.sym 46) (.sym 69) (kb false)))]
  (.ite (.sym 70) (.ret (.tcons (kb false) (.tcons (.sym 1) .tnil))) (.jump 2 [(.sym 29), (.sym 30), (.cell 0 (.sym 31)), (.sym 32), (.sym 33), (.sym 33), (.sym 37), (.sym 37), (.sym 42), (.sym 42), (.sym 45), (.sym 46), (.sym 46), (.sym 70), (.cell 0 (.sym 31)), (.cell 1 (.sym 31)), (.cell 2 (.sym 31)), (.cell 3 (.sym 31))]))))) (wrapBinds [(.ev (.bin .add .int (.sym 26) (ki 1)))]
  (.jump 1 [(.sym 47)]))) (.jump 0 [(.sym 26), (.sym 26), (.sym 27), (.sym 28)])))) (.ret (.tcons (kb true) (.tcons (.sym 1) .tnil))))))
noncomputable def e23 : Entry := { f := 23, kn := .plain, cf := (autoCfg true WRA PAN [] [] Try.f23), own := false, ones := [false], t := t23 }
theorem ok23 : EntOk Try.prog e23 := EntOk.ofPlain Try.func23 (by kernel_rfl) (by kernel_rfl)

noncomputable def t39 : T := (wrapBinds [(.ev (.aggN 6 (.sym 0))),
  (.call [] 41 (.sym 3) [(agc 6 (.sym 4))] [true]),
  (.ev (.bin .neq .int (.sym 5) (ki 0))),
  (.call [((.sym 6), false)] 52 (.sym 3) [(.sym 1), (ki 1), (ki 10000)] [true]),
  (.ev (.guard (.sym 6) false (.un .not (.sym 7)))),
  (.ev (.ite (.sym 6) (kb true) (.sym 8))),
  (.call [((.sym 9), false)] 52 (.sym 3) [(.sym 2), (ki 0), (ki 10000000)] [true]),
  (.ev (.guard (.sym 9) false (.un .not (.sym 10)))),
  (.ev (.ite (.sym 9) (kb true) (.sym 11)))]
  (.ite (.sym 12) (wrapBinds [(.ev (.cons zI (.cons zI (.cons zI (.cons zI .nil))))),
  (.ev (.aggN 4 (.sym 13)))]
  (.ret (.tcons (.tcons (agc 4 (.sym 14)) (.tcons (ki 2) .tnil)) (.tcons (.sym 3) .tnil)))) (wrapBinds [(.call [] 81 (.sym 3) [(agc 6 (.sym 4)), (.sym 1), (.sym 2)] [true, true]),
  (.ev (.un .not (.tget 1 (.sym 13))))]
  (.ite (.sym 14) (wrapBinds [(.ev (.cons zI (.cons zI (.cons zI (.cons zI .nil))))),
  (.ev (.aggN 4 (.sym 15)))]
  (.ret (.tcons (.tcons (agc 4 (.sym 16)) (.tcons (ki 5) .tnil)) (.tcons (.sym 3) .tnil)))) (wrapBinds [(.ev (.eaddr 4 (.cell 1 (.sym 4)) (.tget 0 (.sym 13)))),
  (.ev (.ld true 4 (.sym 3) (.sym 15))),
  (.ev (.aggN 4 (.sym 16)))]
  (.ret (.tcons (.tcons (agc 4 (.sym 17)) (.tcons (ki 0) .tnil)) (.tcons (.sym 3) .tnil))))))))
noncomputable def e39 : Entry := { f := 39, kn := .plain, cf := (autoCfg true WRA PAN [] [] Try.f39), own := false, ones := [false, true, true], t := t39 }
theorem ok39 : EntOk Try.prog e39 := EntOk.ofPlain Try.func39 (by kernel_rfl) (by kernel_rfl)

noncomputable def t40 : T := (wrapBinds [(.ev (.aggN 6 (.sym 0)))]
  (.join 0 9 (.loop 1 [(kb false), (ki 0), (ki 0), (ki 0), (ki 0), (ki 0)] (wrapBinds [(.ev (.lenL (.cell 1 (.sym 4)))),
  (.ev (.bin .lss .int (.sym 6) (.sym 11)))]
  (.ite (.sym 12) (.join 2 15 (wrapBinds [(.ev (.eaddr 4 (.cell 1 (.sym 4)) (.sym 6))),
  (.ev (.ld true 4 (.sym 3) (.sym 13))),
  (.ev (.aggN 4 (.sym 14))),
  (.ev (.bin .eql .int (.cell 0 (.sym 15)) (.sym 1))),
  (.ev (.guard (.sym 16) true (.cell 1 (.sym 15)))),
  (.ev (.guard (.sym 16) true (.bin .leq .int (.sym 17) (.sym 2)))),
  (.ev (.ite (.sym 16) (.sym 18) (kb false)))]
  (.join 3 5 (.ite (.sym 19) (.jump 3 [(kb true), (.cell 0 (.sym 15)), (.cell 1 (.sym 15)), (.cell 2 (.sym 15)), (.cell 3 (.sym 15))]) (.jump 3 [(.sym 5), (.sym 7), (.sym 8), (.sym 9), (.sym 10)])) (.jump 2 [(.sym 20), (.sym 13), (.sym 14), (.cell 0 (.sym 15)), (.sym 16), (.sym 16), (.sym 19), (.sym 21), (.sym 22), (.sym 23), (.sym 24), (.cell 0 (.sym 15)), (.cell 1 (.sym 15)), (.cell 2 (.sym 15)), (.cell 3 (.sym 15))]))) (wrapBinds [(.ev (.bin .add .int (.sym 6) (ki 1)))]
  (.jump 1 [(.sym 13), (.sym 28), (.sym 20), (.sym 21), (.sym 22), (.sym 23)]))) (.jump 0 [(.sym 5), (.sym 6), (.sym 6), (.sym 11), (.sym 12), (.sym 7), (.sym 8), (.sym 9), (.sym 10)])))) (.ret (.tcons (.tcons (.cons (.sym 10) (.cons (.sym 11) (.cons (.sym 12) (.cons (.sym 13) .nil)))) (.tcons (.sym 5) .tnil)) (.tcons (.sym 3) .tnil)))))
noncomputable def e40 : Entry := { f := 40, kn := .plain, cf := (autoCfg true WRA PAN [] [] Try.f40), own := false, ones := [false, true, true], t := t40 }
theorem ok40 : EntOk Try.prog e40 := EntOk.ofPlain Try.func40 (by kernel_rfl) (by kernel_rfl)

noncomputable def t29 : T := (wrapBinds [(.call [] 61 (.sym 1) [(.sym 0)] [true]),
  (.ev (.un .not (.sym 2)))]
  (.ite (.sym 3) (.ret (.tcons (.const (.lst [])) (.tcons (.sym 1) .tnil))) (wrapBinds [(.ev (.nn (.sym 0))),
  (.ev (.padd 7 (.sym 4))),
  (.ev (.ld false 1 (.sym 1) (.sym 5))),
  (.ev (.lenL (.sym 6)))]
  (.join 0 3 (.loop 1 [(.const (.lst [])), (ki 0)] (wrapBinds [(.ev (.bin .lss .int (.sym 9) (.sym 7)))]
  (.ite (.sym 10) (.join 2 20 (wrapBinds [(.ev (.eaddr 12 (.sym 6) (.sym 9))),
  (.ev (.ld true 12 (.sym 1) (.sym 11))),
  (.ev (.aggN 12 (.sym 12))),
  (.call [] 70 (.sym 1) [(.cell 8 (.sym 13))] [true]),
  (.ev (.lcons (.aggN 12 (.cons (.cell 0 (.sym 13)) (.cons (.cell 1 (.sym 13)) (.cons (.cell 2 (.sym 13)) (.cons (.cell 3 (.sym 13)) (.cons (.cell 4 (.sym 13)) (.cons (.cell 5 (.sym 13)) (.cons (.cell 6 (.sym 13)) (.cons (.cell 7 (.sym 13)) (.cons (.sym 14) (.cons (.cell 9 (.sym 13)) (.cons (.cell 10 (.sym 13)) (.cons (.cell 11 (.sym 13)) .nil))))))))))))) (.const (.lst [])))),
  (.ev (.app 12 112 (.sym 8) (.sym 15)))]
  (.jump 2 [(.sym 16), (.sym 11), (.sym 12), (.cell 8 (.sym 13)), (.sym 14), (.cons (.cell 0 (.sym 13)) (.cons (.cell 1 (.sym 13)) (.cons (.cell 2 (.sym 13)) (.cons (.cell 3 (.sym 13)) (.cons (.cell 4 (.sym 13)) (.cons (.cell 5 (.sym 13)) (.cons (.cell 6 (.sym 13)) (.cons (.cell 7 (.sym 13)) (.cons (.sym 14) (.cons (.cell 9 (.sym 13)) (.cons (.cell 10 (.sym 13)) (.cons (.cell 11 (.sym 13)) .nil)))))))))))), (.sym 15), (.sym 16), (.cell 0 (.sym 13)), (.cell 1 (.sym 13)), (.cell 2 (.sym 13)), (.cell 3 (.sym 13)), (.cell 4 (.sym 13)), (.cell 5 (.sym 13)), (.cell 6 (.sym 13)), (.cell 7 (.sym 13)), (.sym 14), (.cell 9 (.sym 13)), (.cell 10 (.sym 13)), (.cell 11 (.sym 13))])) (wrapBinds [(.ev (.bin .add .int (.sym 9) (ki 1)))]
  (.jump 1 [(.sym 11), (.sym 31)]))) (.jump 0 [(.sym 8), (.sym 9), (.sym 10)])))) (.ret (.tcons (.sym 8) (.tcons (.sym 1) .tnil)))))))
noncomputable def e29 : Entry := { f := 29, kn := .plain, cf := (autoCfg true WRA PAN [] [] Try.f29), own := false, ones := [true], t := t29 }
theorem ok29 : EntOk Try.prog e29 := EntOk.ofPlain Try.func29 (by kernel_rfl) (by kernel_rfl)

noncomputable def t55 : T := (wrapBinds [(.ev (.bin .geq .int (.sym 0) (.sym 1))),
  (.ev (.guard (.sym 4) true (.bin .leq .int (.sym 0) (.sym 2)))),
  (.ev (.ite (.sym 4) (.sym 5) (kb false)))]
  (.ret (.tcons (.sym 6) (.tcons (.sym 3) .tnil))))
noncomputable def e55 : Entry := { f := 55, kn := .plain, cf := (autoCfg true WRA PAN [] [] Try.f55), own := false, ones := [true, true, true], t := t55 }
theorem ok55 : EntOk Try.prog e55 := EntOk.ofPlain Try.func55 (by kernel_rfl) (by kernel_rfl)

end Go.Am.Ap

/-
  The statements' examples answer as they say.
-/
namespace Go.Am.Ap
open Go.Proofs

theorem known_spec (bs : List D) : FSpecO Try.prog 16 (.st bs) [] (.ret (.v (.bool true))) :=
  (runOrc_ok (n := 200) tabKnown_ok 14).R 16 (.st bs) [] _ (by kernel_rfl)

end Go.Am.Ap
