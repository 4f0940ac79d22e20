/-
  Several texts, one behind the other.
-/
import Derived.Test.YtnenlnmfoocpdaaAmEvaltoAmSt2
import Derived.Test.YtnenlnmfoocpdaaAmSeqtoAmLaw
import Derived.Test.YtnenlnmfoocpdaaApTab
set_option linter.unusedSimpArgs false
set_option linter.unusedVariables false
/-
 The laws, as texts.
-/
namespace Go.Am.Ap
open Go.Proofs

noncomputable def u24 : U := (ups [.chk (.aggN 6 y0),
 .call 41 y1 [(agc 6 y0)] [true],
 .ev (.bin .neq .int y2 (ki 0))]
 (.ite y3 (.ret (.tcons (.tcons (.const (.v (.pointer none))) (.tcons y2 .tnil)) (.tcons y1 .tnil))) (ups [.call 56 y1 [(.cell 1 y0)] [true],
 .ev (.cons (.aggN 6 (.cons (.cell 0 y0) (.cons y4 (.cons (.cell 2 y0) (.cons (.cell 3 y0) (.cons (.cell 4 y0) (.cons (.cell 5 y0) .nil))))))) (.cons (.scal (kb true)) (.cons (.const (.agg [.snil])) (.cons (.const (.agg [.snil])) .nil)))),
 .ev (.newb 99 9 y1 (.aggN 9 y5))]
 (.ret (.tcons (.tcons (.fstid y1) (.tcons (ki 0) .tnil)) (.tcons y6 .tnil))))))
theorem ku24 : UOk Try.prog 24 .plain { autoCfg false WRA PAN [16] [] Try.f24 with nils := true } [false] u24 := UOk.plain Try.func24 (by kernel_rfl) (by kernel_rfl)

noncomputable def u30 : U := (ups [.chk (.aggN 6 y0),
 .wcall 24 y2 [(agc 6 y0)] [true, true],
 .ev (.bin .neq .int (.tget 1 y3) (ki 0)),
 .chain true y5 (ups [.chk (.tget 0 y3),
 .ev (.bin .eql .ptr (.tget 0 y3) (.const (.v (.pointer none))))]
 (.ret y6))]
 (.ite y6 (.ret (.tcons (.tcons (.const (.v (.pointer none))) (.tcons (.const (.lst [])) (.tcons (kb false) .tnil))) (.tcons y4 .tnil))) (ups [.call 43 y4 [(agc 6 y0), y1] [true, true],
 .join 0 1 (.loop 1 [(ki 0), y4] (ups [.ev (.lenL y1),
 .ev (.bin .lss .int y8 y10)]
 (.ite y11 (ups [.join 2 1 (ups [.ev (.eaddr 12 y1 y8),
 .ev (.ld true 12 y9 y12),
 .wcall 26 y9 [(.tget 0 y3), y13] [true, true],
 .ev (.eaddr 1 (.tget 1 y7) y8),
 .ev (.ld false 1 y15 y16),
 .ev (.bin .neq .int (.tget 1 y14) y17)]
 (.ite y18 (.ret (.tcons (.tcons (.const (.v (.pointer none))) (.tcons (.const (.lst [])) (.tcons (kb false) .tnil))) (.tcons y15 .tnil))) (.jump 2 [y15] [(.tget 0 y14), (.tget 1 y14), (.tcons (.tget 0 y14) (.tcons (.tget 1 y14) .tnil)), (.tcons (.tget 0 y14) (.tcons (.tget 1 y14) .tnil)), (.tget 0 y14), (.tget 1 y14), (.tget 1 y14)]))),
 .ev (.bin .add .int y8 (ki 1))]
 (.jump 1 [y13, y12] [])) (.jump 0 [y9] []))))]
 (.ret (.tcons (.tcons (.tget 0 y3) (.tcons (.tget 0 y7) (.tcons (kb true) .tnil))) (.tcons y8 .tnil))))))
theorem ku30 : UOk Try.prog 30 .plain (autoCfg false WRA PAN [] [] Try.f30) [false, true] u30 := UOk.plain Try.func30 (by kernel_rfl) (by kernel_rfl)

noncomputable def u47 : U := (ups [.call 74 y2 [y0, (ki 1), y1] [true],
 .ev (.bin .neq .int y3 (ki 0))]
 (.ite y4 (.ret (.tcons (.tcons (.const (.lst [])) (.tcons y3 .tnil)) (.tcons y2 .tnil))) (ups [.chk (.nn y0),
 .chk (.padd 8 y0),
 .ev (.ld false 1 y2 (.padd 8 y0)),
 .ev (.lenL y5),
 .join 0 1 (.loop 1 [(.const (.lst [])), (ki 0)] (ups [.ev (.bin .lss .int y8 y6)]
 (.ite y9 (ups [.join 2 1 (ups [.ev (.eaddr 2 y5 y8),
 .ev (.ld true 2 y2 y10),
 .chk (.aggN 2 y11),
 .ev (.bin .add .int y8 (ki 1)),
 .join 3 8 (.loop 4 [y7, y12] (ups [.chk (.nn y0),
 .chk (.padd 8 y0),
 .ev (.ld false 1 y2 (.padd 8 y0)),
 .ev (.lenL y15),
 .ev (.bin .lss .int y14 y16)]
 (.ite y17 (ups [.join 5 1 (ups [.chk (.nn y0),
 .chk (.padd 8 y0),
 .ev (.ld false 1 y2 (.padd 8 y0)),
 .ev (.eaddr 2 y18 y14),
 .ev (.ld true 2 y2 y19),
 .call 85 y2 [y0, (agc 2 y11), y20, y1] [true],
 .join 6 1 (.ite y21 (ups [.ev (.cons (.scal y8) (.cons (.scal y14) .nil)),
 .ev (.lcons (.aggN 2 y22) (.const (.lst []))),
 .ev (.app 2 16 y13 y23)]
 (.jump 6 [y24] [])) (.jump 6 [y13] []))]
 (.jump 5 [y22] [])),
 .ev (.bin .add .int y14 (ki 1))]
 (.jump 4 [y18, y19] [])) (.jump 3 [y13, y14, y14, y0, (.padd 8 y0), y15, y16, y17] []))))]
 (.jump 2 [y13] [(.cell 0 y11), (.cell 1 y11)])),
 .ev (.bin .add .int y8 (ki 1))]
 (.jump 1 [y10, y11] [])) (.jump 0 [y7] []))))]
 (.ret (.tcons (.tcons y7 (.tcons (ki 0) .tnil)) (.tcons y2 .tnil))))))
theorem ku47 : UOk Try.prog 47 .plain (autoCfg true WRA PAN [] [] Try.f47) [true, true] u47 := UOk.plain Try.func47 (by kernel_rfl) (by kernel_rfl)

noncomputable def u85 : U := (ups [.chk (.aggN 2 y1),
 .chk (.aggN 2 y2),
 .call 72 y4 [y0, (agc 2 y1), y3] [true],
 .ev (.un .not y5),
 .chain true y6 (ups [.call 72 y4 [y0, (agc 2 y2), y3] [true],
 .ev (.un .not y7)]
 (.ret y8)),
 .chain true y7 (ups [.call 73 y4 [y0, (agc 2 y1), y3] [true],
 .ev (.bin .neq .int y8 (ki 5))]
 (.ret y9)),
 .chain true y8 (ups [.call 73 y4 [y0, (agc 2 y2), y3] [true],
 .ev (.bin .neq .int y9 (ki 5))]
 (.ret y10))]
 (.ite y9 (.ret (.tcons (kb false) (.tcons y4 .tnil))) (ups [.chk (.nn y0),
 .chk (.padd 7 y0),
 .ev (.ld false 1 y4 (.padd 7 y0)),
 .ev (.eaddr 12 y10 (.cell 0 y1)),
 .ev (.ld true 12 y4 y11),
 .chk (.nn y0),
 .chk (.padd 7 y0),
 .ev (.ld false 1 y4 (.padd 7 y0)),
 .ev (.eaddr 12 y13 (.cell 0 y2)),
 .ev (.ld true 12 y4 y14),
 .chk (.aggN 12 y12),
 .chk (.aggN 12 y15),
 .chk (.nn y0),
 .chk (.padd 0 y0),
 .ev (.ld true 6 y4 (.padd 0 y0)),
 .call 81 y4 [y16, (.cell 6 y12), (.cell 7 y12)] [true, true],
 .chk (.nn y0),
 .chk (.padd 0 y0),
 .ev (.ld true 6 y4 (.padd 0 y0)),
 .call 81 y4 [y18, (.cell 6 y15), (.cell 7 y15)] [true, true],
 .ev (.bin .neq .int (.tget 0 y17) (.tget 0 y19)),
 .chain true y20 (ups [.chk (.cell 8 y12),
 .chk (.cell 8 y15),
 .call 105 y4 [(.cell 8 y12), (.cell 8 y15)] [true],
 .ev (.un .not y21)]
 (.ret y22))]
 (.ite y21 (.ret (.tcons (kb false) (.tcons y4 .tnil))) (ups [.call 84 y4 [y0, (agc 2 y1), y3] [false, true],
 .chk (.aggN 12 (.tget 0 y22)),
 .call 84 y4 [y0, (agc 2 y2), y3] [false, true],
 .chk (.aggN 12 (.tget 0 y23)),
 .ev (.bin .neq .bool (.cell 10 (.tget 0 y22)) (.cell 10 (.tget 0 y23))),
 .chain true y24 (ups [.chk (.cell 10 (.tget 0 y22)),
 .chain false (.cell 10 (.tget 0 y22)) (ups [.chk (.cell 11 (.tget 0 y22)),
 .chk (.cell 11 (.tget 0 y23)),
 .ev (.bin .neq .int (.cell 11 (.tget 0 y22)) (.cell 11 (.tget 0 y23)))]
 (.ret y25))]
 (.ret y25))]
 (.ret (.tcons y25 (.tcons y4 .tnil))))))))
theorem ku85 : UOk Try.prog 85 .plain (autoCfg true WRA PAN [] [] Try.f85) [true, false, false, true] u85 := UOk.plain Try.func85 (by kernel_rfl) (by kernel_rfl)

noncomputable def u105 : U := (ups [.ev (.lenL y0),
 .ev (.lenL y1),
 .ev (.bin .neq .int y3 y4)]
 (.ite y5 (.ret (.tcons (kb false) (.tcons y2 .tnil))) (ups [.ev (.lenL y0),
 .join 0 0 (.loop 1 [(ki 0)] (ups [.ev (.bin .lss .int y7 y6)]
 (.ite y8 (ups [.join 2 0 (ups [.ev (.eaddr 1 y0 y7),
 .ev (.ld false 1 y2 y9),
 .ev (.eaddr 1 y1 y7),
 .ev (.ld false 1 y2 y11),
 .ev (.bin .neq .int y10 y12)]
 (.ite y13 (.ret (.tcons (kb false) (.tcons y2 .tnil))) (.jump 2 [] []))),
 .ev (.bin .add .int y7 (ki 1))]
 (.jump 1 [y9] [])) (.jump 0 [] []))))]
 (.ret (.tcons (kb true) (.tcons y2 .tnil))))))
theorem ku105 : UOk Try.prog 105 .plain (autoCfg true WRA PAN [] [] Try.f105) [true, true] u105 := UOk.plain Try.func105 (by kernel_rfl) (by kernel_rfl)

noncomputable def u11 : U := (ups [.chk (.aggN 6 y0),
 .call 21 y3 [(agc 6 y0)] [true],
 .ev (.un .not y4),
 .chain true y5 (ups [.call 22 y3 [y1, (ki 25)] [true],
 .ev (.un .not y6)]
 (.ret y7)),
 .chain true y6 (ups [.call 23 y3 [(agc 6 y0)] [true],
 .ev (.un .not y7)]
 (.ret y8))]
 (.ite y7 (ups [.call 16 y3 [] [true]]
 (.ret (.tcons y8 (.tcons y3 .tnil)))) (ups [.wcall 30 y3 [(agc 6 y0), y1] [true, true, true],
 .ev (.un .not (.tget 2 y8))]
 (.ite y10 (.ret (.tcons (kb false) (.tcons y9 .tnil))) (ups [.call 47 y9 [(.tget 0 y8), y2] [true, true],
 .ev (.bin .lss .int y2 (ki 0)),
 .chain true y12 (ups [.ev (.bin .gtr .int y2 (ki 10000000))]
 (.ret y13))]
 (.ite y13 (ups [.ev (.bin .eql .int (.tget 1 y11) (ki 2)),
 .chain false y14 (ups [.chk (.tget 0 y11),
 .ev (.lenL (.tget 0 y11)),
 .ev (.bin .eql .int y15 (ki 0))]
 (.ret y16)),
 .chain false y15 (ups [.call 16 y9 [] [true]]
 (.ret y16))]
 (.ret (.tcons y16 (.tcons y9 .tnil)))) (ups [.call 48 y9 [(agc 6 y0), (.tget 1 y8), y2] [true],
 .ev (.bin .neq .int (.tget 1 y11) (ki 0)),
 .chain true y15 (ups [.chk (.tget 0 y11),
 .ev (.lenL (.tget 0 y11)),
 .ev (.lenL y14),
 .ev (.bin .neq .int y16 y17)]
 (.ret y18))]
 (.ite y16 (.ret (.tcons (kb false) (.tcons y9 .tnil))) (ups [.join 0 0 (.loop 1 [(ki 0)] (ups [.ev (.lenL (.tget 0 y11)),
 .ev (.bin .lss .int y17 y18)]
 (.ite y19 (ups [.join 2 0 (ups [.ev (.eaddr 2 (.tget 0 y11) y17),
 .ev (.ld true 2 y9 y20),
 .ev (.eaddr 2 y14 y17),
 .ev (.ld true 2 y9 y22),
 .ev (.bin .neq (.agg [0, 0]) y21 y23)]
 (.ite y24 (.ret (.tcons (kb false) (.tcons y9 .tnil))) (.jump 2 [] []))),
 .ev (.bin .add .int y17 (ki 1))]
 (.jump 1 [y20] [])) (.jump 0 [] [])))),
 .call 16 y9 [] [true]]
 (.ret (.tcons y17 (.tcons y9 .tnil))))))))))))
theorem ku11 : UOk Try.prog 11 .plain (autoCfg false WRA PAN [] [] Try.f11) [false, true, true] u11 := UOk.plain Try.func11 (by kernel_rfl) (by kernel_rfl)

end Go.Am.Ap

/-
 The specification's functions, as texts.
-/
namespace Go.Am.Ap
open Go.Proofs

noncomputable def u22 : U := (ups [.join 0 0 (.loop 1 [(ki 0)] (ups [.ev (.lenL y0),
 .ev (.bin .lss .int y3 y4),
 .chain false y5 (ups [.ev (.bin .leq .int y3 y1)]
 (.ret y6))]
 (.ite y6 (ups [.join 2 0 (ups [.ev (.eaddr 12 y0 y3),
 .chk (.padd 8 y7),
 .ev (.ld false 1 y2 (.padd 8 y7)),
 .ev (.lenL y8),
 .ev (.bin .gtr .int y9 (ki 25))]
 (.ite y10 (.ret (.tcons (kb false) (.tcons y2 .tnil))) (.jump 2 [] []))),
 .ev (.bin .add .int y3 (ki 1))]
 (.jump 1 [y7] [])) (.jump 0 [] [])))),
 .ev (.lenL y0),
 .ev (.bin .leq .int y3 y1)]
 (.ret (.tcons y4 (.tcons y2 .tnil))))
theorem ku22 : UOk Try.prog 22 .plain (autoCfg true WRA PAN [] [] Try.f22) [true, true] u22 := UOk.plain Try.func22 (by kernel_rfl) (by kernel_rfl)

noncomputable def u25 : U := (ups [.chk (.aggN 6 y0),
 .chk (.aggN 12 y2),
 .call 57 y3 [(agc 6 y0), (agc 12 y2)] [true],
 .ev (.un .not y4),
 .chain true y5 (ups [.ev (.lenL y1),
 .ev (.bin .gtr .int y6 (ki 0)),
 .chain false y7 (ups [.chk (.cell 1 y2),
 .ev (.lenL y1),
 .ev (.bin .sub .int y8 (ki 1)),
 .ev (.eaddr 12 y1 y9),
 .chk (.padd 1 y10),
 .ev (.ld false 1 y3 (.padd 1 y10)),
 .ev (.bin .lss .int (.cell 1 y2) y11)]
 (.ret y12))]
 (.ret y8))]
 (.ite y6 (.ret (.tcons (ki 2) (.tcons y3 .tnil))) (ups [.ev (.lenL y1),
 .ev (.bin .geq .int y7 (ki 2000))]
 (.ite y8 (.ret (.tcons (ki 4) (.tcons y3 .tnil))) (ups [.ev (.bin .eql .int (.cell 0 y2) (ki 1))]
 (.ite y9 (ups [.call 58 y3 [y1, (.cell 2 y2)] [true],
 .ev (.bin .geq .int y10 (ki 0))]
 (.ite y11 (.ret (.tcons (ki 6) (.tcons y3 .tnil))) (.ret (.tcons (ki 0) (.tcons y3 .tnil))))) (ups [.ev (.bin .eql .int (.cell 0 y2) (ki 2))]
 (.ite y10 (ups [.call 58 y3 [y1, (.cell 2 y2)] [true],
 .call 40 y3 [(agc 6 y0), (.cell 6 y2), (.cell 7 y2)] [false, true],
 .chk (.aggN 4 (.tget 0 y12)),
 .ev (.bin .lss .int y11 (ki 0)),
 .chain true y13 (ups [.chk (.tget 1 y12),
 .ev (.un .not (.tget 1 y12))]
 (.ret y14))]
 (.ite y14 (.ret (.tcons (ki 5) (.tcons y3 .tnil))) (ups [.ev (.eaddr 12 y1 y11),
 .chk (.padd 1 y15),
 .ev (.ld false 1 y3 (.padd 1 y15)),
 .ev (.bin .sub .int (.cell 1 y2) y16),
 .ev (.bin .gtr .int y17 (.cell 2 y0))]
 (.ite y18 (.ret (.tcons (ki 8) (.tcons y3 .tnil))) (ups [.ev (.bin .neq .int (.cell 9 y2) (.cell 4 y0))]
 (.ite y19 (.ret (.tcons (ki 7) (.tcons y3 .tnil))) (.ret (.tcons (ki 0) (.tcons y3 .tnil))))))))) (ups [.call 27 y3 [y1] [true],
 .ev (.lenL y11),
 .ev (.bin .geq .int (.cell 3 y2) y12)]
 (.ite y13 (.ret (.tcons (ki 5) (.tcons y3 .tnil))) (ups [.ev (.eaddr 1 y11 (.cell 3 y2)),
 .ev (.ld false 1 y3 y14),
 .ev (.eaddr 12 y1 y15),
 .ev (.ld true 12 y3 y16),
 .chk (.aggN 12 y17),
 .call 59 y3 [y1, (ki 6), (.cell 3 y2), (ki 10000000)] [true],
 .ev (.bin .geq .int y18 (ki 0)),
 .call 59 y3 [y1, (ki 3), (.cell 3 y2), (ki 10000000)] [true],
 .call 59 y3 [y1, (ki 4), (.cell 3 y2), (ki 10000000)] [true],
 .ev (.bin .geq .int y21 (ki 0)),
 .call 59 y3 [y1, (ki 5), (.cell 3 y2), (ki 10000000)] [true],
 .ev (.bin .geq .int y23 (ki 0)),
 .join 0 0 (ups [.ev (.bin .eql .int (.cell 0 y2) (ki 3)),
 .join 1 0 (.ite y25 (ups [.chain true y19 (ups [.ev (.bin .geq .int y20 (ki 0))]
 (.ret y26))]
 (.ite y26 (.ret (.tcons (ki 6) (.tcons y3 .tnil))) (ups [.call 60 y3 [(agc 6 y0), y1, (agc 12 y2)] [true],
 .ev (.un .not y27)]
 (.ite y28 (.ret (.tcons (ki 7) (.tcons y3 .tnil))) (.jump 1 [] []))))) (ups [.ev (.bin .eql .int (.cell 0 y2) (ki 4)),
 .join 2 0 (.ite y26 (ups [.ev (.bin .lss .int y20 (ki 0)),
 .ev (.ite y27 (kb true) y22)]
 (.ite y28 (.ret (.tcons (ki 6) (.tcons y3 .tnil))) (ups [.ev (.bin .neq .int (.cell 4 y2) (.cell 4 y17)),
 .chain false y29 (ups [.chk (.cell 4 y2),
 .chk (.cell 5 y17),
 .ev (.bin .neq .int (.cell 4 y2) (.cell 5 y17))]
 (.ret y30))]
 (.ite y30 (.ret (.tcons (ki 7) (.tcons y3 .tnil))) (ups [.ev (.eaddr 12 y1 y20),
 .chk (.padd 1 y31),
 .ev (.ld false 1 y3 (.padd 1 y31)),
 .ev (.bin .sub .int (.cell 1 y2) y32),
 .ev (.bin .gtr .int y33 (.cell 3 y0))]
 (.ite y34 (.ret (.tcons (ki 8) (.tcons y3 .tnil))) (ups [.ev (.bin .neq .int (.cell 9 y2) (.cell 5 y0))]
 (.ite y35 (.ret (.tcons (ki 7) (.tcons y3 .tnil))) (.jump 2 [] []))))))))) (ups [.ev (.bin .eql .int (.cell 0 y2) (ki 5)),
 .join 3 0 (.ite y27 (ups [.ev (.un .not y22),
 .ev (.ite y28 (kb true) y24)]
 (.ite y29 (.ret (.tcons (ki 6) (.tcons y3 .tnil))) (ups [.call 60 y3 [(agc 6 y0), y1, (agc 12 y2)] [true],
 .ev (.un .not y30)]
 (.ite y31 (.ret (.tcons (ki 7) (.tcons y3 .tnil))) (.jump 3 [] []))))) (ups [.ev (.bin .eql .int (.cell 0 y2) (ki 6)),
 .join 4 0 (.ite y28 (ups [.chain true y19 (ups [.ev (.bin .geq .int y20 (ki 0))]
 (.ret y29))]
 (.ite y29 (.ret (.tcons (ki 6) (.tcons y3 .tnil))) (ups [.ev (.bin .neq .int (.cell 4 y2) (.cell 4 y17))]
 (.ite y30 (.ret (.tcons (ki 7) (.tcons y3 .tnil))) (.jump 4 [] []))))) (.jump 4 [] []))]
 (.jump 3 [] [])))]
 (.jump 2 [] [])))]
 (.jump 1 [] [])))]
 (.jump 0 [] []))]
 (.ret (.tcons (ki 0) (.tcons y3 .tnil))))))))))))))
theorem ku25 : UOk Try.prog 25 .plain (autoCfg true WRA PAN [] [] Try.f25) [false, true, false] u25 := UOk.plain Try.func25 (by kernel_rfl) (by kernel_rfl)

noncomputable def u27 : U := (ups [.join 0 1 (.loop 1 [(.const (.lst [])), (ki 0)] (ups [.ev (.lenL y0),
 .ev (.bin .lss .int y3 y4)]
 (.ite y5 (ups [.join 2 1 (ups [.ev (.eaddr 12 y0 y3),
 .chk (.padd 0 y6),
 .ev (.ld false 1 y1 (.padd 0 y6)),
 .ev (.bin .eql .int y7 (ki 2)),
 .join 3 1 (.ite y8 (ups [.ev (.lcons (.scal y3) (.const (.lst []))),
 .ev (.app 1 8 y2 y9)]
 (.jump 3 [y10] [])) (.jump 3 [y2] []))]
 (.jump 2 [y9] [])),
 .ev (.bin .add .int y3 (ki 1))]
 (.jump 1 [y6, y7] [])) (.jump 0 [y2] []))))]
 (.ret (.tcons y2 (.tcons y1 .tnil))))
theorem ku27 : UOk Try.prog 27 .plain (autoCfg true WRA PAN [] [] Try.f27) [true] u27 := UOk.plain Try.func27 (by kernel_rfl) (by kernel_rfl)

noncomputable def u33 : U := (ups [.chk (.aggN 6 y0),
 .call 27 y4 [y1] [true],
 .ev (.lenL y5),
 .ev (.bin .sub .int y6 (ki 1)),
 .call 55 y4 [y2, (ki 0), y7] [true],
 .ev (.un .not y8),
 .chain true y9 (ups [.ev (.eaddr 1 y5 y2),
 .ev (.ld false 1 y4 y10),
 .ev (.eaddr 12 y1 y11),
 .chk (.padd 1 y12),
 .ev (.ld false 1 y4 (.padd 1 y12)),
 .ev (.bin .gtr .int y13 y3)]
 (.ret y14))]
 (.ite y10 (.ret (.tcons (ki 0) (.tcons y4 .tnil))) (ups [.call 59 y4 [y1, (ki 6), y2, y3] [true],
 .ev (.bin .geq .int y11 (ki 0))]
 (.ite y12 (.ret (.tcons (ki 2) (.tcons y4 .tnil))) (ups [.call 59 y4 [y1, (ki 5), y2, y3] [true],
 .ev (.bin .geq .int y13 (ki 0))]
 (.ite y14 (.ret (.tcons (ki 5) (.tcons y4 .tnil))) (ups [.call 59 y4 [y1, (ki 4), y2, y3] [true],
 .ev (.bin .geq .int y15 (ki 0))]
 (.ite y16 (.ret (.tcons (ki 4) (.tcons y4 .tnil))) (ups [.call 59 y4 [y1, (ki 3), y2, y3] [true],
 .ev (.bin .lss .int y17 (ki 0))]
 (.ite y18 (.ret (.tcons (ki 1) (.tcons y4 .tnil))) (ups [.ev (.eaddr 12 y1 y17),
 .chk (.padd 1 y19),
 .ev (.ld false 1 y4 (.padd 1 y19)),
 .ev (.bin .sub .int y3 y20),
 .ev (.bin .gtr .int y21 (.cell 3 y0))]
 (.ite y22 (.ret (.tcons (ki 5) (.tcons y4 .tnil))) (.ret (.tcons (ki 3) (.tcons y4 .tnil)))))))))))))))
theorem ku33 : UOk Try.prog 33 .plain (autoCfg true WRA PAN [] [] Try.f33) [false, true, true, true] u33 := UOk.plain Try.func33 (by kernel_rfl) (by kernel_rfl)

noncomputable def u43 : U := (ups [.chk (.aggN 6 y0),
 .join 0 2 (.loop 1 [(.const (.lst [])), (.const (.lst [])), (ki 0)] (ups [.ev (.lenL y1),
 .ev (.bin .lss .int y5 y6)]
 (.ite y7 (ups [.join 2 2 (ups [.ev (.eaddr 12 y1 y5),
 .ev (.ld true 12 y2 y8),
 .call 25 y2 [(agc 6 y0), y3, y9] [true],
 .ev (.bin .eql .int y10 (ki 0)),
 .join 3 2 (.ite y11 (ups [.ev (.eaddr 12 y1 y5),
 .ev (.ld true 12 y2 y12),
 .ev (.lcons (.aggN 12 y13) (.const (.lst []))),
 .ev (.app 12 112 y3 y14)]
 (.jump 3 [y15, y3] [])) (.jump 3 [y3, y3] [])),
 .ev (.lcons (.scal y10) (.const (.lst []))),
 .ev (.app 1 8 y4 y14)]
 (.jump 2 [y12, y15] [])),
 .ev (.bin .add .int y5 (ki 1))]
 (.jump 1 [y8, y9, y10] [])) (.jump 0 [y3, y4] []))))]
 (.ret (.tcons (.tcons y3 (.tcons y4 .tnil)) (.tcons y2 .tnil))))
theorem ku43 : UOk Try.prog 43 .plain (autoCfg true WRA PAN [] [] Try.f43) [false, true] u43 := UOk.plain Try.func43 (by kernel_rfl) (by kernel_rfl)

noncomputable def u48 : U := (ups [.chk (.aggN 6 y0),
 .call 27 y3 [y1] [true],
 .join 0 1 (.loop 1 [(.const (.lst [])), (ki 0)] (ups [.ev (.lenL y4),
 .ev (.bin .lss .int y6 y7)]
 (.ite y8 (ups [.join 2 1 (ups [.ev (.bin .add .int y6 (ki 1)),
 .join 3 5 (.loop 4 [y5, y9] (ups [.ev (.lenL y4),
 .ev (.bin .lss .int y11 y12)]
 (.ite y13 (ups [.join 5 1 (ups [.call 33 y3 [(agc 6 y0), y1, y6, y2] [true],
 .ev (.bin .neq .int y14 (ki 5)),
 .chain true y15 (ups [.call 33 y3 [(agc 6 y0), y1, y11, y2] [true],
 .ev (.bin .neq .int y16 (ki 5))]
 (.ret y17))]
 (.ite y16 (.jump 5 [y10] []) (ups [.ev (.eaddr 1 y4 y6),
 .ev (.ld false 1 y3 y17),
 .ev (.eaddr 12 y1 y18),
 .ev (.ld true 12 y3 y19),
 .ev (.eaddr 1 y4 y11),
 .ev (.ld false 1 y3 y21),
 .ev (.eaddr 12 y1 y22),
 .ev (.ld true 12 y3 y23),
 .chk (.aggN 12 y20),
 .chk (.aggN 12 y24),
 .call 40 y3 [(agc 6 y0), (.cell 6 y20), (.cell 7 y20)] [false, true],
 .chk (.aggN 4 (.tget 0 y25)),
 .call 40 y3 [(agc 6 y0), (.cell 6 y24), (.cell 7 y24)] [false, true],
 .chk (.aggN 4 (.tget 0 y26)),
 .call 78 y3 [(agc 6 y0), y1, y6, y2] [true, true],
 .call 78 y3 [(agc 6 y0), y1, y11, y2] [true, true],
 .ev (.bin .eql (.agg [0, 0, 0, 0]) (agc 4 (.tget 0 y25)) (agc 4 (.tget 0 y26))),
 .chain false y29 (ups [.chk (.cell 8 y20),
 .chk (.cell 8 y24),
 .call 19 y3 [(.cell 8 y20), (.cell 8 y24)] [true]]
 (.ret y30)),
 .chain false y30 (ups [.chk (.tget 1 y27),
 .chk (.tget 1 y28),
 .ev (.bin .neq .bool (.tget 1 y27) (.tget 1 y28)),
 .chain true y31 (ups [.chk (.tget 1 y27),
 .chain false (.tget 1 y27) (ups [.chk (.tget 0 y27),
 .chk (.tget 0 y28),
 .ev (.bin .neq .int (.tget 0 y27) (.tget 0 y28))]
 (.ret y32))]
 (.ret y32))]
 (.ret y32)),
 .join 6 1 (.ite y31 (ups [.ev (.cons (.scal y6) (.cons (.scal y11) .nil)),
 .ev (.lcons (.aggN 2 y32) (.const (.lst []))),
 .ev (.app 2 16 y10 y33)]
 (.jump 6 [y34] [])) (.jump 6 [y10] []))]
 (.jump 5 [y32] [])))),
 .ev (.bin .add .int y11 (ki 1))]
 (.jump 4 [y14, y15] [])) (.jump 3 [y10, y11, y11, y12, y13] []))))]
 (.jump 2 [y10] [])),
 .ev (.bin .add .int y6 (ki 1))]
 (.jump 1 [y9, y10] [])) (.jump 0 [y5] []))))]
 (.ret (.tcons y5 (.tcons y3 .tnil))))
theorem ku48 : UOk Try.prog 48 .plain (autoCfg true WRA PAN [] [] Try.f48) [false, true, true] u48 := UOk.plain Try.func48 (by kernel_rfl) (by kernel_rfl)

noncomputable def u57 : U := (ups [.chk (.aggN 6 y0),
 .chk (.aggN 12 y1),
 .call 55 y2 [(.cell 1 y1), (ki 0), (ki 10000000)] [true],
 .ev (.un .not y3)]
 (.ite y4 (.ret (.tcons (kb false) (.tcons y2 .tnil))) (ups [.ev (.cons (.scal (.cell 0 y1)) (.cons (.scal (.cell 1 y1)) (.cons (.const (.agg [(.v (.int .i64 0))])) (.cons (.const (.agg [(.v (.int .i64 0))])) (.cons (.const (.agg [(.v (.int .i64 0))])) (.cons (.const (.agg [(.v (.int .i64 0))])) (.cons (.const (.agg [(.v (.int .i64 0))])) (.cons (.const (.agg [(.v (.int .i64 0))])) (.cons (.const (.agg [(.lst [])])) (.cons (.const (.agg [(.v (.int .i64 0))])) (.cons (.const (.agg [(.v (.bool false))])) (.cons (.const (.agg [(.v (.int .i64 0))])) .nil)))))))))))),
 .chk (.aggN 12 y5),
 .join 0 11 (ups [.ev (.bin .eql .int (.cell 0 y1) (ki 1)),
 .join 1 11 (.ite y6 (ups [.call 55 y2 [(.cell 2 y1), (ki 1), (ki 1000000)] [true]]
 (.jump 1 [y7, (.cell 2 y1), (.cell 3 y5), (.cell 4 y5), (.cell 5 y5), (.cell 6 y5), (.cell 7 y5), (.cell 8 y5), (.cell 9 y5), (.cell 10 y5), (.cell 11 y5)] [])) (ups [.ev (.bin .eql .int (.cell 0 y1) (ki 2)),
 .join 2 11 (.ite y7 (ups [.call 55 y2 [(.cell 4 y1), (ki 1), (.cell 0 y0)] [true],
 .chain false y8 (ups [.chk (.cell 5 y1),
 .chk (.cell 0 y0),
 .call 55 y2 [(.cell 5 y1), (ki 1), (.cell 0 y0)] [true]]
 (.ret y9)),
 .chain false y9 (ups [.chk (.cell 4 y1),
 .chk (.cell 5 y1),
 .ev (.bin .neq .int (.cell 4 y1) (.cell 5 y1))]
 (.ret y10)),
 .chain false y10 (ups [.chk (.cell 2 y1),
 .call 55 y2 [(.cell 2 y1), (ki 1), (ki 1000000)] [true]]
 (.ret y11)),
 .chain false y11 (ups [.chk (.cell 6 y1),
 .call 55 y2 [(.cell 6 y1), (ki 1), (ki 10000)] [true]]
 (.ret y12)),
 .chain false y12 (ups [.chk (.cell 7 y1),
 .chk (.cell 1 y1),
 .call 55 y2 [(.cell 7 y1), (ki 0), (.cell 1 y1)] [true]]
 (.ret y13)),
 .chain false y13 (ups [.chk (.cell 8 y1),
 .call 94 y2 [(.cell 8 y1)] [true]]
 (.ret y14)),
 .chain false y14 (ups [.chk (.cell 9 y1),
 .call 55 y2 [(.cell 9 y1), (ki 0), (ki 1000000000)] [true]]
 (.ret y15))]
 (.jump 2 [y15, (.cell 2 y1), (.cell 3 y5), (.cell 4 y1), (.cell 5 y1), (.cell 6 y1), (.cell 7 y1), (.cell 8 y1), (.cell 9 y1), (.cell 10 y5), (.cell 11 y5)] [])) (ups [.ev (.bin .eql .int (.cell 0 y1) (ki 3)),
 .join 3 1 (.ite y8 (.jump 3 [y8] []) (ups [.ev (.bin .eql .int (.cell 0 y1) (ki 5))]
 (.jump 3 [y9] []))),
 .join 3 5 (.ite y9 (ups [.ev (.bin .geq .int (.cell 3 y1) (ki 0)),
 .chain false y10 (ups [.chk (.cell 11 y1),
 .call 55 y2 [(.cell 11 y1), (ki 0), (ki 36000000)] [true]]
 (.ret y11))]
 (.jump 3 [y11, (.cell 4 y5), (.cell 9 y5), (.cell 10 y1), (.cell 11 y1)] [])) (ups [.ev (.bin .eql .int (.cell 0 y1) (ki 4)),
 .join 4 2 (.ite y10 (ups [.ev (.bin .geq .int (.cell 3 y1) (ki 0)),
 .chain false y11 (ups [.chk (.cell 4 y1),
 .chk (.cell 0 y0),
 .call 55 y2 [(.cell 4 y1), (ki 1), (.cell 0 y0)] [true]]
 (.ret y12)),
 .chain false y12 (ups [.chk (.cell 9 y1),
 .call 55 y2 [(.cell 9 y1), (ki 0), (ki 1000000000)] [true]]
 (.ret y13))]
 (.jump 4 [y13, (.cell 9 y1)] [])) (ups [.ev (.bin .eql .int (.cell 0 y1) (ki 6))]
 (.ite y11 (ups [.ev (.bin .geq .int (.cell 3 y1) (ki 0)),
 .chain false y12 (ups [.chk (.cell 4 y1),
 .chk (.cell 0 y0),
 .call 55 y2 [(.cell 4 y1), (ki 1), (.cell 0 y0)] [true]]
 (.ret y13))]
 (.jump 4 [y13, (.cell 9 y5)] [])) (.ret (.tcons (kb false) (.tcons y2 .tnil))))))]
 (.jump 3 [y11, (.cell 4 y1), y12, (.cell 10 y5), (.cell 11 y5)] [])))]
 (.jump 2 [y10, (.cell 2 y5), (.cell 3 y1), y11, (.cell 5 y5), (.cell 6 y5), (.cell 7 y5), (.cell 8 y5), y12, y13, y14] [])))]
 (.jump 1 [y8, y9, y10, y11, y12, y13, y14, y15, y16, y17, y18] [])))]
 (.jump 0 [y7, y8, y9, y10, y11, y12, y13, y14, y15, y16, y17] [])),
 .chain false y6 (ups [.call 71 y2 [(agc 12 y1), (.cons (.cell 0 y5) (.cons (.cell 1 y5) (.cons y7 (.cons y8 (.cons y9 (.cons y10 (.cons y11 (.cons y12 (.cons y13 (.cons y14 (.cons y15 (.cons y16 .nil))))))))))))] [true]]
 (.ret y17))]
 (.ret (.tcons y17 (.tcons y2 .tnil))))))
theorem ku57 : UOk Try.prog 57 .plain (autoCfg true WRA PAN [] [] Try.f57) [false, false] u57 := UOk.plain Try.func57 (by kernel_rfl) (by kernel_rfl)

noncomputable def u58 : U := (ups [.join 0 0 (.loop 1 [(ki 0)] (ups [.ev (.lenL y0),
 .ev (.bin .lss .int y3 y4)]
 (.ite y5 (ups [.join 2 0 (ups [.ev (.eaddr 12 y0 y3),
 .chk (.padd 0 y6),
 .ev (.ld false 1 y2 (.padd 0 y6)),
 .ev (.bin .eql .int y7 (ki 1)),
 .chain false y8 (ups [.ev (.eaddr 12 y0 y3),
 .chk (.padd 2 y9),
 .ev (.ld false 1 y2 (.padd 2 y9)),
 .ev (.bin .eql .int y10 y1)]
 (.ret y11))]
 (.ite y9 (.ret (.tcons y3 (.tcons y2 .tnil))) (.jump 2 [] []))),
 .ev (.bin .add .int y3 (ki 1))]
 (.jump 1 [y6] [])) (.jump 0 [] []))))]
 (.ret (.tcons (ki (-1)) (.tcons y2 .tnil))))
theorem ku58 : UOk Try.prog 58 .plain (autoCfg true WRA PAN [] [] Try.f58) [true, true] u58 := UOk.plain Try.func58 (by kernel_rfl) (by kernel_rfl)

noncomputable def u59 : U := (ups [.join 0 1 (.loop 1 [(ki (-1)), (ki 0)] (ups [.ev (.lenL y0),
 .ev (.bin .lss .int y6 y7)]
 (.ite y8 (ups [.join 2 1 (ups [.ev (.eaddr 12 y0 y6),
 .ev (.ld true 12 y4 y9),
 .chk (.aggN 12 y10),
 .ev (.bin .eql .int (.cell 0 y10) y1),
 .chain false y11 (ups [.chk (.cell 3 y10),
 .ev (.bin .eql .int (.cell 3 y10) y2)]
 (.ret y12)),
 .chain false y12 (ups [.chk (.cell 1 y10),
 .ev (.bin .leq .int (.cell 1 y10) y3)]
 (.ret y13)),
 .phi y13 [y6] [y5]]
 (.jump 2 [y14] [(.cell 0 y10), (.cell 0 y10), (.cell 1 y10), (.cell 2 y10), (.cell 3 y10), (.cell 4 y10), (.cell 5 y10), (.cell 6 y10), (.cell 7 y10), (.cell 8 y10), (.cell 9 y10), (.cell 10 y10), (.cell 11 y10)])),
 .ev (.bin .add .int y6 (ki 1))]
 (.jump 1 [y9, y10] [])) (.jump 0 [y5] []))))]
 (.ret (.tcons y5 (.tcons y4 .tnil))))
theorem ku59 : UOk Try.prog 59 .plain (autoCfg true WRA PAN [] [] Try.f59) [true, true, true, true] u59 := UOk.plain Try.func59 (by kernel_rfl) (by kernel_rfl)

noncomputable def u60 : U := (ups [.chk (.aggN 6 y0),
 .chk (.aggN 12 y2),
 .ev (.un .not (.cell 10 y2))]
 (.ite y4 (ups [.ev (.bin .eql .int (.cell 11 y2) (ki 0))]
 (.ret (.tcons y5 (.tcons y3 .tnil)))) (ups [.call 27 y3 [y1] [true],
 .ev (.eaddr 1 y5 (.cell 3 y2)),
 .ev (.ld false 1 y3 y6),
 .ev (.eaddr 12 y1 y7),
 .ev (.ld true 12 y3 y8),
 .chk (.aggN 12 y9),
 .call 40 y3 [(agc 6 y0), (.cell 6 y9), (.cell 7 y9)] [false, true],
 .chk (.aggN 4 (.tget 0 y10)),
 .call 55 y3 [(.cell 11 y2), (.cell 2 (.tget 0 y10)), (.cell 3 (.tget 0 y10))] [true]]
 (.ret (.tcons y11 (.tcons y3 .tnil))))))
theorem ku60 : UOk Try.prog 60 .plain (autoCfg true WRA PAN [] [] Try.f60) [false, true, false] u60 := UOk.plain Try.func60 (by kernel_rfl) (by kernel_rfl)

noncomputable def u71 : U := (ups [.chk (.aggN 12 y0),
 .chk (.aggN 12 y1),
 .ev (.bin .eql .int (.cell 0 y0) (.cell 0 y1)),
 .chain false y3 (ups [.chk (.cell 1 y0),
 .chk (.cell 1 y1),
 .ev (.bin .eql .int (.cell 1 y0) (.cell 1 y1))]
 (.ret y4)),
 .chain false y4 (ups [.chk (.cell 2 y0),
 .chk (.cell 2 y1),
 .ev (.bin .eql .int (.cell 2 y0) (.cell 2 y1))]
 (.ret y5)),
 .chain false y5 (ups [.chk (.cell 3 y0),
 .chk (.cell 3 y1),
 .ev (.bin .eql .int (.cell 3 y0) (.cell 3 y1))]
 (.ret y6)),
 .chain false y6 (ups [.chk (.cell 4 y0),
 .chk (.cell 4 y1),
 .ev (.bin .eql .int (.cell 4 y0) (.cell 4 y1))]
 (.ret y7)),
 .chain false y7 (ups [.chk (.cell 5 y0),
 .chk (.cell 5 y1),
 .ev (.bin .eql .int (.cell 5 y0) (.cell 5 y1))]
 (.ret y8)),
 .chain false y8 (ups [.chk (.cell 6 y0),
 .chk (.cell 6 y1),
 .ev (.bin .eql .int (.cell 6 y0) (.cell 6 y1))]
 (.ret y9)),
 .chain false y9 (ups [.chk (.cell 7 y0),
 .chk (.cell 7 y1),
 .ev (.bin .eql .int (.cell 7 y0) (.cell 7 y1))]
 (.ret y10)),
 .chain false y10 (ups [.chk (.cell 9 y0),
 .chk (.cell 9 y1),
 .ev (.bin .eql .int (.cell 9 y0) (.cell 9 y1))]
 (.ret y11)),
 .chain false y11 (ups [.chk (.cell 10 y0),
 .chk (.cell 10 y1),
 .ev (.bin .eql .bool (.cell 10 y0) (.cell 10 y1))]
 (.ret y12)),
 .chain false y12 (ups [.chk (.cell 11 y0),
 .chk (.cell 11 y1),
 .ev (.bin .eql .int (.cell 11 y0) (.cell 11 y1))]
 (.ret y13)),
 .chain false y13 (ups [.chk (.cell 8 y0),
 .chk (.cell 8 y1),
 .call 19 y2 [(.cell 8 y0), (.cell 8 y1)] [true]]
 (.ret y14))]
 (.ret (.tcons y14 (.tcons y2 .tnil))))
theorem ku71 : UOk Try.prog 71 .plain (autoCfg true WRA PAN [] [] Try.f71) [false, false] u71 := UOk.plain Try.func71 (by kernel_rfl) (by kernel_rfl)

noncomputable def u78 : U := (ups [.chk (.aggN 6 y0),
 .call 33 y4 [(agc 6 y0), y1, y2, y3] [true],
 .ev (.bin .neq .int y5 (ki 3)),
 .chain false y6 (ups [.ev (.bin .neq .int y5 (ki 5))]
 (.ret y7))]
 (.ite y7 (.ret (.tcons (.tcons (ki 0) (.tcons (kb false) .tnil)) (.tcons y4 .tnil))) (ups [.call 102 y4 [y1, y2, y3] [true],
 .ev (.eaddr 12 y1 y8),
 .ev (.ld true 12 y4 y9),
 .chk (.aggN 12 y10)]
 (.ret (.tcons (.tcons (.cell 11 y10) (.tcons (.cell 10 y10) .tnil)) (.tcons y4 .tnil))))))
theorem ku78 : UOk Try.prog 78 .plain (autoCfg true WRA PAN [] [] Try.f78) [false, true, true, true] u78 := UOk.plain Try.func78 (by kernel_rfl) (by kernel_rfl)

noncomputable def u94 : U := (ups [.join 0 0 (.loop 1 [(ki 0)] (ups [.ev (.lenL y0),
 .ev (.bin .lss .int y2 y3)]
 (.ite y4 (ups [.join 2 0 (ups [.ev (.eaddr 1 y0 y2),
 .ev (.ld false 1 y1 y5),
 .call 55 y1 [y6, (ki 1), (ki 1000)] [true],
 .ev (.un .not y7),
 .chain true y8 (ups [.ev (.bin .gtr .int y2 (ki 0)),
 .chain false y9 (ups [.ev (.eaddr 1 y0 y2),
 .ev (.ld false 1 y1 y10),
 .ev (.bin .sub .int y2 (ki 1)),
 .ev (.eaddr 1 y0 y12),
 .ev (.ld false 1 y1 y13),
 .ev (.bin .leq .int y11 y14)]
 (.ret y15))]
 (.ret y10))]
 (.ite y9 (.ret (.tcons (kb false) (.tcons y1 .tnil))) (.jump 2 [] []))),
 .ev (.bin .add .int y2 (ki 1))]
 (.jump 1 [y5] [])) (.jump 0 [] [])))),
 .ev (.lenL y0),
 .ev (.bin .leq .int y2 (ki 20))]
 (.ret (.tcons y3 (.tcons y1 .tnil))))
theorem ku94 : UOk Try.prog 94 .plain (autoCfg true WRA PAN [] [] Try.f94) [true] u94 := UOk.plain Try.func94 (by kernel_rfl) (by kernel_rfl)

noncomputable def u102 : U := (ups [.call 59 y3 [y0, (ki 3), y1, y2] [true],
 .call 59 y3 [y0, (ki 5), y1, y2] [true],
 .ev (.mm true y4 y5)]
 (.ret (.tcons y6 (.tcons y3 .tnil))))
theorem ku102 : UOk Try.prog 102 .plain (autoCfg true WRA PAN [] [] Try.f102) [true, true, true] u102 := UOk.plain Try.func102 (by kernel_rfl) (by kernel_rfl)

noncomputable def u19 : U := (ups [.ev (.lenL y0),
 .ev (.lenL y1),
 .ev (.bin .neq .int y3 y4)]
 (.ite y5 (.ret (.tcons (kb false) (.tcons y2 .tnil))) (ups [.join 0 0 (.loop 1 [(ki 0)] (ups [.ev (.lenL y0),
 .ev (.bin .lss .int y6 y7)]
 (.ite y8 (ups [.join 2 0 (ups [.ev (.eaddr 1 y0 y6),
 .ev (.ld false 1 y2 y9),
 .ev (.eaddr 1 y1 y6),
 .ev (.ld false 1 y2 y11),
 .ev (.bin .neq .int y10 y12)]
 (.ite y13 (.ret (.tcons (kb false) (.tcons y2 .tnil))) (.jump 2 [] []))),
 .ev (.bin .add .int y6 (ki 1))]
 (.jump 1 [y9] [])) (.jump 0 [] []))))]
 (.ret (.tcons (kb true) (.tcons y2 .tnil))))))
theorem ku19 : UOk Try.prog 19 .plain (autoCfg true WRA PAN [] [] Try.f19) [true, true] u19 := UOk.plain Try.func19 (by kernel_rfl) (by kernel_rfl)

end Go.Am.Ap

/-
 The court's functions, as texts.
-/
namespace Go.Am.Ap
open Go.Proofs

noncomputable def u26 : U := (ups [.chk (.aggN 12 y1),
 .ev (.newb 3 1 y2 (.const (.agg [(.v (.int .i64 0))]))),
 .ev (.newb 24 1 y3 (.const (.agg [(.v (.int .i64 0))]))),
 .call 61 y4 [y0] [true],
 .ev (.un .not y5)]
 (.ite y6 (ups [.ev (.sto 1 y4 (.fstid y2) (ki 0)),
 .ev (.sto 1 y7 (.fstid y3) (ki 1))]
 (.ret (.tcons (.tcons (.ld false 1 y8 (.fstid y2)) (.tcons (.ld false 1 y8 (.fstid y3)) .tnil)) (.tcons y8 .tnil)))) (ups [.call 62 y4 [y0, (agc 12 y1)] [true],
 .ev (.un .not y7),
 .chain true y8 (ups [.chk (.nn y0),
 .chk (.padd 7 y0),
 .ev (.ld false 1 y4 (.padd 7 y0)),
 .ev (.lenL y9),
 .ev (.bin .gtr .int y10 (ki 0)),
 .chain false y11 (ups [.chk (.cell 1 y1),
 .chk (.nn y0),
 .chk (.padd 7 y0),
 .ev (.ld false 1 y4 (.padd 7 y0)),
 .chk (.nn y0),
 .chk (.padd 7 y0),
 .ev (.ld false 1 y4 (.padd 7 y0)),
 .ev (.lenL y13),
 .ev (.bin .sub .int y14 (ki 1)),
 .ev (.eaddr 12 y12 y15),
 .chk (.padd 1 y16),
 .ev (.ld false 1 y4 (.padd 1 y16)),
 .ev (.bin .lss .int (.cell 1 y1) y17)]
 (.ret y18))]
 (.ret y12))]
 (.ite y9 (ups [.ev (.sto 1 y4 (.fstid y2) (ki 0)),
 .ev (.sto 1 y10 (.fstid y3) (ki 2))]
 (.ret (.tcons (.tcons (.ld false 1 y11 (.fstid y2)) (.tcons (.ld false 1 y11 (.fstid y3)) .tnil)) (.tcons y11 .tnil)))) (ups [.chk (.nn y0),
 .chk (.padd 7 y0),
 .ev (.ld false 1 y4 (.padd 7 y0)),
 .ev (.lenL y10),
 .ev (.bin .geq .int y11 (ki 2000))]
 (.ite y12 (ups [.ev (.sto 1 y4 (.fstid y2) (ki 0)),
 .ev (.sto 1 y13 (.fstid y3) (ki 4))]
 (.ret (.tcons (.tcons (.ld false 1 y14 (.fstid y2)) (.tcons (.ld false 1 y14 (.fstid y3)) .tnil)) (.tcons y14 .tnil)))) (ups [.dfr 63 [4, 5] [(.fstid y2), (.fstid y3)] (.tcons (.ld false 1 y2 y0) (.tcons (.ld false 1 y2 y1) .tnil)),
 .ev (.m4 .newm y4 .nil .nil .nil),
 .ev (.mkfn 64 (.tcons y0 .tnil) .tnil),
 .ev (.m4 (.put .int) y13 (.m4 .fstm y4 .nil .nil .nil) (ki 1) y14),
 .ev (.mkfn 65 (.tcons y0 .tnil) .tnil),
 .ev (.m4 (.put .int) y15 (.m4 .fstm y4 .nil .nil .nil) (ki 2) y16),
 .ev (.mkfn 66 (.tcons y0 .tnil) .tnil),
 .ev (.m4 (.put .int) y17 (.m4 .fstm y4 .nil .nil .nil) (ki 3) y18),
 .ev (.mkfn 67 (.tcons y0 .tnil) .tnil),
 .ev (.m4 (.put .int) y19 (.m4 .fstm y4 .nil .nil .nil) (ki 4) y20),
 .ev (.mkfn 68 (.tcons y0 .tnil) .tnil),
 .ev (.m4 (.put .int) y21 (.m4 .fstm y4 .nil .nil .nil) (ki 5) y22),
 .ev (.mkfn 69 (.tcons y0 .tnil) .tnil),
 .ev (.m4 (.put .int) y23 (.m4 .fstm y4 .nil .nil .nil) (ki 6) y24),
 .ev (.m4 (.get .int false) y25 (.m4 .fstm y4 .nil .nil .nil) (.cell 0 y1) (.const (.v .nilFunc))),
 .wpcallv y26 y25 [(agc 12 y1)] [true] [4, 5] [(.fstid y2), (.fstid y3)],
 .ev (.sto 1 y28 (.fstid y2) y27),
 .call 70 y29 [(.cell 8 y1)] [true],
 .ev (.ld false 1 y29 (.fstid y2)),
 .ev (.bin .geq .int y31 (ki 0)),
 .join 0 1 (.ite y32 (ups [.chk (.nn y0),
 .chk (.padd 8 y0),
 .ev (.ld false 1 y29 (.padd 8 y0)),
 .ev (.ld false 1 y29 (.fstid y2)),
 .chk (.nn y0),
 .chk (.padd 8 y0),
 .ev (.ld false 1 y29 (.padd 8 y0)),
 .ev (.ld false 1 y29 (.fstid y2)),
 .ev (.eaddr 2 y35 y36),
 .chk (.padd 1 y37),
 .ev (.ld false 1 y29 (.padd 1 y37)),
 .chk (.nn y0),
 .chk (.padd 7 y0),
 .ev (.ld false 1 y29 (.padd 7 y0)),
 .ev (.lenL y39),
 .ev (.lcons (.scal y40) (.const (.lst []))),
 .ev (.apph 3 1 8 y29 y38 y41),
 .ev (.eaddr 2 y33 y34),
 .chk (.padd 1 y43),
 .ev (.sto 1 y42 (.padd 1 y43) (.apps y29 y38 y41)),
 .ev (.m4 .same (.ld false 1 y29 (.padd 8 y0)) (.ld false 1 y42 (.padd 8 y0)) .nil .nil),
 .ev (.m4 .same (.ld false 1 y29 (.fstid y2)) (.ld false 1 y42 (.fstid y2)) .nil .nil)]
 (.jump 0 [y44] [])) (.jump 0 [y29] [])),
 .chk (.nn y0),
 .chk (.padd 7 y0),
 .ev (.ld false 1 y33 (.padd 7 y0)),
 .ev (.lcons (.aggN 12 (.cons (.cell 0 y1) (.cons (.cell 1 y1) (.cons (.cell 2 y1) (.cons (.cell 3 y1) (.cons (.cell 4 y1) (.cons (.cell 5 y1) (.cons (.cell 6 y1) (.cons (.cell 7 y1) (.cons y30 (.cons (.cell 9 y1) (.cons (.cell 10 y1) (.cons (.cell 11 y1) .nil))))))))))))) (.const (.lst []))),
 .ev (.apph 43 12 112 y33 y34 y35),
 .chk (.nn y0),
 .chk (.padd 7 y0),
 .ev (.sto 1 y36 (.padd 7 y0) (.apps y33 y34 y35)),
 .ev (.ld false 1 y37 (.fstid y2)),
 .ev (.sto 1 y37 (.fstid y2) y38),
 .ev (.sto 1 y39 (.fstid y3) (ki 0))]
 (.ret (.tcons (.tcons (.fstid y2) (.tcons (.fstid y3) .tnil)) (.tcons y40 .tnil))))))))))
theorem ku26 : UOk Try.prog 26 (.defers [4,5]) (autoCfg false WRA PAN [] [] Try.f26) [true, false] u26 := UOk.defers Try.func26 (by kernel_rfl) (by kernel_rfl)

noncomputable def u63 : U := (ups [.ev (.m4 (.ifnil true) y3 .nil .nil .nil),
 .join 0 1 (.ite y4 (ups [.ev (.m4 (.tassert 109) y3 (.const (.agg [(.v (.int .i64 0))])) .nil .nil),
 .chk (.aggN 1 (.tget 0 y5)),
 .ev (.un .not (.tget 1 y5)),
 .join 1 0 (.ite y6 (.pan (.m4 .isifc y3 .nil .nil .nil) y2 [] []) (.jump 1 [] [])),
 .ev (.sto 1 y2 y0 (ki 0)),
 .ev (.sto 1 y7 y1 (.cell 0 (.tget 0 y5)))]
 (.jump 0 [y8] [])) (.jump 0 [y2] []))]
 (.ret (.tcons .tnil (.tcons y5 .tnil))))
theorem ku63 : UOk Try.prog 63 .recovers (autoCfg false WRA PAN [] [] Try.f63) [true, true] u63 := UOk.recovers Try.func63 (by kernel_rfl) (by kernel_rfl)

noncomputable def u65 : U := (ups [.chk (.aggN 12 y1),
 .call 97 y2 [y0, (.cell 2 y1)] [true],
 .chk (.nn y0),
 .chk (.padd 0 y0),
 .ev (.ld true 6 y2 (.padd 0 y0)),
 .call 81 y2 [y4, (.cell 6 y1), (.cell 7 y1)] [true, true],
 .ev (.bin .lss .int y3 (ki 0)),
 .chain true y6 (ups [.chk (.tget 1 y5),
 .ev (.un .not (.tget 1 y5))]
 (.ret y7)),
 .pcall 96 y2 [y7, (ki 5)] [] [] [],
 .ev (.bin .sub .int (.cell 1 y1) y3),
 .chk (.nn y0),
 .chk (.padd 0 y0),
 .chk (.padd 2 (.padd 0 y0)),
 .ev (.ld false 1 y2 (.padd 2 (.padd 0 y0))),
 .ev (.bin .gtr .int y9 y10),
 .pcall 96 y2 [y11, (ki 8)] [] [] [],
 .chk (.nn y0),
 .chk (.padd 0 y0),
 .chk (.padd 4 (.padd 0 y0)),
 .ev (.ld false 1 y2 (.padd 4 (.padd 0 y0))),
 .ev (.bin .neq .int (.cell 9 y1) y13),
 .pcall 96 y2 [y14, (ki 7)] [] [] [],
 .chk (.nn y0),
 .chk (.padd 8 y0),
 .ev (.ld false 1 y2 (.padd 8 y0)),
 .chk (.nn y0),
 .chk (.padd 7 y0),
 .ev (.ld false 1 y2 (.padd 7 y0)),
 .ev (.lenL y17),
 .ev (.cons (.scal y18) (.cons (.const (.agg [.snil])) .nil)),
 .ev (.lcons (.aggN 2 y19) (.const (.lst []))),
 .ev (.apph 115 2 32 y2 y16 y20),
 .chk (.nn y0),
 .chk (.padd 8 y0),
 .ev (.sto 1 y21 (.padd 8 y0) (.apps y2 y16 y20)),
 .chk (.nn y0),
 .chk (.padd 8 y0),
 .ev (.ld false 1 y22 (.padd 8 y0)),
 .ev (.lenL y23),
 .ev (.bin .sub .int y24 (ki 1))]
 (.ret (.tcons y25 (.tcons y22 .tnil))))
theorem ku65 : UOk Try.prog 65 .plain { autoCfg false WRA PAN [] [] Try.f65 with nils := true } [true, false] u65 := UOk.plain Try.func65 (by kernel_rfl) (by kernel_rfl)

noncomputable def u61 : U := (ups [.ev (.bin .neq .ptr y0 (.const (.v (.pointer none)))),
 .chain false y2 (ups [.chk (.nn y0),
 .chk (.padd 6 y0),
 .ev (.ld false 1 y1 (.padd 6 y0))]
 (.ret y3))]
 (.ret (.tcons y3 (.tcons y1 .tnil))))
theorem ku61 : UOk Try.prog 61 .plain (autoCfg true WRA PAN [] [] Try.f61) [true] u61 := UOk.plain Try.func61 (by kernel_rfl) (by kernel_rfl)

noncomputable def u62 : U := (ups [.ev (.mkptr (.cons (.scal y0) .nil)),
 .chk (.aggN 12 y1),
 .ev (.mkfn 95 .tnil (.tcons y3 .tnil)),
 .ev (.cons (.scal (.cell 0 y1)) (.cons (.scal (.cell 1 y1)) (.cons (.const (.agg [(.v (.int .i64 0))])) (.cons (.const (.agg [(.v (.int .i64 0))])) (.cons (.const (.agg [(.v (.int .i64 0))])) (.cons (.const (.agg [(.v (.int .i64 0))])) (.cons (.const (.agg [(.v (.int .i64 0))])) (.cons (.const (.agg [(.v (.int .i64 0))])) (.cons (.const (.agg [(.lst [])])) (.cons (.const (.agg [(.v (.int .i64 0))])) (.cons (.const (.agg [(.v (.bool false))])) (.cons (.const (.agg [(.v (.int .i64 0))])) .nil)))))))))))),
 .chk (.aggN 12 y5),
 .ev (.lenL (.cell 8 y1)),
 .ev (.bin .eql .int y6 (ki 0)),
 .call 52 y2 [(.cell 1 y1), (ki 0), (ki 10000000)] [true],
 .join 0 11 (ups [.ev (.bin .eql .int (.cell 0 y1) (ki 1)),
 .join 1 11 (.ite y9 (ups [.chain false y8 (ups [.chk (.cell 2 y1),
 .call 52 y2 [(.cell 2 y1), (ki 1), (ki 1000000)] [true]]
 (.ret y10))]
 (.jump 1 [y7, y10, (.cell 2 y1), (.cell 3 y5), (.cell 4 y5), (.cell 5 y5), (.cell 6 y5), (.cell 7 y5), (.cell 9 y5), (.cell 10 y5), (.cell 11 y5)] [])) (ups [.ev (.bin .eql .int (.cell 0 y1) (ki 2)),
 .join 2 11 (.ite y10 (ups [.chain false y8 (ups [.chk (.cell 4 y1),
 .callv y4 y2 [(.cell 4 y1)] [true]]
 (.ret y11)),
 .chain false y11 (ups [.chk (.cell 5 y1),
 .callv y4 y2 [(.cell 5 y1)] [true]]
 (.ret y12)),
 .chain false y12 (ups [.chk (.cell 4 y1),
 .chk (.cell 5 y1),
 .ev (.bin .neq .int (.cell 4 y1) (.cell 5 y1))]
 (.ret y13)),
 .chain false y13 (ups [.chk (.cell 2 y1),
 .call 52 y2 [(.cell 2 y1), (ki 1), (ki 1000000)] [true]]
 (.ret y14)),
 .chain false y14 (ups [.chk (.cell 6 y1),
 .call 52 y2 [(.cell 6 y1), (ki 1), (ki 10000)] [true]]
 (.ret y15)),
 .chain false y15 (ups [.chk (.cell 7 y1),
 .chk (.cell 1 y1),
 .call 52 y2 [(.cell 7 y1), (ki 0), (.cell 1 y1)] [true]]
 (.ret y16)),
 .chain false y16 (ups [.chk (.cell 9 y1),
 .call 52 y2 [(.cell 9 y1), (ki 0), (ki 1000000000)] [true]]
 (.ret y17)),
 .ev (.lenL (.cell 8 y1)),
 .ev (.bin .leq .int y18 (ki 20)),
 .ev (.lenL (.cell 8 y1)),
 .join 3 1 (.loop 4 [y19, (ki 0)] (ups [.ev (.bin .lss .int y22 y20)]
 (.ite y23 (ups [.join 5 1 (ups [.ev (.eaddr 1 (.cell 8 y1) y22),
 .ev (.ld false 1 y2 y24),
 .chain false y21 (ups [.call 52 y2 [y25, (ki 1), (ki 1000)] [true]]
 (.ret y26)),
 .chain false y26 (ups [.ev (.bin .eql .int y22 (ki 0)),
 .chain true y27 (ups [.chk (.cell 8 y1),
 .ev (.bin .sub .int y22 (ki 1)),
 .ev (.eaddr 1 (.cell 8 y1) y28),
 .ev (.ld false 1 y2 y29),
 .ev (.bin .gtr .int y25 y30)]
 (.ret y31))]
 (.ret y28))]
 (.jump 5 [y27] [])),
 .ev (.bin .add .int y22 (ki 1))]
 (.jump 4 [y24, y25] [])) (.jump 3 [y21] []))))]
 (.jump 2 [y21, y17, (.cell 2 y1), (.cell 3 y5), (.cell 4 y1), (.cell 5 y1), (.cell 6 y1), (.cell 7 y1), (.cell 9 y1), (.cell 10 y5), (.cell 11 y5)] [])) (ups [.ev (.bin .eql .int (.cell 0 y1) (ki 3)),
 .join 3 1 (.ite y11 (.jump 3 [y11] []) (ups [.ev (.bin .eql .int (.cell 0 y1) (ki 5))]
 (.jump 3 [y12] []))),
 .join 3 5 (.ite y12 (ups [.chain false y8 (ups [.chk (.cell 3 y1),
 .ev (.bin .geq .int (.cell 3 y1) (ki 0))]
 (.ret y13)),
 .chain false y13 (ups [.chk (.cell 11 y1),
 .call 52 y2 [(.cell 11 y1), (ki 0), (ki 36000000)] [true]]
 (.ret y14))]
 (.jump 3 [y14, (.cell 4 y5), (.cell 9 y5), (.cell 10 y1), (.cell 11 y1)] [])) (ups [.ev (.bin .eql .int (.cell 0 y1) (ki 4)),
 .join 4 2 (.ite y13 (ups [.chain false y8 (ups [.chk (.cell 3 y1),
 .ev (.bin .geq .int (.cell 3 y1) (ki 0))]
 (.ret y14)),
 .chain false y14 (ups [.chk (.cell 4 y1),
 .callv y4 y2 [(.cell 4 y1)] [true]]
 (.ret y15)),
 .chain false y15 (ups [.chk (.cell 9 y1),
 .call 52 y2 [(.cell 9 y1), (ki 0), (ki 1000000000)] [true]]
 (.ret y16))]
 (.jump 4 [y16, (.cell 9 y1)] [])) (ups [.ev (.bin .eql .int (.cell 0 y1) (ki 6))]
 (.ite y14 (ups [.chain false y8 (ups [.chk (.cell 3 y1),
 .ev (.bin .geq .int (.cell 3 y1) (ki 0))]
 (.ret y15)),
 .chain false y15 (ups [.chk (.cell 4 y1),
 .callv y4 y2 [(.cell 4 y1)] [true]]
 (.ret y16))]
 (.jump 4 [y16, (.cell 9 y5)] [])) (.ret (.tcons (kb false) (.tcons y2 .tnil))))))]
 (.jump 3 [y14, (.cell 4 y1), y15, (.cell 10 y5), (.cell 11 y5)] [])))]
 (.jump 2 [y7, y13, (.cell 2 y5), (.cell 3 y1), y14, (.cell 5 y5), (.cell 6 y5), (.cell 7 y5), y15, y16, y17] [])))]
 (.jump 1 [y11, y12, y13, y14, y15, y16, y17, y18, y19, y20, y21] [])))]
 (.jump 0 [y10, y11, y12, y13, y14, y15, y16, y17, y18, y19, y20] [])),
 .ev (.ite y10 y9 (kb false)),
 .chain false y20 (ups [.chk (.cell 0 y1),
 .chk (.cell 0 y5),
 .ev (.bin .eql .int (.cell 0 y1) (.cell 0 y5))]
 (.ret y21)),
 .chain false y21 (ups [.chk (.cell 1 y1),
 .chk (.cell 1 y5),
 .ev (.bin .eql .int (.cell 1 y1) (.cell 1 y5))]
 (.ret y22)),
 .chain false y22 (ups [.chk (.cell 2 y1),
 .ev (.bin .eql .int (.cell 2 y1) y11)]
 (.ret y23)),
 .chain false y23 (ups [.chk (.cell 3 y1),
 .ev (.bin .eql .int (.cell 3 y1) y12)]
 (.ret y24)),
 .chain false y24 (ups [.chk (.cell 4 y1),
 .ev (.bin .eql .int (.cell 4 y1) y13)]
 (.ret y25)),
 .chain false y25 (ups [.chk (.cell 5 y1),
 .ev (.bin .eql .int (.cell 5 y1) y14)]
 (.ret y26)),
 .chain false y26 (ups [.chk (.cell 6 y1),
 .ev (.bin .eql .int (.cell 6 y1) y15)]
 (.ret y27)),
 .chain false y27 (ups [.chk (.cell 7 y1),
 .ev (.bin .eql .int (.cell 7 y1) y16)]
 (.ret y28)),
 .chain false y28 (ups [.chk (.cell 9 y1),
 .ev (.bin .eql .int (.cell 9 y1) y17)]
 (.ret y29)),
 .chain false y29 (ups [.chk (.cell 10 y1),
 .ev (.bin .eql .bool (.cell 10 y1) y18)]
 (.ret y30)),
 .chain false y30 (ups [.chk (.cell 11 y1),
 .ev (.bin .eql .int (.cell 11 y1) y19)]
 (.ret y31))]
 (.ret (.tcons y31 (.tcons y2 .tnil))))
theorem ku62 : UOk Try.prog 62 .plain (autoCfg true WRA PAN [] [] Try.f62) [true, false] u62 := UOk.plain Try.func62 (by kernel_rfl) (by kernel_rfl)

noncomputable def u95 : U := (ups [.ev (.ld false 1 y2 y1),
 .chk (.nn y3),
 .chk (.padd 0 y3),
 .chk (.padd 0 (.padd 0 y3)),
 .ev (.ld false 1 y2 (.padd 0 (.padd 0 y3))),
 .call 52 y2 [y0, (ki 1), y4] [true]]
 (.ret (.tcons y5 (.tcons y2 .tnil))))
theorem ku95 : UOk Try.prog 95 .plain (autoCfg true WRA PAN [] [] Try.f95) [true, true] u95 := UOk.plain Try.func95 (by kernel_rfl) (by kernel_rfl)

noncomputable def u64 : U := (ups [.chk (.aggN 12 y1),
 .call 97 y2 [y0, (.cell 2 y1)] [true],
 .ev (.bin .geq .int y3 (ki 0)),
 .pcall 96 y2 [y4, (ki 6)] [] [] []]
 (.ret (.tcons (ki (-1)) (.tcons y2 .tnil))))
theorem ku64 : UOk Try.prog 64 .plain (autoCfg true WRA PAN [] [] Try.f64) [true, false] u64 := UOk.plain Try.func64 (by kernel_rfl) (by kernel_rfl)

noncomputable def u66 : U := (ups [.chk (.aggN 12 y1),
 .pcall 98 y2 [y0, (.cell 3 y1)] [false] [] [],
 .chk (.aggN 2 y3),
 .pcall 99 y2 [y0, (agc 2 y3)] [true] [] [],
 .ev (.bin .neq .int y4 (ki 1)),
 .pcall 96 y2 [y5, (ki 6)] [] [] [],
 .pcall 100 y2 [y0, (agc 2 y3), (agc 12 y1)] [] [] []]
 (.ret (.tcons (.cell 3 y1) (.tcons y2 .tnil))))
theorem ku66 : UOk Try.prog 66 .plain (autoCfg true WRA PAN [] [] Try.f66) [true, false] u66 := UOk.plain Try.func66 (by kernel_rfl) (by kernel_rfl)

noncomputable def u67 : U := (ups [.chk (.aggN 12 y1),
 .pcall 98 y2 [y0, (.cell 3 y1)] [false] [] [],
 .chk (.aggN 2 y3),
 .pcall 99 y2 [y0, (agc 2 y3)] [true] [] [],
 .ev (.bin .neq .int y4 (ki 3)),
 .pcall 96 y2 [y5, (ki 6)] [] [] [],
 .chk (.nn y0),
 .chk (.padd 7 y0),
 .ev (.ld false 1 y2 (.padd 7 y0)),
 .ev (.eaddr 12 y7 (.cell 0 y3)),
 .ev (.ld true 12 y2 y8),
 .chk (.aggN 12 y9),
 .ev (.bin .neq .int (.cell 4 y1) (.cell 4 y9)),
 .chain false y10 (ups [.chk (.cell 4 y1),
 .chk (.cell 5 y9),
 .ev (.bin .neq .int (.cell 4 y1) (.cell 5 y9))]
 (.ret y11)),
 .pcall 96 y2 [y11, (ki 7)] [] [] [],
 .chk (.nn y0),
 .chk (.padd 7 y0),
 .ev (.ld false 1 y2 (.padd 7 y0)),
 .ev (.lenL (.cell 1 y3)),
 .ev (.bin .sub .int y14 (ki 1)),
 .ev (.eaddr 1 (.cell 1 y3) y15),
 .ev (.ld false 1 y2 y16),
 .ev (.eaddr 12 y13 y17),
 .chk (.padd 1 y18),
 .ev (.ld false 1 y2 (.padd 1 y18)),
 .ev (.bin .sub .int (.cell 1 y1) y19),
 .chk (.nn y0),
 .chk (.padd 0 y0),
 .chk (.padd 3 (.padd 0 y0)),
 .ev (.ld false 1 y2 (.padd 3 (.padd 0 y0))),
 .ev (.bin .gtr .int y20 y21),
 .pcall 96 y2 [y22, (ki 8)] [] [] [],
 .chk (.nn y0),
 .chk (.padd 0 y0),
 .chk (.padd 5 (.padd 0 y0)),
 .ev (.ld false 1 y2 (.padd 5 (.padd 0 y0))),
 .ev (.bin .neq .int (.cell 9 y1) y24),
 .pcall 96 y2 [y25, (ki 7)] [] [] []]
 (.ret (.tcons (.cell 3 y1) (.tcons y2 .tnil))))
theorem ku67 : UOk Try.prog 67 .plain (autoCfg true WRA PAN [] [] Try.f67) [true, false] u67 := UOk.plain Try.func67 (by kernel_rfl) (by kernel_rfl)

noncomputable def u68 : U := (ups [.chk (.aggN 12 y1),
 .pcall 98 y2 [y0, (.cell 3 y1)] [false] [] [],
 .chk (.aggN 2 y3),
 .pcall 99 y2 [y0, (agc 2 y3)] [true] [] [],
 .ev (.bin .neq .int y4 (ki 4)),
 .pcall 96 y2 [y5, (ki 6)] [] [] [],
 .pcall 100 y2 [y0, (agc 2 y3), (agc 12 y1)] [] [] []]
 (.ret (.tcons (.cell 3 y1) (.tcons y2 .tnil))))
theorem ku68 : UOk Try.prog 68 .plain (autoCfg true WRA PAN [] [] Try.f68) [true, false] u68 := UOk.plain Try.func68 (by kernel_rfl) (by kernel_rfl)

noncomputable def u69 : U := (ups [.chk (.aggN 12 y1),
 .pcall 98 y2 [y0, (.cell 3 y1)] [false] [] [],
 .chk (.aggN 2 y3),
 .pcall 99 y2 [y0, (agc 2 y3)] [true] [] [],
 .ev (.bin .neq .int y4 (ki 1)),
 .pcall 96 y2 [y5, (ki 6)] [] [] [],
 .chk (.nn y0),
 .chk (.padd 7 y0),
 .ev (.ld false 1 y2 (.padd 7 y0)),
 .ev (.eaddr 12 y7 (.cell 0 y3)),
 .chk (.padd 4 y8),
 .ev (.ld false 1 y2 (.padd 4 y8)),
 .ev (.bin .neq .int (.cell 4 y1) y9),
 .pcall 96 y2 [y10, (ki 7)] [] [] []]
 (.ret (.tcons (.cell 3 y1) (.tcons y2 .tnil))))
theorem ku69 : UOk Try.prog 69 .plain (autoCfg true WRA PAN [] [] Try.f69) [true, false] u69 := UOk.plain Try.func69 (by kernel_rfl) (by kernel_rfl)

noncomputable def u96 : U := (ups [.join 0 0 (.ite y0 (ups [.ev (.cons (.scal y1) .nil)]
 (.pan (.m4 .isifc (.ifc 109 y3) .nil .nil .nil) y2 [] [])) (.jump 0 [] []))]
 (.ret (.tcons .tnil (.tcons y2 .tnil))))
theorem ku96 : UOk Try.prog 96 .plain (autoCfg true WRA PAN [] [] Try.f96) [true, true] u96 := UOk.plain Try.func96 (by kernel_rfl) (by kernel_rfl)

noncomputable def u97 : U := (ups [.ev (.mkptr (.cons (.scal y1) .nil)),
 .chk (.nn y0),
 .chk (.padd 7 y0),
 .ev (.ld false 1 y2 (.padd 7 y0)),
 .ev (.mkfn 110 .tnil (.tcons y3 .tnil)),
 .call 86 y2 [y4, y5] [true],
 .ev (.bin .lss .int y6 (ki 0))]
 (.ite y7 (.ret (.tcons (ki (-1)) (.tcons y2 .tnil))) (ups [.chk (.nn y0),
 .chk (.padd 7 y0),
 .ev (.ld false 1 y2 (.padd 7 y0)),
 .ev (.eaddr 12 y8 y6),
 .chk (.padd 1 y9),
 .ev (.ld false 1 y2 (.padd 1 y9))]
 (.ret (.tcons y10 (.tcons y2 .tnil))))))
theorem ku97 : UOk Try.prog 97 .plain (autoCfg true WRA PAN [] [] Try.f97) [true, true] u97 := UOk.plain Try.func97 (by kernel_rfl) (by kernel_rfl)

noncomputable def u86 : U := (ups [.ev (.lenL y0),
 .join 0 0 (.loop 1 [(ki 0)] (ups [.ev (.bin .lss .int y4 y3)]
 (.ite y5 (ups [.join 2 0 (ups [.ev (.eaddr 12 y0 y4),
 .ev (.ld true 12 y2 y6),
 .callv y1 y2 [y7] [true]]
 (.ite y8 (.ret (.tcons y4 (.tcons y2 .tnil))) (.jump 2 [] []))),
 .ev (.bin .add .int y4 (ki 1))]
 (.jump 1 [y6] [])) (.jump 0 [] []))))]
 (.ret (.tcons (ki (-1)) (.tcons y2 .tnil))))
theorem ku86 : UOk Try.prog 86 .plain (autoCfg true WRA PAN [] [] Try.f86) [true, true] u86 := UOk.plain Try.func86 (by kernel_rfl) (by kernel_rfl)

noncomputable def u110 : U := (ups [.chk (.aggN 12 y0),
 .ev (.bin .eql .int (.cell 0 y0) (ki 1)),
 .chain false y3 (ups [.chk (.cell 2 y0),
 .ev (.ld false 1 y2 y1),
 .ev (.bin .eql .int (.cell 2 y0) y4)]
 (.ret y5))]
 (.ret (.tcons y4 (.tcons y2 .tnil))))
theorem ku110 : UOk Try.prog 110 .plain (autoCfg true WRA PAN [] [] Try.f110) [false, true] u110 := UOk.plain Try.func110 (by kernel_rfl) (by kernel_rfl)

noncomputable def u98 : U := (ups [.chk (.nn y0),
 .chk (.padd 8 y0),
 .ev (.ld false 1 y2 (.padd 8 y0)),
 .ev (.lenL y3),
 .ev (.bin .geq .int y1 y4),
 .pcall 96 y2 [y5, (ki 5)] [] [] [],
 .chk (.nn y0),
 .chk (.padd 8 y0),
 .ev (.ld false 1 y2 (.padd 8 y0)),
 .ev (.eaddr 2 y7 y1),
 .ev (.ld true 2 y2 y8),
 .chk (.aggN 2 y9)]
 (.ret (.tcons (agc 2 y9) (.tcons y2 .tnil))))
theorem ku98 : UOk Try.prog 98 .plain (autoCfg true WRA PAN [] [] Try.f98) [true, true] u98 := UOk.plain Try.func98 (by kernel_rfl) (by kernel_rfl)

noncomputable def u99 : U := (ups [.chk (.aggN 2 y1),
 .chk (.nn y0),
 .chk (.padd 7 y0),
 .ev (.ld false 1 y2 (.padd 7 y0)),
 .ev (.lenL (.cell 1 y1)),
 .ev (.bin .sub .int y4 (ki 1)),
 .ev (.eaddr 1 (.cell 1 y1) y5),
 .ev (.ld false 1 y2 y6),
 .ev (.eaddr 12 y3 y7),
 .chk (.padd 1 y8),
 .ev (.ld false 1 y2 (.padd 1 y8)),
 .call 73 y2 [y0, (agc 2 y1), y9] [true]]
 (.ret (.tcons y10 (.tcons y2 .tnil))))
theorem ku99 : UOk Try.prog 99 .plain (autoCfg true WRA PAN [] [] Try.f99) [true, false] u99 := UOk.plain Try.func99 (by kernel_rfl) (by kernel_rfl)

noncomputable def u73 : U := (ups [.chk (.aggN 2 y1),
 .ev (.lenL (.cell 1 y1)),
 .join 0 1 (.loop 1 [(ki 1), (ki 0)] (ups [.ev (.bin .lss .int y6 y4)]
 (.ite y7 (ups [.join 2 1 (ups [.ev (.eaddr 1 (.cell 1 y1) y6),
 .ev (.ld false 1 y3 y8),
 .chk (.nn y0),
 .chk (.padd 7 y0),
 .ev (.ld false 1 y3 (.padd 7 y0)),
 .ev (.eaddr 12 y10 y9),
 .ev (.ld true 12 y3 y11),
 .chk (.aggN 12 y12),
 .ev (.bin .gtr .int (.cell 1 y12) y2)]
 (.ite y13 (.jump 0 [y5] []) (ups [.join 3 3 (ups [.ev (.bin .eql .int (.cell 0 y12) (ki 6)),
 .join 4 1 (.ite y14 (.jump 4 [(ki 2)] []) (ups [.ev (.bin .eql .int (.cell 0 y12) (ki 3)),
 .join 5 1 (.ite y15 (ups [.ev (.bin .sub .int y2 (.cell 1 y12)),
 .chk (.nn y0),
 .chk (.padd 0 y0),
 .chk (.padd 3 (.padd 0 y0)),
 .ev (.ld false 1 y3 (.padd 3 (.padd 0 y0))),
 .ev (.bin .gtr .int y16 y17),
 .phi y18 [(ki 5)] [(ki 3)]]
 (.jump 5 [y19] [])) (ups [.ev (.bin .eql .int (.cell 0 y12) (ki 4)),
 .join 6 1 (.ite y16 (.jump 6 [(ki 4)] []) (ups [.ev (.bin .eql .int (.cell 0 y12) (ki 5)),
 .phi y17 [(ki 5)] [y5]]
 (.jump 6 [y18] [])))]
 (.jump 5 [y17] [])))]
 (.jump 4 [y16] [])))]
 (.jump 3 [y15, y14, y14] []))]
 (.jump 2 [y14] [(.cell 1 y12), (.cell 0 y12), (.cell 0 y12), (.cell 1 y12), (.cell 2 y12), (.cell 3 y12), (.cell 4 y12), (.cell 5 y12), (.cell 6 y12), (.cell 7 y12), (.cell 8 y12), (.cell 9 y12), (.cell 10 y12), (.cell 11 y12)])))),
 .ev (.bin .add .int y6 (ki 1))]
 (.jump 1 [y8, y9] [])) (.jump 0 [y5] []))))]
 (.ret (.tcons y5 (.tcons y3 .tnil))))
theorem ku73 : UOk Try.prog 73 .plain (autoCfg true WRA PAN [] [] Try.f73) [true, false, true] u73 := UOk.plain Try.func73 (by kernel_rfl) (by kernel_rfl)

noncomputable def u100 : U := (ups [.chk (.aggN 2 y1),
 .chk (.aggN 12 y2),
 .chk (.nn y0),
 .chk (.padd 7 y0),
 .ev (.ld false 1 y3 (.padd 7 y0)),
 .ev (.eaddr 12 y4 (.cell 0 y1)),
 .ev (.ld true 12 y3 y5),
 .chk (.aggN 12 y6),
 .chk (.nn y0),
 .chk (.padd 0 y0),
 .ev (.ld true 6 y3 (.padd 0 y0)),
 .call 81 y3 [y7, (.cell 6 y6), (.cell 7 y6)] [true, true],
 .chk (.nn y0),
 .chk (.padd 0 y0),
 .chk (.padd 1 (.padd 0 y0)),
 .ev (.ld false 1 y3 (.padd 1 (.padd 0 y0))),
 .ev (.eaddr 4 y9 (.tget 0 y8)),
 .ev (.ld true 4 y3 y10),
 .chk (.aggN 4 y11),
 .chain false (.cell 10 y2) (ups [.chk (.cell 11 y2),
 .chk (.cell 2 y11),
 .chk (.cell 3 y11),
 .call 52 y3 [(.cell 11 y2), (.cell 2 y11), (.cell 3 y11)] [true],
 .ev (.un .not y12)]
 (.ret y13)),
 .chain true y12 (ups [.chk (.cell 10 y2),
 .ev (.un .not (.cell 10 y2)),
 .chain false y13 (ups [.chk (.cell 11 y2),
 .ev (.bin .neq .int (.cell 11 y2) (ki 0))]
 (.ret y14))]
 (.ret y14)),
 .pcall 96 y3 [y13, (ki 7)] [] [] []]
 (.ret (.tcons .tnil (.tcons y3 .tnil))))
theorem ku100 : UOk Try.prog 100 .plain (autoCfg true WRA PAN [] [] Try.f100) [true, false, false] u100 := UOk.plain Try.func100 (by kernel_rfl) (by kernel_rfl)

noncomputable def u70 : U := (ups [.nilq y0 false]
 (.ite y2 (.ret (.tcons (.const (.lst [])) (.tcons y1 .tnil))) (ups [.ev (.app 1 8 (.const (.lst [])) y0)]
 (.ret (.tcons y3 (.tcons y1 .tnil))))))
theorem ku70 : UOk Try.prog 70 .plain (autoCfg true WRA PAN [] [] Try.f70) [true] u70 := UOk.plain Try.func70 (by kernel_rfl) (by kernel_rfl)

noncomputable def u74 : U := (ups [.call 61 y3 [y0] [true],
 .ev (.un .not y4)]
 (.ite y5 (.ret (.tcons (ki 1) (.tcons y3 .tnil))) (ups [.chk (.nn y0),
 .chk (.padd 0 y0),
 .chk (.padd 0 (.padd 0 y0)),
 .ev (.ld false 1 y3 (.padd 0 (.padd 0 y0))),
 .call 52 y3 [y1, (ki 1), y6] [true],
 .ev (.un .not y7),
 .chain true y8 (ups [.call 52 y3 [y2, (ki 0), (ki 10000000)] [true],
 .ev (.un .not y9)]
 (.ret y10))]
 (.ite y9 (.ret (.tcons (ki 2) (.tcons y3 .tnil))) (.ret (.tcons (ki 0) (.tcons y3 .tnil)))))))
theorem ku74 : UOk Try.prog 74 .plain (autoCfg true WRA PAN [] [] Try.f74) [true, true, true] u74 := UOk.plain Try.func74 (by kernel_rfl) (by kernel_rfl)

noncomputable def u72 : U := (ups [.chk (.aggN 2 y1),
 .chk (.nn y0),
 .chk (.padd 7 y0),
 .ev (.ld false 1 y3 (.padd 7 y0)),
 .ev (.eaddr 12 y4 (.cell 0 y1)),
 .chk (.padd 1 y5),
 .ev (.ld false 1 y3 (.padd 1 y5)),
 .ev (.bin .leq .int y6 y2)]
 (.ret (.tcons y7 (.tcons y3 .tnil))))
theorem ku72 : UOk Try.prog 72 .plain (autoCfg true WRA PAN [] [] Try.f72) [true, false, true] u72 := UOk.plain Try.func72 (by kernel_rfl) (by kernel_rfl)

noncomputable def u84 : U := (ups [.chk (.aggN 2 y1),
 .ev (.lenL (.cell 1 y1)),
 .join 0 13 (.loop 1 [(kb false), (ki 0), (ki 0), (ki 0), (ki 0), (ki 0), (ki 0), (ki 0), (ki 0), (ki 0), (.const (.lst [])), (ki 0), (kb false), (ki 0)] (ups [.ev (.bin .lss .int y6 y4)]
 (.ite y19 (ups [.join 2 13 (ups [.ev (.eaddr 1 (.cell 1 y1) y6),
 .ev (.ld false 1 y3 y20),
 .chk (.nn y0),
 .chk (.padd 7 y0),
 .ev (.ld false 1 y3 (.padd 7 y0)),
 .ev (.eaddr 12 y22 y21),
 .ev (.ld true 12 y3 y23),
 .chk (.aggN 12 y24),
 .ev (.bin .leq .int (.cell 1 y24) y2),
 .chain false y25 (ups [.chk (.cell 0 y24),
 .ev (.bin .eql .int (.cell 0 y24) (ki 3)),
 .chain true y26 (ups [.chk (.cell 0 y24),
 .ev (.bin .eql .int (.cell 0 y24) (ki 5))]
 (.ret y27))]
 (.ret y27)),
 .phi y26 [(kb true), (.cell 0 y24), (.cell 1 y24), (.cell 2 y24), (.cell 3 y24), (.cell 4 y24), (.cell 5 y24), (.cell 6 y24), (.cell 7 y24), (.cell 8 y24), (.cell 9 y24), (.cell 10 y24), (.cell 11 y24)] [y5, y7, y8, y9, y10, y11, y12, y13, y14, y15, y16, y17, y18]]
 (.jump 2 [y27, y28, y29, y30, y31, y32, y33, y34, y35, y36, y37, y38, y39] [(.cell 1 y24), (.cell 0 y24), (.cell 1 y24), (.cell 2 y24), (.cell 3 y24), (.cell 4 y24), (.cell 5 y24), (.cell 6 y24), (.cell 7 y24), (.cell 8 y24), (.cell 9 y24), (.cell 10 y24), (.cell 11 y24)])),
 .ev (.bin .add .int y6 (ki 1))]
 (.jump 1 [y20, y33, y21, y22, y23, y24, y25, y26, y27, y28, y29, y30, y31, y32] [])) (.jump 0 [y5, y7, y8, y9, y10, y11, y12, y13, y14, y15, y16, y17, y18] []))))]
 (.ret (.tcons (.tcons (.cons y6 (.cons y7 (.cons y8 (.cons y9 (.cons y10 (.cons y11 (.cons y12 (.cons y13 (.cons y14 (.cons y15 (.cons y16 (.cons y17 .nil)))))))))))) (.tcons y5 .tnil)) (.tcons y3 .tnil))))
theorem ku84 : UOk Try.prog 84 .plain (autoCfg true WRA PAN [] [] Try.f84) [true, false, true] u84 := UOk.plain Try.func84 (by kernel_rfl) (by kernel_rfl)

end Go.Am.Ap

/-
 More functions as texts: the law AppealCodes.
-/
namespace Go.Am.Ap
open Go.Proofs

noncomputable def t21 : T := (wrapBinds [(.ev (.aggN 6 y0)),
 (.ev (.lenL (.cell 1 y2))),
 (.ev (.bin .leq .int y3 (ki 20))),
 (.ev (.guard y4 false (.cell 1 y2))),
 (.ev (.guard y4 false (.lenL y5))),
 (.ev (.guard y4 false (.bin .gtr .int y6 (ki 500)))),
 (.ev (.guard y4 false (.guard y7 true (.cell 1 y2)))),
 (.ev (.guard y4 false (.guard y7 true (.lenL y8)))),
 (.ev (.guard y4 false (.guard y7 true (.bin .lss .int y9 (ki 600))))),
 (.ev (.guard y4 false (.ite y7 y10 (kb false)))),
 (.ev (.ite y4 (kb true) y11))]
 (.ret (.tcons y12 (.tcons y1 .tnil))))
noncomputable def e21 : Entry := { f := 21, kn := .plain, cf := (autoCfg true WRA PAN [] [] Try.f21), own := false, ones := [false], t := t21 }
theorem ok21 : EntOk Try.prog e21 := EntOk.ofPlain Try.func21 (by kernel_rfl) (by kernel_rfl)

noncomputable def t23 : T := (wrapBinds [(.ev (.aggN 6 y0)),
 (.call [] 55 y1 [(.cell 0 y2), (ki 1), (ki 200)] [true]),
 (.ev (.un .not y3)),
 (.ev (.guard y4 false (.cell 1 y2))),
 (.ev (.guard y4 false (.lenL y5))),
 (.call [(y4, false)] 55 y1 [y6, (ki 1), (ki 500)] [true]),
 (.ev (.guard y4 false (.un .not y7))),
 (.ev (.ite y4 (kb true) y8)),
 (.ev (.guard y9 false (.cell 2 y2))),
 (.call [(y9, false)] 55 y1 [y10, (ki 0), (ki 10000)] [true]),
 (.ev (.guard y9 false (.un .not y11))),
 (.ev (.ite y9 (kb true) y12)),
 (.ev (.guard y13 false (.cell 3 y2))),
 (.call [(y13, false)] 55 y1 [y14, (ki 0), (ki 10000)] [true]),
 (.ev (.guard y13 false (.un .not y15))),
 (.ev (.ite y13 (kb true) y16)),
 (.ev (.guard y17 false (.cell 4 y2))),
 (.call [(y17, false)] 55 y1 [y18, (ki 0), (ki 1000000000)] [true]),
 (.ev (.guard y17 false (.un .not y19))),
 (.ev (.ite y17 (kb true) y20)),
 (.ev (.guard y21 false (.cell 5 y2))),
 (.call [(y21, false)] 55 y1 [y22, (ki 0), (ki 1000000000)] [true]),
 (.ev (.guard y21 false (.un .not y23))),
 (.ev (.ite y21 (kb true) y24))]
 (.ite y25 (.ret (.tcons (kb false) (.tcons y1 .tnil))) (.join 0 4 (.loop 1 [(ki 0)] (wrapBinds [(.ev (.lenL (.cell 1 y2))),
 (.ev (.bin .lss .int y26 y27))]
 (.ite y28 (.join 2 18 (wrapBinds [(.ev (.eaddr 4 (.cell 1 y2) y26)),
 (.ev (.ld true 4 y1 y29)),
 (.ev (.aggN 4 y30)),
 (.call [] 55 y1 [(.cell 0 y31), (ki 1), (ki 10000)] [true]),
 (.ev (.un .not y32)),
 (.ev (.guard y33 false (.cell 1 y31))),
 (.call [(y33, false)] 55 y1 [y34, (ki 0), (ki 10000000)] [true]),
 (.ev (.guard y33 false (.un .not y35))),
 (.ev (.ite y33 (kb true) y36)),
 (.ev (.guard y37 false (.cell 2 y31))),
 (.ev (.guard y37 false (.cell 3 y31))),
 (.call [(y37, false)] 55 y1 [y38, (ki 0), y39] [true]),
 (.ev (.guard y37 false (.un .not y40))),
 (.ev (.ite y37 (kb true) y41)),
 (.ev (.guard y42 false (.cell 3 y31))),
 (.ev (.guard y42 false (.bin .gtr .int y43 (ki 36000000)))),
 (.ev (.ite y42 (kb true) y44))]
 (.ite y45 (.ret (.tcons (kb false) (.tcons y1 .tnil))) (wrapBinds [(.ev (.bin .gtr .int y26 (ki 0))),
 (.ev (.guard y46 true (.cell 0 y31))),
 (.ev (.guard y46 true (.cell 1 y2))),
 (.ev (.guard y46 true (.bin .sub .int y26 (ki 1)))),
 (.ev (.guard y46 true (.eaddr 4 y48 y49))),
 (.ev (.guard y46 true (.padd 0 y50))),
 (.ev (.guard y46 true (.ld false 1 y1 y51))),
 (.ev (.guard y46 true (.bin .lss .int y47 y52))),
 (.ev (.guard y46 true (.guard y53 false (.cell 0 y31)))),
 (.ev (.guard y46 true (.guard y53 false (.cell 1 y2)))),
 (.ev (.guard y46 true (.guard y53 false (.bin .sub .int y26 (ki 1))))),
 (.ev (.guard y46 true (.guard y53 false (.eaddr 4 y55 y56)))),
 (.ev (.guard y46 true (.guard y53 false (.padd 0 y57)))),
 (.ev (.guard y46 true (.guard y53 false (.ld false 1 y1 y58)))),
 (.ev (.guard y46 true (.guard y53 false (.bin .eql .int y54 y59)))),
 (.ev (.guard y46 true (.guard y53 false (.guard y60 true (.cell 1 y31))))),
 (.ev (.guard y46 true (.guard y53 false (.guard y60 true (.cell 1 y2))))),
 (.ev (.guard y46 true (.guard y53 false (.guard y60 true (.bin .sub .int y26 (ki 1)))))),
 (.ev (.guard y46 true (.guard y53 false (.guard y60 true (.eaddr 4 y62 y63))))),
 (.ev (.guard y46 true (.guard y53 false (.guard y60 true (.padd 1 y64))))),
 (.ev (.guard y46 true (.guard y53 false (.guard y60 true (.ld false 1 y1 y65))))),
 (.ev (.guard y46 true (.guard y53 false (.guard y60 true (.bin .leq .int y61 y66))))),
 (.ev (.guard y46 true (.guard y53 false (.ite y60 y67 (kb false))))),
 (.ev (.guard y46 true (.ite y53 (kb true) y68))),
 (.ev (.ite y46 y69 (kb false)))]
 (.ite y70 (.ret (.tcons (kb false) (.tcons y1 .tnil))) (.jump 2 [y29, y30, (.cell 0 y31), y32, y33, y33, y37, y37, y42, y42, y45, y46, y46, y70, (.cell 0 y31), (.cell 1 y31), (.cell 2 y31), (.cell 3 y31)]))))) (wrapBinds [(.ev (.bin .add .int y26 (ki 1)))]
 (.jump 1 [y47]))) (.jump 0 [y26, y26, y27, y28])))) (.ret (.tcons (kb true) (.tcons y1 .tnil))))))
noncomputable def e23 : Entry := { f := 23, kn := .plain, cf := (autoCfg true WRA PAN [] [] Try.f23), own := false, ones := [false], t := t23 }
theorem ok23 : EntOk Try.prog e23 := EntOk.ofPlain Try.func23 (by kernel_rfl) (by kernel_rfl)

noncomputable def t40 : T := (wrapBinds [(.ev (.aggN 6 y0))]
 (.join 0 9 (.loop 1 [(kb false), (ki 0), (ki 0), (ki 0), (ki 0), (ki 0)] (wrapBinds [(.ev (.lenL (.cell 1 y4))),
 (.ev (.bin .lss .int y6 y11))]
 (.ite y12 (.join 2 15 (wrapBinds [(.ev (.eaddr 4 (.cell 1 y4) y6)),
 (.ev (.ld true 4 y3 y13)),
 (.ev (.aggN 4 y14)),
 (.ev (.bin .eql .int (.cell 0 y15) y1)),
 (.ev (.guard y16 true (.cell 1 y15))),
 (.ev (.guard y16 true (.bin .leq .int y17 y2))),
 (.ev (.ite y16 y18 (kb false)))]
 (.join 3 5 (.ite y19 (.jump 3 [(kb true), (.cell 0 y15), (.cell 1 y15), (.cell 2 y15), (.cell 3 y15)]) (.jump 3 [y5, y7, y8, y9, y10])) (.jump 2 [y20, y13, y14, (.cell 0 y15), y16, y16, y19, y21, y22, y23, y24, (.cell 0 y15), (.cell 1 y15), (.cell 2 y15), (.cell 3 y15)]))) (wrapBinds [(.ev (.bin .add .int y6 (ki 1)))]
 (.jump 1 [y13, y28, y20, y21, y22, y23]))) (.jump 0 [y5, y6, y6, y11, y12, y7, y8, y9, y10])))) (.ret (.tcons (.tcons (.cons y10 (.cons y11 (.cons y12 (.cons y13 .nil)))) (.tcons y5 .tnil)) (.tcons y3 .tnil)))))
noncomputable def e40 : Entry := { f := 40, kn := .plain, cf := (autoCfg true WRA PAN [] [] Try.f40), own := false, ones := [false, true, true], t := t40 }
theorem ok40 : EntOk Try.prog e40 := EntOk.ofPlain Try.func40 (by kernel_rfl) (by kernel_rfl)

noncomputable def t55 : T := (wrapBinds [(.ev (.bin .geq .int y0 y1)),
 (.ev (.guard y4 true (.bin .leq .int y0 y2))),
 (.ev (.ite y4 y5 (kb false)))]
 (.ret (.tcons y6 (.tcons y3 .tnil))))
noncomputable def e55 : Entry := { f := 55, kn := .plain, cf := (autoCfg true WRA PAN [] [] Try.f55), own := false, ones := [true, true, true], t := t55 }
theorem ok55 : EntOk Try.prog e55 := EntOk.ofPlain Try.func55 (by kernel_rfl) (by kernel_rfl)

end Go.Am.Ap

/-
 The statements' examples answer as they say.
-/
namespace Go.Am.Ap
open Go.Proofs

theorem known_spec (bs : List D) : FSpecO Try.prog 16 (.st bs) [] (.ret (.v (.bool true))) :=
 (runOrc_ok (n := 200) tabKnown_ok 14).R 16 (.st bs) [] _ (by kernel_rfl)

end Go.Am.Ap

/-
 What the functions of the law AppealCodes answer.
-/
namespace Go.Am.Ap
open Go.Proofs

abbrev I (n : Int) : D := .v (.int .i64 n)
abbrev B (b : Bool) : D := .v (.bool b)

def inR (x lo hi : Int) : Bool := decide (lo ≤ x) && decide (x ≤ hi)

structure Art where
 n : Int
 f : Int
 l : Int
 m : Int

def Art.d (a : Art) : D := .agg [I a.n, I a.f, I a.l, I a.m]

structure Cod where
 cars : Int
 arts : List Art
 window : Int
 second : Int
 fee : Int
 price : Int

def Cod.d (c : Cod) : D := .agg [I c.cars, .lst (c.arts.map Art.d), I c.window, I c.second, I c.fee, I c.price]

def artBad (a : Art) : Bool := !(inR a.n 1 10000) || !(inR a.f 0 10000000) || !(inR a.l 0 a.m) || decide (36000000 < a.m)
def pairBad (b a : Art) : Bool := decide (a.n < b.n) || (decide (a.n = b.n) && decide (a.f ≤ b.f))
def okAt (xs : List Art) (i : Nat) : Bool := match xs[i]? with
 | some a => !artBad a && (match i with | 0 => true | j + 1 => match xs[j]? with | some b => !pairBad b a | none => true)
 | none => true
def headBad (c : Cod) : Bool := !(inR c.cars 1 200) || !(inR c.arts.length 1 500) || !(inR c.window 0 10000) || !(inR c.second 0 10000) || !(inR c.fee 0 1000000000) || !(inR c.price 0 1000000000)
def okCode (c : Cod) : Bool := !headBad c && (List.range c.arts.length).all (okAt c.arts)

variable {bs : List D}

theorem c55 (x lo hi : Int) : FSpecR Try.prog 55 (.st bs) [I x, I lo, I hi] (B (inR x lo hi)) := by
 refine ok55.specR rfl (by kernel_rfl) rfl ?_
 unfold inR
 refine st_ev rfl rfl ?_
 refine st_guard rfl rfl (fun h => ?_) (fun h => ?_) <;> rw [h]
 ·refine st_ev rfl rfl (st_ev rfl rfl (st_nil (st_ret rfl ?_)))
  simp_all
 ·refine st_ev rfl rfl (st_nil (st_ret rfl ?_))
  simp_all

theorem c52 (x lo hi : Int) : FSpecR Try.prog 52 (.st bs) [I x, I lo, I hi] (B (inR x lo hi)) := by
 refine ok52.specR rfl (by kernel_rfl) rfl ?_
 unfold inR
 refine st_ev rfl rfl ?_
 refine st_guard rfl rfl (fun h => ?_) (fun h => ?_) <;> rw [h]
 ·refine st_ev rfl rfl (st_ev rfl rfl (st_nil (st_ret rfl ?_)))
  simp_all
 ·refine st_ev rfl rfl (st_nil (st_ret rfl ?_))
  simp_all

theorem eaddr_at {xs : List Art} {i : Nat} {a : Art} (h : xs[i]? = some a) : D.eaddr 4 (.lst (xs.map Art.d)) (I i) = some (.ptr [I a.n, I a.f, I a.l, I a.m]) := by
 simp [D.eaddr, h, Art.d, D.cells]

theorem add_one {i : Nat} (h : i ≤ 1000000000) : D.bin .add .int (I i) (I 1) = some (I (i + 1 : Nat)) := by
 have : IntKind.i64.wrap ((i : Int) + 1) = (i : Int) + 1 := by simp [IntKind.wrap, IntKind.bits, IntKind.signed]; omega
 simp [D.bin, cmpI, arI, this]

theorem sub_one {i : Nat} (h : i + 1 ≤ 1000000000) : D.bin .sub .int (I (i + 1 : Nat)) (I 1) = some (I i) := by
 have : IntKind.i64.wrap (((i + 1 : Nat) : Int) - 1) = (i : Int) := by simp [IntKind.wrap, IntKind.bits, IntKind.signed]; omega
 simp only [D.bin, cmpI, arI, if_pos]
 simp only [this]
 rfl

theorem c104 (x : Int) : FSpecR Try.prog 104 (.st bs) [I x] (B false) := by
 refine ok104.specR rfl (by kernel_rfl) rfl ?_
 refine st_ev rfl rfl (st_nil (st_ret rfl ?_))
 simp

def cmpD (x y : Int) : Int := if x < y then -1 else if y < x then 1 else 0

theorem c83 (x y : Int) : FSpecR Try.prog 83 (.st bs) [I x, I y] (I (cmpD x y)) := by
 refine ok83.specR rfl (by kernel_rfl) rfl ?_
 unfold Entry.t e83 t83
 simp only [List.cons_append, List.nil_append]
 repeat' (first | ((with_reducible apply st_ev); (· rfl); (· simp only [sbe]; rfl)) | ((with_reducible apply st_call); (· rfl); (· rfl); (· exact c104 _); (· rfl); (· simp only [sbe]; rfl)) | (with_reducible refine st_nil ?_) | ((with_reducible apply st_ite); (· rfl); all_goals (intro h; (try simp only [Bool.not_true, Bool.not_false] at h); first | (cases h; done) | (exact absurd h (by decide)) | (exfalso; simp [IntKind.wrap, IntKind.bits, IntKind.signed] at h; done) | (exfalso; simp only [decide_eq_false_iff_not, decide_eq_true_eq] at h; omega) | (cases h) | skip)))
 all_goals (refine st_ret rfl ?_; simp_all [cmpD]; try omega)

def orD (x y : Int) : Int := if x = 0 then y else x

theorem c82 (x y : Int) : FSpecR Try.prog 82 (.st bs) [.lst [I x, I y]] (I (orD x y)) := by
 refine ok82.specR rfl (by kernel_rfl) rfl ?_
 unfold Entry.t e82 t82
 simp only [List.cons_append, List.nil_append]
 repeat' (first | ((with_reducible apply st_ev); (· rfl); (· simp only [sbe]; rfl)) | (with_reducible refine st_nil ?_))
 refine st_join ?_
 refine ⟨[I 0], rfl, 3, rfl, ?_⟩
 simp only [List.cons_append, List.nil_append]
 repeat' (first | ((with_reducible apply st_ev); (· rfl); (· simp only [sbe]; rfl)) | (with_reducible refine st_nil ?_) | ((with_reducible apply st_ite); (· rfl); all_goals (intro h; (try simp only [Bool.not_true, Bool.not_false] at h); first | (cases h; done) | (exact absurd h (by decide)) | (exfalso; simp [IntKind.wrap, IntKind.bits, IntKind.signed] at h; done) | (exfalso; simp only [decide_eq_false_iff_not, decide_eq_true_eq] at h; omega) | (cases h) | skip)))
 refine st_join ?_
 repeat' (first | ((with_reducible apply st_ev); (· rfl); (· simp only [sbe]; rfl)) | (with_reducible refine st_nil ?_) | ((with_reducible apply st_ite); (· rfl); all_goals (intro h; (try simp only [Bool.not_true, Bool.not_false] at h); first | (cases h; done) | (exact absurd h (by decide)) | (exfalso; simp [IntKind.wrap, IntKind.bits, IntKind.signed] at h; done) | (exfalso; simp only [decide_eq_false_iff_not, decide_eq_true_eq] at h; omega) | (cases h) | skip)))
 ·(with_reducible apply st_ret)
  ·rfl
  ·simp_all [catchL, orD]
 ·refine st_jump rfl (at_jump ⟨rfl, ?_⟩)
  simp only [List.cons_append, List.nil_append]
  repeat' (first | ((with_reducible apply st_ev); (· rfl); (· simp only [sbe]; rfl)) | (with_reducible refine st_nil ?_))
  refine st_jump rfl (at_jump ⟨rfl, ?_⟩)
  simp only [List.cons_append, List.nil_append]
  repeat' (first | ((with_reducible apply st_ev); (· rfl); (· simp only [sbe]; rfl)) | (with_reducible refine st_nil ?_) | ((with_reducible apply st_ite); (· rfl); all_goals (intro h; (try simp only [Bool.not_true, Bool.not_false] at h); first | (cases h; done) | (exact absurd h (by decide)) | (exfalso; simp [IntKind.wrap, IntKind.bits, IntKind.signed] at h; done) | (exfalso; simp only [decide_eq_false_iff_not, decide_eq_true_eq] at h; omega) | (cases h) | skip)))
  refine st_join ?_
  repeat' (first | ((with_reducible apply st_ev); (· rfl); (· simp only [sbe]; rfl)) | (with_reducible refine st_nil ?_) | ((with_reducible apply st_ite); (· rfl); all_goals (intro h; (try simp only [Bool.not_true, Bool.not_false] at h); first | (cases h; done) | (exact absurd h (by decide)) | (exfalso; simp [IntKind.wrap, IntKind.bits, IntKind.signed] at h; done) | (exfalso; simp only [decide_eq_false_iff_not, decide_eq_true_eq] at h; omega) | (cases h) | skip)))
  ·(with_reducible apply st_ret)
   ·rfl
   ·simp_all [catchL, orD]
  ·refine st_jump rfl (at_jump ⟨rfl, ?_⟩)
   simp only [List.cons_append, List.nil_append]
   repeat' (first | ((with_reducible apply st_ev); (· rfl); (· simp only [sbe]; rfl)) | (with_reducible refine st_nil ?_))
   refine st_jump rfl (at_jump ⟨rfl, ?_⟩)
   simp only [List.cons_append, List.nil_append]
   repeat' (first | ((with_reducible apply st_ev); (· rfl); (· simp only [sbe]; rfl)) | (with_reducible refine st_nil ?_) | ((with_reducible apply st_ite); (· rfl); all_goals (intro h; (try simp only [Bool.not_true, Bool.not_false] at h); first | (cases h; done) | (exact absurd h (by decide)) | (exfalso; simp [IntKind.wrap, IntKind.bits, IntKind.signed] at h; done) | (exfalso; simp only [decide_eq_false_iff_not, decide_eq_true_eq] at h; omega) | (cases h) | skip)))
   refine st_jump rfl (over_jump (Q := catchL 0 _ _) (by decide) (at_jump ⟨rfl, ?_⟩))
   refine st_ret rfl ?_
   simp_all [orD]

theorem okCode_no {c : Cod} {i : Nat} (h : i < c.arts.length) (hb : okAt c.arts i = false) : okCode c = false := by
 unfold okCode
 rw [Bool.and_eq_false_iff]
 right
 rw [List.all_eq_false]
 exact ⟨i, by simpa using h, by simp [hb]⟩

theorem okCode_yes {c : Cod} (hh : headBad c = false) (h : ∀ j, j < c.arts.length → okAt c.arts j = true) : okCode c = true := by
 unfold okCode
 rw [hh]
 simpa using h

theorem okAt_bad {xs : List Art} {i : Nat} {a : Art} (ha : xs[i]? = some a) (hb : artBad a = true) : okAt xs i = false := by simp [okAt, ha, hb]

theorem bad_at {xs : List Art} {j : Nat} {a b : Art} (ha : xs[j + 1]? = some a) (hb : xs[j]? = some b) (h : artBad a = true ∨ pairBad b a = true) : okAt xs (j + 1) = false := by
 unfold okAt
 rw [ha]
 simp only [hb]
 rcases h with h | h <;> simp [h]

theorem okAt_zero {xs : List Art} {a : Art} (ha : xs[0]? = some a) (hb : artBad a = false) : okAt xs 0 = true := by unfold okAt; rw [ha]; simp [hb]

theorem okAt_succ {xs : List Art} {j : Nat} {a b : Art} (ha : xs[j + 1]? = some a) (hb : xs[j]? = some b) (hA : artBad a = false) : okAt xs (j + 1) = !pairBad b a := by unfold okAt; rw [ha]; simp only [hb, hA]; simp

theorem pair_eq (b a : Art) : pairBad b a = decide (0 ≤ orD (cmpD b.n a.n) (cmpD b.f a.f)) := by
 unfold pairBad orD cmpD
 rw [Bool.eq_iff_iff]
 simp only [Bool.or_eq_true, Bool.and_eq_true, decide_eq_true_eq]
 split <;> split <;> first | omega | (split <;> omega) | (split <;> split <;> omega)

theorem st_sub {P : Program} {t : T} {bs : List Bind} {env env2 : List D} {Q : Sig → Prop} {y z : E} {i : Nat} (hy : y.eval env = some (I (i + 1 : Nat))) (hz : z.eval env = some (I 1)) (hi : i + 1 ≤ 1000000000) (he : env ++ [I i] = env2) (k : den P (wrapBinds bs t) env2 Q) : den P (wrapBinds (.ev (.bin .sub .int y z) :: bs) t) env Q := by
 subst he
 exact ⟨_, by simp only [E.eval, hy, hz, Option.bind_some]; exact sub_one hi, k⟩

theorem st_eaddr {P : Program} {t : T} {bs : List Bind} {env env2 : List D} {Q : Sig → Prop} {y z : E} {i : Nat} {xs : List Art} {a : Art} (hy : y.eval env = some (.lst (xs.map Art.d))) (hz : z.eval env = some (I i)) (ha : xs[i]? = some a) (he : env ++ [.ptr [I a.n, I a.f, I a.l, I a.m]] = env2) (k : den P (wrapBinds bs t) env2 Q) : den P (wrapBinds (.ev (.eaddr 4 y z) :: bs) t) env Q := by
 subst he
 exact ⟨_, by simp only [E.eval, hy, hz, Option.bind_some]; exact eaddr_at ha, k⟩

attribute [local irreducible] inR

theorem c41 (c : Cod) : FSpecR Try.prog 41 (.st bs) [c.d] (I (if okCode c then 0 else 2)) := by
 refine ok41.specR rfl (by kernel_rfl) rfl ?_
 unfold Entry.t e41 t41
 simp only [List.cons_append, List.nil_append]
 repeat' (first | ((with_reducible apply st_guard); (· rfl); (· simp only [sbe]; rfl); all_goals (intro h; (try simp only [Bool.not_true, Bool.not_false] at h); first | (cases h; done) | (exact absurd h (by decide)) | (exfalso; simp [IntKind.wrap, IntKind.bits, IntKind.signed] at h; done) | (exfalso; simp only [decide_eq_false_iff_not, decide_eq_true_eq] at h; omega) | (cases h) | (try rw [h]))) | ((with_reducible apply st_cond); (· rfl); all_goals (intro h; (try simp only [Bool.not_true, Bool.not_false] at h); first | (cases h; done) | (exact absurd h (by decide)) | (exfalso; simp [IntKind.wrap, IntKind.bits, IntKind.signed] at h; done) | (exfalso; simp only [decide_eq_false_iff_not, decide_eq_true_eq] at h; omega) | (cases h) | (try rw [h]))) | ((with_reducible apply st_callG); (· rfl); (· simp only [sbe]; rfl); all_goals (intro h; (try simp only [Bool.not_true, Bool.not_false] at h); first | (cases h; done) | (exact absurd h (by decide)) | (exfalso; simp [IntKind.wrap, IntKind.bits, IntKind.signed] at h; done) | (exfalso; simp only [decide_eq_false_iff_not, decide_eq_true_eq] at h; omega) | (cases h) | (try rw [h]))) | ((with_reducible apply st_ev); (· rfl); (· simp only [sbe]; rfl)) | ((with_reducible apply st_call); (· rfl); (· rfl); (· exact c52 _ _ _); (· rfl); (· simp only [sbe]; rfl)) | (with_reducible refine st_nil ?_) | ((with_reducible apply st_ite); (· rfl); all_goals (intro h; (try simp only [Bool.not_true, Bool.not_false] at h); first | (cases h; done) | (exact absurd h (by decide)) | (exfalso; simp [IntKind.wrap, IntKind.bits, IntKind.signed] at h; done) | (exfalso; simp only [decide_eq_false_iff_not, decide_eq_true_eq] at h; omega) | (cases h) | skip)))
 all_goals first | ((with_reducible apply st_ret); (· rfl); simp_all [okCode, headBad]; done) | skip
 have hh : headBad c = false := by simp_all [headBad]
 have hl : c.arts.length ≤ 500 := by
  have : inR (c.arts.length : Int) 1 500 = true := by simp_all
  unfold inR at this
  simp at this
  omega
 refine st_join ?_
 refine st_loop (fun k ds => ∃ i : Nat, ds = [I i] ∧ k = c.arts.length - i ∧ i ≤ c.arts.length ∧ ∀ j, j < i → okAt c.arts j = true) rfl c.arts.length ⟨0, rfl, rfl, Nat.zero_le _, fun _ h => absurd h (Nat.not_lt_zero _)⟩ ?_
 rintro k _ ⟨i, rfl, hk, hi, hall⟩
 refine ⟨rfl, fun R hR => ?_⟩
 simp only [List.cons_append, List.nil_append]
 refine st_ev rfl (by simp only [sbe]; rfl) (st_nil (st_ite rfl (fun hc => ?_) (fun hc => ?_)))
 ·have hlt : i < c.arts.length := by simpa using hc
  obtain ⟨a, ha⟩ : ∃ a, c.arts[i]? = some a := ⟨_, List.getElem?_eq_getElem hlt⟩
  refine st_join ?_
  refine st_ev (eaddr_at ha) (by simp only [sbe]; rfl) ?_
  repeat' (first | ((with_reducible apply st_guard); (· rfl); (· simp only [sbe]; rfl); all_goals (intro h; (try simp only [Bool.not_true, Bool.not_false] at h); first | (cases h; done) | (exact absurd h (by decide)) | (exfalso; simp [IntKind.wrap, IntKind.bits, IntKind.signed] at h; done) | (exfalso; simp only [decide_eq_false_iff_not, decide_eq_true_eq] at h; omega) | (cases h) | (try rw [h]))) | ((with_reducible apply st_cond); (· rfl); all_goals (intro h; (try simp only [Bool.not_true, Bool.not_false] at h); first | (cases h; done) | (exact absurd h (by decide)) | (exfalso; simp [IntKind.wrap, IntKind.bits, IntKind.signed] at h; done) | (exfalso; simp only [decide_eq_false_iff_not, decide_eq_true_eq] at h; omega) | (cases h) | (try rw [h]))) | ((with_reducible apply st_callG); (· rfl); (· simp only [sbe]; rfl); all_goals (intro h; (try simp only [Bool.not_true, Bool.not_false] at h); first | (cases h; done) | (exact absurd h (by decide)) | (exfalso; simp [IntKind.wrap, IntKind.bits, IntKind.signed] at h; done) | (exfalso; simp only [decide_eq_false_iff_not, decide_eq_true_eq] at h; omega) | (cases h) | (try rw [h]))) | ((with_reducible apply st_ev); (· rfl); (· simp only [sbe]; rfl)) | ((with_reducible apply st_call); (· rfl); (· rfl); (· exact c52 _ _ _); (· rfl); (· simp only [sbe]; rfl)) | (with_reducible refine st_nil ?_) | ((with_reducible apply st_ite); (· rfl); all_goals (intro h; (try simp only [Bool.not_true, Bool.not_false] at h); first | (cases h; done) | (exact absurd h (by decide)) | (exfalso; simp [IntKind.wrap, IntKind.bits, IntKind.signed] at h; done) | (exfalso; simp only [decide_eq_false_iff_not, decide_eq_true_eq] at h; omega) | (cases h) | skip)))
  all_goals first | ((with_reducible apply st_ret); (· rfl); (have hb : okAt c.arts i = false := okAt_bad ha (by simp_all [artBad])); simp only [catchL, okCode_no hlt hb]; rfl) | skip
  ·rename_i h
   have hA : artBad a = false := by
    unfold artBad
    have h' : decide (36000000 < a.m) = false := h
    simp_all
   refine st_join ?_
   refine st_ite rfl (fun hp => ?_) (fun hp => ?_)
   ·cases i with
    | zero => simp at hp
    | succ j =>
     obtain ⟨b, hb⟩ : ∃ b, c.arts[j]? = some b := ⟨_, List.getElem?_eq_getElem (by omega)⟩
     refine st_ev (sub_one (by omega)) (by simp only [sbe]; rfl) ?_
     refine st_ev (eaddr_at hb) (by simp only [sbe]; rfl) ?_
     repeat' (first | ((with_reducible apply st_ev); (· rfl); (· simp only [sbe]; rfl)) | ((with_reducible apply st_call); (· rfl); (· rfl); (· first | exact c83 _ _ | exact c82 _ _); (· rfl); (· simp only [sbe]; rfl)) | (with_reducible refine st_nil ?_) | ((with_reducible apply st_ite); (· rfl); all_goals (intro h; (try simp only [Bool.not_true, Bool.not_false] at h); first | (cases h; done) | (exact absurd h (by decide)) | (exfalso; simp [IntKind.wrap, IntKind.bits, IntKind.signed] at h; done) | (exfalso; simp only [decide_eq_false_iff_not, decide_eq_true_eq] at h; omega) | (cases h) | skip)))
     ·(with_reducible apply st_ret)
      ·rfl
      ·have h' : decide (0 ≤ orD (cmpD b.n a.n) (cmpD b.f a.f)) = true := h
       have hb2 : okAt c.arts (j + 1) = false := by rw [okAt_succ ha hb hA, pair_eq, h']; rfl
       simp only [catchL, okCode_no hlt hb2]
       rfl
     ·have h' : decide (0 ≤ orD (cmpD b.n a.n) (cmpD b.f a.f)) = false := h
      refine st_jump rfl (at_jump ⟨rfl, ?_⟩)
      simp only [List.cons_append, List.nil_append]
      refine st_jump rfl (at_jump ⟨rfl, ?_⟩)
      simp only [List.cons_append, List.nil_append]
      refine st_ev (add_one (i := j + 1) (by omega)) (by simp only [sbe]; rfl) (st_nil (st_jump rfl (at_jump (hR _ _ ?_ ⟨j + 1 + 1, rfl, rfl, by omega, fun q hq => ?_⟩))))
      ·omega
      ·rcases Nat.lt_or_ge q (j + 1) with h1 | h1
       ·exact hall _ h1
       ·have e : q = j + 1 := by omega
        rw [e]
        rw [okAt_succ ha hb hA, pair_eq, h']; rfl
   ·have hi0 : i = 0 := by simp at hp; omega
    subst hi0
    refine st_jump rfl (at_jump ⟨rfl, ?_⟩)
    simp only [List.cons_append, List.nil_append]
    refine st_jump rfl (at_jump ⟨rfl, ?_⟩)
    simp only [List.cons_append, List.nil_append]
    refine st_ev (add_one (i := 0) (by omega)) (by simp only [sbe]; rfl) (st_nil (st_jump rfl (at_jump (hR _ _ ?_ ⟨0 + 1, rfl, rfl, by omega, fun q hq => ?_⟩))))
    ·omega
    ·rcases Nat.lt_or_ge q (0) with h1 | h1
     ·exact hall _ h1
     ·have e : q = 0 := by omega
      rw [e]
      exact okAt_zero ha hA
 ·refine st_jump rfl (over_jump (by decide) (at_jump ⟨rfl, ?_⟩))
  refine st_ret rfl ?_
  have hlen : i = c.arts.length := by simp at hc; omega
  rw [okCode_yes hh (by rw [← hlen]; exact hall)]
  rfl

theorem c23 (c : Cod) : FSpecR Try.prog 23 (.st bs) [c.d] (B (okCode c)) := by
 refine ok23.specR rfl (by kernel_rfl) rfl ?_
 unfold Entry.t e23 t23
 simp only [List.cons_append, List.nil_append]
 repeat' (first | ((with_reducible apply st_guard); (· rfl); (· simp only [sbe]; rfl); all_goals (intro h; (try simp only [Bool.not_true, Bool.not_false] at h); first | (cases h; done) | (exact absurd h (by decide)) | (exfalso; simp [IntKind.wrap, IntKind.bits, IntKind.signed] at h; done) | (exfalso; simp only [decide_eq_false_iff_not, decide_eq_true_eq] at h; omega) | (cases h) | (try rw [h]))) | ((with_reducible apply st_cond); (· rfl); all_goals (intro h; (try simp only [Bool.not_true, Bool.not_false] at h); first | (cases h; done) | (exact absurd h (by decide)) | (exfalso; simp [IntKind.wrap, IntKind.bits, IntKind.signed] at h; done) | (exfalso; simp only [decide_eq_false_iff_not, decide_eq_true_eq] at h; omega) | (cases h) | (try rw [h]))) | ((with_reducible apply st_callG); (· rfl); (· simp only [sbe]; rfl); all_goals (intro h; (try simp only [Bool.not_true, Bool.not_false] at h); first | (cases h; done) | (exact absurd h (by decide)) | (exfalso; simp [IntKind.wrap, IntKind.bits, IntKind.signed] at h; done) | (exfalso; simp only [decide_eq_false_iff_not, decide_eq_true_eq] at h; omega) | (cases h) | (try rw [h]))) | ((with_reducible apply st_ev); (· rfl); (· simp only [sbe]; rfl)) | ((with_reducible apply st_call); (· rfl); (· rfl); (· exact c55 _ _ _); (· rfl); (· simp only [sbe]; rfl)) | (with_reducible refine st_nil ?_) | ((with_reducible apply st_ite); (· rfl); all_goals (intro h; (try simp only [Bool.not_true, Bool.not_false] at h); first | (cases h; done) | (exact absurd h (by decide)) | (exfalso; simp [IntKind.wrap, IntKind.bits, IntKind.signed] at h; done) | (exfalso; simp only [decide_eq_false_iff_not, decide_eq_true_eq] at h; omega) | (cases h) | skip)))
 all_goals first | ((with_reducible apply st_ret); (· rfl); simp_all [okCode, headBad]; done) | skip
 have hh : headBad c = false := by simp_all [headBad]
 have hl : c.arts.length ≤ 500 := by
  have : inR (c.arts.length : Int) 1 500 = true := by simp_all
  unfold inR at this
  simp at this
  omega
 refine st_join ?_
 refine st_loop (fun k ds => ∃ i : Nat, ds = [I i] ∧ k = c.arts.length - i ∧ i ≤ c.arts.length ∧ ∀ j, j < i → okAt c.arts j = true) rfl c.arts.length ⟨0, rfl, rfl, Nat.zero_le _, fun _ h => absurd h (Nat.not_lt_zero _)⟩ ?_
 rintro k _ ⟨i, rfl, hk, hi, hall⟩
 refine ⟨rfl, fun R hR => ?_⟩
 simp only [List.cons_append, List.nil_append]
 refine st_ev rfl (by simp only [sbe]; rfl) (st_ev rfl (by simp only [sbe]; rfl) (st_nil (st_ite rfl (fun hc => ?_) (fun hc => ?_))))
 ·have hlt : i < c.arts.length := by simpa using hc
  obtain ⟨a, ha⟩ : ∃ a, c.arts[i]? = some a := ⟨_, List.getElem?_eq_getElem hlt⟩
  refine st_join ?_
  rcases i with _ | j
  ·skip
   repeat' (first | ((with_reducible apply st_eaddr); (· rfl); (· rfl); (· exact ha); (· simp only [sbe]; rfl)) | ((with_reducible apply st_guard); (· rfl); (· simp only [sbe]; rfl); all_goals (intro h; (try simp only [Bool.not_true, Bool.not_false] at h); first | (cases h; done) | (exact absurd h (by decide)) | (exfalso; simp [IntKind.wrap, IntKind.bits, IntKind.signed] at h; done) | (exfalso; simp only [decide_eq_false_iff_not, decide_eq_true_eq] at h; omega) | (cases h) | (try rw [h]))) | ((with_reducible apply st_cond); (· rfl); all_goals (intro h; (try simp only [Bool.not_true, Bool.not_false] at h); first | (cases h; done) | (exact absurd h (by decide)) | (exfalso; simp [IntKind.wrap, IntKind.bits, IntKind.signed] at h; done) | (exfalso; simp only [decide_eq_false_iff_not, decide_eq_true_eq] at h; omega) | (cases h) | (try rw [h]))) | ((with_reducible apply st_callG); (· rfl); (· simp only [sbe]; rfl); all_goals (intro h; (try simp only [Bool.not_true, Bool.not_false] at h); first | (cases h; done) | (exact absurd h (by decide)) | (exfalso; simp [IntKind.wrap, IntKind.bits, IntKind.signed] at h; done) | (exfalso; simp only [decide_eq_false_iff_not, decide_eq_true_eq] at h; omega) | (cases h) | (try rw [h]))) | ((with_reducible apply st_ev); (· rfl); (· simp only [sbe]; rfl)) | ((with_reducible apply st_call); (· rfl); (· rfl); (· exact c55 _ _ _); (· rfl); (· simp only [sbe]; rfl)) | (with_reducible refine st_nil ?_) | ((with_reducible apply st_ite); (· rfl); all_goals (intro h; (try simp only [Bool.not_true, Bool.not_false] at h); first | (cases h; done) | (exact absurd h (by decide)) | (exfalso; simp [IntKind.wrap, IntKind.bits, IntKind.signed] at h; done) | (exfalso; simp only [decide_eq_false_iff_not, decide_eq_true_eq] at h; omega) | (cases h) | skip)))
   all_goals first | ((with_reducible apply st_ret); (· rfl); (have hb2 : okAt c.arts 0 = false := okAt_bad ha (by simp_all [artBad])); simp only [catchL, okCode_no hlt hb2]; (try rfl); done) | skip
   ·have hA : artBad a = false := by simp_all [artBad]
    refine st_jump rfl (at_jump ⟨rfl, ?_⟩)
    simp only [List.cons_append, List.nil_append]
    refine st_ev (add_one (i := 0) (by omega)) (by simp only [sbe]; rfl) (st_nil (st_jump rfl (at_jump (hR _ _ ?_ ⟨0 + 1, rfl, rfl, by omega, fun q hq => ?_⟩))))
    ·omega
    ·rcases Nat.lt_or_ge q (0) with h1 | h1
     ·exact hall _ h1
     ·have e : q = 0 := by omega
      rw [e]
      exact okAt_zero ha hA
  ·obtain ⟨b, hb⟩ : ∃ b, c.arts[j]? = some b := ⟨_, List.getElem?_eq_getElem (by omega)⟩
   repeat' (first | ((with_reducible apply st_sub); (· rfl); (· rfl); (· omega); (· simp only [sbe]; rfl)) | ((with_reducible apply st_eaddr); (· rfl); (· rfl); (· first | exact ha | exact hb); (· simp only [sbe]; rfl)) | ((with_reducible apply st_guard); (· rfl); (· simp only [sbe]; rfl); all_goals (intro h; (try simp only [Bool.not_true, Bool.not_false] at h); first | (cases h; done) | (exact absurd h (by decide)) | (exfalso; simp [IntKind.wrap, IntKind.bits, IntKind.signed] at h; done) | (exfalso; simp only [decide_eq_false_iff_not, decide_eq_true_eq] at h; omega) | (cases h) | (try rw [h]))) | ((with_reducible apply st_cond); (· rfl); all_goals (intro h; (try simp only [Bool.not_true, Bool.not_false] at h); first | (cases h; done) | (exact absurd h (by decide)) | (exfalso; simp [IntKind.wrap, IntKind.bits, IntKind.signed] at h; done) | (exfalso; simp only [decide_eq_false_iff_not, decide_eq_true_eq] at h; omega) | (cases h) | (try rw [h]))) | ((with_reducible apply st_callG); (· rfl); (· simp only [sbe]; rfl); all_goals (intro h; (try simp only [Bool.not_true, Bool.not_false] at h); first | (cases h; done) | (exact absurd h (by decide)) | (exfalso; simp [IntKind.wrap, IntKind.bits, IntKind.signed] at h; done) | (exfalso; simp only [decide_eq_false_iff_not, decide_eq_true_eq] at h; omega) | (cases h) | (try rw [h]))) | ((with_reducible apply st_ev); (· rfl); (· simp only [sbe]; rfl)) | ((with_reducible apply st_call); (· rfl); (· rfl); (· exact c55 _ _ _); (· rfl); (· simp only [sbe]; rfl)) | (with_reducible refine st_nil ?_) | ((with_reducible apply st_ite); (· rfl); all_goals (intro h; (try simp only [Bool.not_true, Bool.not_false] at h); first | (cases h; done) | (exact absurd h (by decide)) | (exfalso; simp [IntKind.wrap, IntKind.bits, IntKind.signed] at h; done) | (exfalso; simp only [decide_eq_false_iff_not, decide_eq_true_eq] at h; omega) | (cases h) | skip)))
   all_goals first | ((with_reducible apply st_ret); (· rfl); (have hb2 : okAt c.arts (j + 1) = false := bad_at ha hb (by simp_all [artBad, pairBad])); simp only [catchL, okCode_no hlt hb2]; (try rfl); done) | skip
   all_goals have hA : artBad a = false := by simp_all [artBad]
   all_goals have hP : pairBad b a = false := by simp_all [pairBad]
   all_goals (
    refine st_jump rfl (at_jump ⟨rfl, ?_⟩)
    simp only [List.cons_append, List.nil_append]
    refine st_ev (add_one (i := j + 1) (by omega)) (by simp only [sbe]; rfl) (st_nil (st_jump rfl (at_jump (hR _ _ ?_ ⟨j + 1 + 1, rfl, rfl, by omega, fun q hq => ?_⟩))))
    ·omega
    ·rcases Nat.lt_or_ge q (j + 1) with h1 | h1
     ·exact hall _ h1
     ·have e : q = j + 1 := by omega
      rw [e]
      rw [okAt_succ ha hb hA, hP]; rfl)
 ·refine st_jump rfl (over_jump (by decide) (at_jump ⟨rfl, ?_⟩))
  refine st_ret rfl ?_
  have hlen : i = c.arts.length := by simp at hc; omega
  rw [okCode_yes hh (by rw [← hlen]; exact hall)]

theorem c21 (c : Cod) : FSpecR Try.prog 21 (.st bs) [c.d] (B (decide ((c.arts.length : Int) ≤ 20) || (decide (500 < (c.arts.length : Int)) && decide ((c.arts.length : Int) < 600)))) := by
 refine ok21.specR rfl (by kernel_rfl) rfl ?_
 unfold Entry.t e21 t21
 simp only [List.cons_append, List.nil_append]
 repeat' (first | ((with_reducible apply st_guard); (· rfl); (· simp only [sbe]; rfl); all_goals (intro h; (try simp only [Bool.not_true, Bool.not_false] at h); first | (cases h; done) | (exact absurd h (by decide)) | (exfalso; simp [IntKind.wrap, IntKind.bits, IntKind.signed] at h; done) | (exfalso; simp only [decide_eq_false_iff_not, decide_eq_true_eq] at h; omega) | (cases h) | (try rw [h]))) | ((with_reducible apply st_cond); (· rfl); all_goals (intro h; (try simp only [Bool.not_true, Bool.not_false] at h); first | (cases h; done) | (exact absurd h (by decide)) | (exfalso; simp [IntKind.wrap, IntKind.bits, IntKind.signed] at h; done) | (exfalso; simp only [decide_eq_false_iff_not, decide_eq_true_eq] at h; omega) | (cases h) | (try rw [h]))) | ((with_reducible apply st_ev); (· rfl); (· simp only [sbe]; rfl)) | (with_reducible refine st_nil ?_))
 all_goals ((with_reducible apply st_ret); (· rfl); simp_all; try (intros; omega))

def hit (n m : Int) (a : Art) : Bool := decide (a.n = n) && decide (a.f ≤ m)

def ver (xs : List Art) (n m : Int) : Nat → Int
 | 0 => -1
 | i + 1 => match xs[i]? with
  | some a => if hit n m a then (i : Int) else ver xs n m i
  | none => ver xs n m i

def verArt (xs : List Art) (n m : Int) : Nat → Option Art
 | 0 => none
 | i + 1 => match xs[i]? with
  | some a => if hit n m a then some a else verArt xs n m i
  | none => verArt xs n m i

theorem ver_spec (xs : List Art) (n m : Int) : ∀ i, (ver xs n m i = -1 ∧ verArt xs n m i = none) ∨ ∃ (j : Nat) (a : Art), ver xs n m i = j ∧ xs[j]? = some a ∧ verArt xs n m i = some a
 | 0 => .inl ⟨rfl, rfl⟩
 | i + 1 => by
  simp only [ver, verArt]
  cases h : xs[i]? with
  | none => exact ver_spec xs n m i
  | some a =>
   simp only
   split
   ·exact .inr ⟨i, a, rfl, h, rfl⟩
   ·exact ver_spec xs n m i

theorem c81 (c : Cod) (n m : Int) (hl : c.arts.length ≤ 1000) : FSpecR Try.prog 81 (.st bs) [c.d, I n, I m] (.tup [I (ver c.arts n m c.arts.length), B (decide (0 ≤ ver c.arts n m c.arts.length))]) := by
 refine ok81.specR rfl (by kernel_rfl) rfl ?_
 unfold Entry.t e81 t81
 simp only [List.cons_append, List.nil_append]
 repeat' (first | ((with_reducible apply st_ev); (· rfl); (· simp only [sbe]; rfl)) | (with_reducible refine st_nil ?_))
 refine st_join ?_
 refine st_loop (fun k ds => ∃ i : Nat, ds = [I (ver c.arts n m i), I i] ∧ k = c.arts.length - i ∧ i ≤ c.arts.length) rfl c.arts.length ⟨0, rfl, rfl, Nat.zero_le _⟩ ?_
 rintro k _ ⟨i, rfl, hk, hi⟩
 refine ⟨rfl, fun R hR => ?_⟩
 simp only [List.cons_append, List.nil_append]
 refine st_ev rfl (by simp only [sbe]; rfl) (st_nil (st_ite rfl (fun hc => ?_) (fun hc => ?_)))
 ·have hlt : i < c.arts.length := by simpa using hc
  obtain ⟨a, ha⟩ : ∃ a, c.arts[i]? = some a := ⟨_, List.getElem?_eq_getElem hlt⟩
  refine st_join ?_
  repeat' (first | ((with_reducible apply st_eaddr); (· rfl); (· rfl); (· exact ha); (· simp only [sbe]; rfl)) | ((with_reducible apply st_guard); (· rfl); (· simp only [sbe]; rfl); all_goals (intro h; (try simp only [Bool.not_true, Bool.not_false] at h); first | (cases h; done) | (exact absurd h (by decide)) | (exfalso; simp [IntKind.wrap, IntKind.bits, IntKind.signed] at h; done) | (exfalso; simp only [decide_eq_false_iff_not, decide_eq_true_eq] at h; omega) | (cases h) | (try rw [h]))) | ((with_reducible apply st_cond); (· rfl); all_goals (intro h; (try simp only [Bool.not_true, Bool.not_false] at h); first | (cases h; done) | (exact absurd h (by decide)) | (exfalso; simp [IntKind.wrap, IntKind.bits, IntKind.signed] at h; done) | (exfalso; simp only [decide_eq_false_iff_not, decide_eq_true_eq] at h; omega) | (cases h) | (try rw [h]))) | ((with_reducible apply st_ev); (· rfl); (· simp only [sbe]; rfl)) | (with_reducible refine st_nil ?_))
  all_goals refine st_join ?_
  repeat' (((with_reducible apply st_ite); (· rfl); all_goals (intro h; (try simp only [Bool.not_true, Bool.not_false] at h); first | (cases h; done) | (exact absurd h (by decide)) | (exfalso; simp [IntKind.wrap, IntKind.bits, IntKind.signed] at h; done) | (exfalso; simp only [decide_eq_false_iff_not, decide_eq_true_eq] at h; omega) | (cases h) | skip)))
  all_goals (
   refine st_jump rfl (at_jump ⟨rfl, ?_⟩)
   simp only [List.cons_append, List.nil_append]
   refine st_jump rfl (at_jump ⟨rfl, ?_⟩)
   simp only [List.cons_append, List.nil_append]
   refine st_ev (add_one (i := i) (by omega)) (by simp only [sbe]; rfl) (st_nil (st_jump rfl (at_jump (hR _ _ ?_ ⟨i + 1, ?_, rfl, by omega⟩))))
   ·omega
   ·cases hH : hit n m a <;> first | (simp [ver, ha, hH]; done) | (exfalso; simp_all [hit]; (try omega); done))
 ·refine st_jump rfl (over_jump (by decide) (at_jump ⟨rfl, ?_⟩))
  simp only [List.cons_append, List.nil_append]
  have hlen : i = c.arts.length := by simp at hc; omega
  subst hlen
  repeat' (first | ((with_reducible apply st_ev); (· rfl); (· simp only [sbe]; rfl)) | (with_reducible refine st_nil ?_))
  refine st_ret rfl ?_
  rfl

def Art.zero : Art := ⟨0, 0, 0, 0⟩

theorem c40 (c : Cod) (n m : Int) (hl : c.arts.length ≤ 1000) : FSpecR Try.prog 40 (.st bs) [c.d, I n, I m] (.tup [((verArt c.arts n m c.arts.length).getD .zero).d, B (verArt c.arts n m c.arts.length).isSome]) := by
 refine ok40.specR rfl (by kernel_rfl) rfl ?_
 unfold Entry.t e40 t40
 simp only [List.cons_append, List.nil_append]
 repeat' (first | ((with_reducible apply st_ev); (· rfl); (· simp only [sbe]; rfl)) | (with_reducible refine st_nil ?_))
 refine st_join ?_
 refine st_loop (fun k ds => ∃ i : Nat, ds = [B (verArt c.arts n m i).isSome, I i, I ((verArt c.arts n m i).getD .zero).n, I ((verArt c.arts n m i).getD .zero).f, I ((verArt c.arts n m i).getD .zero).l, I ((verArt c.arts n m i).getD .zero).m] ∧ k = c.arts.length - i ∧ i ≤ c.arts.length) rfl c.arts.length ⟨0, rfl, rfl, Nat.zero_le _⟩ ?_
 rintro k _ ⟨i, rfl, hk, hi⟩
 refine ⟨rfl, fun R hR => ?_⟩
 simp only [List.cons_append, List.nil_append]
 refine st_ev rfl (by simp only [sbe]; rfl) (st_ev rfl (by simp only [sbe]; rfl) (st_nil (st_ite rfl (fun hc => ?_) (fun hc => ?_))))
 ·have hlt : i < c.arts.length := by simpa using hc
  obtain ⟨a, ha⟩ : ∃ a, c.arts[i]? = some a := ⟨_, List.getElem?_eq_getElem hlt⟩
  refine st_join ?_
  repeat' (first | ((with_reducible apply st_eaddr); (· rfl); (· rfl); (· exact ha); (· simp only [sbe]; rfl)) | ((with_reducible apply st_guard); (· rfl); (· simp only [sbe]; rfl); all_goals (intro h; (try simp only [Bool.not_true, Bool.not_false] at h); first | (cases h; done) | (exact absurd h (by decide)) | (exfalso; simp [IntKind.wrap, IntKind.bits, IntKind.signed] at h; done) | (exfalso; simp only [decide_eq_false_iff_not, decide_eq_true_eq] at h; omega) | (cases h) | (try rw [h]))) | ((with_reducible apply st_cond); (· rfl); all_goals (intro h; (try simp only [Bool.not_true, Bool.not_false] at h); first | (cases h; done) | (exact absurd h (by decide)) | (exfalso; simp [IntKind.wrap, IntKind.bits, IntKind.signed] at h; done) | (exfalso; simp only [decide_eq_false_iff_not, decide_eq_true_eq] at h; omega) | (cases h) | (try rw [h]))) | ((with_reducible apply st_ev); (· rfl); (· simp only [sbe]; rfl)) | (with_reducible refine st_nil ?_))
  all_goals refine st_join ?_
  repeat' (((with_reducible apply st_ite); (· rfl); all_goals (intro h; (try simp only [Bool.not_true, Bool.not_false] at h); first | (cases h; done) | (exact absurd h (by decide)) | (exfalso; simp [IntKind.wrap, IntKind.bits, IntKind.signed] at h; done) | (exfalso; simp only [decide_eq_false_iff_not, decide_eq_true_eq] at h; omega) | (cases h) | skip)))
  all_goals (
   refine st_jump rfl (at_jump ⟨rfl, ?_⟩)
   simp only [List.cons_append, List.nil_append]
   refine st_jump rfl (at_jump ⟨rfl, ?_⟩)
   simp only [List.cons_append, List.nil_append]
   refine st_ev (add_one (i := i) (by omega)) (by simp only [sbe]; rfl) (st_nil (st_jump rfl (at_jump (hR _ _ ?_ ⟨i + 1, ?_, rfl, by omega⟩))))
   ·omega
   ·cases hH : hit n m a <;> first | (simp [verArt, ha, hH]; done) | (exfalso; simp_all [hit]; (try omega); done))
 ·refine st_jump rfl (over_jump (by decide) (at_jump ⟨rfl, ?_⟩))
  simp only [List.cons_append, List.nil_append]
  have hlen : i = c.arts.length := by simp at hc; omega
  subst hlen
  refine st_ret rfl ?_
  rfl

def verRes (c : Cod) (n m : Int) : Art × Int :=
 if okCode c && inR n 1 10000 && inR m 0 10000000 then (match verArt c.arts n m c.arts.length with
  | some a => (a, 0)
  | none => (.zero, 5)) else (.zero, 2)

end Go.Am.Ap

/-
 The law AppealCodes.
-/
namespace Go.Am.Ap
open Go.Proofs

variable {bs : List D}

theorem app_ok {xs : List Art} (hl : xs.length ≤ 1000) : D.app 4 32 (.lst []) (.lst (xs.map Art.d)) = some (.lst (xs.map Art.d)) := by
 have h1 : allCells 4 (xs.map Art.d) = true := by simp [allCells, Art.d, D.cells]
 have h2 : allCells 4 [] = true := rfl
 simp only [D.app, h1, h2]
 rw [if_pos]
 ·rfl
 ·simp [maxLen]; omega

theorem c56 (xs : List Art) (hl : xs.length ≤ 1000) : FSpecR Try.prog 56 (.st bs) [.lst (xs.map Art.d)] (.lst (xs.map Art.d)) := by
 refine ok56.specR rfl (by kernel_rfl) rfl ?_
 unfold Entry.t e56 t56
 simp only [List.cons_append, List.nil_append]
 cases xs with
 | nil =>
  refine ⟨.lst [], [true, false], rfl, rfl, fun b hb => ?_⟩
  simp only [List.cons_append, List.nil_append]
  rcases b with _ | _
  repeat' (first | ((with_reducible apply st_ev); (· rfl); (· simp only [sbe]; rfl)) | (with_reducible refine st_nil ?_) | ((with_reducible apply st_ite); (· rfl); all_goals (intro h; (try simp only [Bool.not_true, Bool.not_false] at h); first | (cases h; done) | (exact absurd h (by decide)) | (exfalso; simp [IntKind.wrap, IntKind.bits, IntKind.signed] at h; done) | (exfalso; simp only [decide_eq_false_iff_not, decide_eq_true_eq] at h; omega) | (cases h) | skip)))
  all_goals ((with_reducible apply st_ret); (· rfl); rfl)
 | cons a xs =>
  refine ⟨.lst ((a :: xs).map Art.d), [false], rfl, rfl, fun b hb => ?_⟩
  simp only [List.cons_append, List.nil_append]
  have hb' : b = false := by simpa using hb
  subst hb'
  refine st_ite rfl (fun h => absurd h (by decide)) (fun _ => ?_)
  refine st_ev rfl (by simp only [sbe]; rfl) ?_
  refine st_ev (app_ok hl) (by simp only [sbe]; rfl) (st_nil (st_ret rfl rfl))

def court (c : Cod) : D := .blk 99 9 [I c.cars, .lst (c.arts.map Art.d), I c.window, I c.second, I c.fee, I c.price, B true, .snil, .snil]

end Go.Am.Ap

/-
 Acts as data.
-/
namespace Go.Am.Ap
open Go.Proofs

structure Akt where
 kind : Int
 minute : Int
 paper : Int
 cse : Int
 by_ : Int
 against : Int
 article : Int
 at_ : Int
 facts : List Int
 paid : Int
 upheld : Bool
 penalty : Int

abbrev Is (l : List Int) : D := .lst (l.map I)

def Akt.cs (a : Akt) : List D := [I a.kind, I a.minute, I a.paper, I a.cse, I a.by_, I a.against, I a.article, I a.at_, Is a.facts, I a.paid, B a.upheld, I a.penalty]
def Akt.d (a : Akt) : D := .agg a.cs

def shArt : Sh := .st [.int .i64, .int .i64, .int .i64, .int .i64]
def shCode : Sh := .st [.int .i64, .sl shArt, .int .i64, .int .i64, .int .i64, .int .i64]
def shAct : Sh := .st [.int .i64, .int .i64, .int .i64, .int .i64, .int .i64, .int .i64, .int .i64, .int .i64, .sl (.int .i64), .int .i64, .bool, .int .i64]

def i64 (n : Int) : Prop := -9223372036854775808 ≤ n ∧ n < 9223372036854775808


theorem ofI {ds : List D} (h : OfSh (.int .i64) ds) : ∃ n, ds = [I n] ∧ i64 n := by
 simp only [OfSh] at h
 obtain ⟨n, h, h1, h2⟩ := h
 refine ⟨n, h, ?_⟩
 simp [IntKind.min, IntKind.max, IntKind.bits, IntKind.signed] at h1 h2
 exact ⟨h1, by omega⟩

theorem ofIs : ∀ {es : List D}, (∀ x, x ∈ es → OfSh (.int .i64) [x]) → ∃ xs : List Int, es = xs.map I ∧ ∀ x, x ∈ xs → i64 x
 | [], _ => ⟨[], rfl, by simp⟩
 | e :: es, h => by
  obtain ⟨n, hn, hb⟩ := ofI (h e (by simp))
  cases hn
  obtain ⟨xs, rfl, hx⟩ := ofIs (es := es) fun x hx => h x (by simp [hx])
  exact ⟨n :: xs, rfl, by simpa using ⟨hb, hx⟩⟩

theorem ofSl {ds : List D} (h : OfSh (.sl (.int .i64)) ds) : ∃ xs : List Int, ds = [Is xs] ∧ (∀ x, x ∈ xs → i64 x) ∧ xs.length ≤ maxLen := by
 simp only [OfSh] at h
 obtain ⟨es, rfl, hl, hes⟩ := h
 obtain ⟨xs, rfl, hx⟩ := ofIs fun x hx => by
  have := (hes x hx).2 rfl
  simpa only [OfSh] using this
 exact ⟨xs, rfl, hx, by simpa using hl⟩

def Art.Ok (a : Art) : Prop := i64 a.n ∧ Ap.i64 a.f ∧ Ap.i64 a.l ∧ Ap.i64 a.m

def Cod.Ok (c : Cod) : Prop := Ap.i64 c.cars ∧ Ap.i64 c.window ∧ Ap.i64 c.second ∧ Ap.i64 c.fee ∧ Ap.i64 c.price ∧ (∀ a, a ∈ c.arts → a.Ok) ∧ c.arts.length ≤ maxLen

structure Akt.Ok (a : Akt) : Prop where
 kind : i64 a.kind
 minute : i64 a.minute
 paper : i64 a.paper
 cse : i64 a.cse
 by_ : i64 a.by_
 against : i64 a.against
 article : i64 a.article
 at_ : i64 a.at_
 facts : ∀ x, x ∈ a.facts → i64 x
 len : a.facts.length ≤ maxLen
 paid : i64 a.paid
 penalty : i64 a.penalty

theorem ofAct {cs : List D} (h : OfSh shAct cs) : ∃ a : Akt, .agg cs = a.d ∧ a.Ok := by
 simp only [shAct, OfSh, OfAll] at h
 obtain ⟨_, _, rfl, h1, _, _, rfl, h2, _, _, rfl, h3, _, _, rfl, h4, _, _, rfl, h5, _, _, rfl, h6, _, _, rfl, h7, _, _, rfl, h8, _, _, rfl, h9, _, _, rfl, h10, _, _, rfl, h11, _, _, rfl, h12, rfl⟩ := h
 have cv : ∀ {ds : List D}, (∃ n : Int, ds = [.v (.int .i64 n)] ∧ IntKind.i64.min ≤ n ∧ n ≤ IntKind.i64.max) → ∃ n, ds = [I n] ∧ i64 n := fun h => ofI (by simpa only [OfSh] using h)
 obtain ⟨n1, rfl, b1⟩ := cv h1
 obtain ⟨n2, rfl, b2⟩ := cv h2
 obtain ⟨n3, rfl, b3⟩ := cv h3
 obtain ⟨n4, rfl, b4⟩ := cv h4
 obtain ⟨n5, rfl, b5⟩ := cv h5
 obtain ⟨n6, rfl, b6⟩ := cv h6
 obtain ⟨n7, rfl, b7⟩ := cv h7
 obtain ⟨n8, rfl, b8⟩ := cv h8
 obtain ⟨xs, rfl, b9, hl⟩ := ofSl (by simpa only [OfSh] using h9)
 obtain ⟨n10, rfl, b10⟩ := cv h10
 obtain ⟨b, rfl⟩ := h11
 obtain ⟨n12, rfl, b12⟩ := cv h12
 exact ⟨⟨n1, n2, n3, n4, n5, n6, n7, n8, xs, n10, b, n12⟩, rfl, ⟨b1, b2, b3, b4, b5, b6, b7, b8, b9, hl, b10, b12⟩⟩

end Go.Am.Ap

/-
 What the court's functions answer that only read.
-/
namespace Go.Am.Ct
set_option maxRecDepth 100000
set_option maxHeartbeats 4000000
open Go.Proofs Go.Am.Ap

def fcs (f : Int × D) : List D := [I f.1, f.2]
def ncs (i : Nat) : List D := [I i]

def crtCells (c : Cod) (sa sf : D) : List D := [I c.cars, .lst (c.arts.map Art.d), I c.window, I c.second, I c.fee, I c.price, B true, sa, sf]

def ActsAt (bs : List D) (j : Nat) (c : Cod) (l : List Akt) (sa sf : D) : Prop := bs[j]? = some (.blk 99 9 (crtCells c sa sf)) ∧ SlOf bs 43 12 Akt.cs sa l

variable {bs : List D} {j : Nat} {c : Cod} {l : List Akt} {sa sf : D}

theorem c61 (h : ActsAt bs j c l sa sf) : FSpecR Try.prog 61 (.st bs) [.loc j 0] (B true) := by
 refine ku61.R rfl rfl ?_
 unfold u61
 simp only [ups_cons, ups_nil, List.cons_append, List.nil_append]
 repeat' (first | ((with_reducible apply nrm); (· simp only [sbe]; rfl)) | ((with_reducible apply u_chk); (· rfl)) | ((with_reducible apply u_ld); (· rfl); (· rfl); (· exact ld_blk h.1 rfl); (· simp only [sbe]; rfl)) | ((with_reducible apply u_ev); (· rfl); (· simp only [sbe]; rfl)) | ((with_reducible apply u_and); (· rfl)) | (with_reducible exact u_ret rfl rfl) | ((with_reducible intro hz); (try simp only [sbs] at hz)))

theorem c95 (h : ActsAt bs j c l sa sf) (n : Int) : FSpecR Try.prog 95 (.st bs) [I n, .ptr [.loc j 0]] (B (inR n 1 c.cars)) := by
 refine ku95.R rfl rfl ?_
 unfold u95
 simp only [ups_cons, ups_nil, List.cons_append, List.nil_append]
 repeat' (first | ((with_reducible apply u_chk); (· rfl)) | ((with_reducible apply u_ld); (· rfl); (· rfl); (· exact ld_blk h.1 rfl); (· simp only [sbe]; rfl)) | ((with_reducible apply u_ev); (· rfl); (· simp only [sbe]; rfl)) | ((with_reducible apply u_call); (· rfl); (· rfl); (· exact c52 _ _ _); (· rfl); (· simp only [sbe]; rfl)) | (with_reducible exact u_ret rfl rfl))

def incrAt (l : List Int) (i : Nat) : Bool := inR (l.getD i 0) 1 1000 && ((i : Int) == 0 || decide (l.getD (i - 1) 0 < l.getD i 0))
def incr (l : List Int) : Nat → Bool
 | 0 => true
 | i + 1 => incr l i && incrAt l i
def factsOk (l : List Int) : Bool := decide ((l.length : Int) ≤ 20) && incr l l.length

def only (a : Akt) : Akt :=
 if a.kind = 1 then ⟨a.kind, a.minute, a.paper, 0, 0, 0, 0, 0, a.facts, 0, false, 0⟩
 else if a.kind = 2 then ⟨a.kind, a.minute, a.paper, 0, a.by_, a.against, a.article, a.at_, a.facts, a.paid, false, 0⟩
 else if a.kind = 3 ∨ a.kind = 5 then ⟨a.kind, a.minute, 0, a.cse, 0, 0, 0, 0, a.facts, 0, a.upheld, a.penalty⟩
 else if a.kind = 4 then ⟨a.kind, a.minute, 0, a.cse, a.by_, 0, 0, 0, a.facts, a.paid, false, 0⟩
 else ⟨a.kind, a.minute, 0, a.cse, a.by_, 0, 0, 0, a.facts, 0, false, 0⟩

def sameBut (a b : Akt) : Bool := a.kind == b.kind && a.minute == b.minute && a.paper == b.paper && a.cse == b.cse && a.by_ == b.by_ && a.against == b.against && a.article == b.article && a.at_ == b.at_ && a.paid == b.paid && a.upheld == b.upheld && a.penalty == b.penalty

def actOk (cars : Int) (a : Akt) : Bool :=
 (if a.kind = 1 then inR a.minute 0 10000000 && inR a.paper 1 1000000 && a.facts.isEmpty
 else if a.kind = 2 then inR a.minute 0 10000000 && inR a.by_ 1 cars && inR a.against 1 cars && a.by_ != a.against && inR a.paper 1 1000000 && inR a.article 1 10000 && inR a.at_ 0 a.minute && inR a.paid 0 1000000000 && factsOk a.facts
 else if a.kind = 3 ∨ a.kind = 5 then inR a.minute 0 10000000 && decide (0 ≤ a.cse) && inR a.penalty 0 36000000 && a.facts.isEmpty
 else if a.kind = 4 then inR a.minute 0 10000000 && decide (0 ≤ a.cse) && inR a.by_ 1 cars && inR a.paid 0 1000000000 && a.facts.isEmpty
 else if a.kind = 6 then inR a.minute 0 10000000 && decide (0 ≤ a.cse) && inR a.by_ 1 cars && a.facts.isEmpty
 else false) && sameBut a (only a)

attribute [local irreducible] inR

theorem isE (l : List Int) : ((l.length : Int) == 0) = l.isEmpty := by cases l <;> simp <;> omega

theorem c62 (h : ActsAt bs j c l sa sf) (a : Akt) (ha : a.facts.length ≤ 1000000) : FSpecR Try.prog 62 (.st bs) [.loc j 0, a.d] (B (actOk c.cars a)) := by
 refine ku62.R rfl rfl ?_
 unfold u62
 simp only [ups_cons, ups_nil, List.cons_append, List.nil_append]
 repeat' (first | ((with_reducible apply nrm); (· simp only [sbe]; rfl)) | ((with_reducible apply u_chk); (· rfl)) | ((with_reducible apply u_lenL); (· rfl); (· exact lenL_map); (· simp only [sbe]; rfl)) | ((with_reducible apply u_sel); (· rfl); (· rfl); (· rfl); (· simp only [sbe, List.zipWith_cons_cons, List.zipWith_nil_left, selD]; rfl)) | ((with_reducible apply u_ev); (· rfl); (· simp only [sbe]; rfl)) | ((with_reducible apply u_call); (· rfl); (· rfl); (· exact c52 _ _ _); (· rfl); (· simp only [sbe]; rfl)) | ((with_reducible apply u_callv); (· rfl); (· rfl); (· rfl); (· rfl); (· exact c95 h _); (· rfl); (· simp only [sbe]; rfl)) | ((with_reducible apply u_and); (· rfl)) | (with_reducible refine u_join ?_) | ((with_reducible apply u_jump); (· rfl); (· rfl)) | (with_reducible refine at_jump ?_) | (with_reducible refine kj rfl ?_) | ((with_reducible apply u_ite); (· rfl); all_goals (intro hz; (try simp only [sbs] at hz); first | (exact absurd hz (by decide)) | (exfalso; omega) | skip)) | (with_reducible exact u_ret rfl rfl) | ((with_reducible apply u_ret); (· rfl); first | exact rfl | (refine retB ?_) | (refine retI ?_) | (refine retD ?_)) | ((with_reducible intro hz); (try simp only [sbs] at hz)))
 rotate_left
 ·refine u_range (fun i => [B (decide ((a.facts.length : Int) ≤ 20) && incr a.facts i), I i]) (fun _ => True) a.facts.length ?_ (fun _ => rfl) trivial (fun i hi _ R hR => ?_) (fun _ R => ?_)
  ·simp [evalAll, E.eval, incr]
  ·repeat' (first | ((with_reducible apply nrm); (· simp only [sbe]; rfl)) | ((with_reducible apply u_chk); (· rfl)) | ((with_reducible apply u_eaddr); (· rfl); (· rfl); (· exact eaddr_get (by omega) rfl); (· simp only [sbe]; rfl)) | ((with_reducible apply u_inc); (· rfl); (· omega); (· simp only [sbe]; rfl)) | ((with_reducible apply u_pred); (· rfl); (· omega); (· simp only [sbe]; rfl)) | ((with_reducible apply u_ev); (· rfl); (· simp only [sbe]; rfl)) | ((with_reducible apply u_call); (· rfl); (· rfl); (· exact c52 _ _ _); (· rfl); (· simp only [sbe]; rfl)) | ((with_reducible apply u_or); (· rfl)) | ((with_reducible apply u_and); (· rfl)) | (with_reducible refine u_join ?_) | ((with_reducible apply u_jump); (· rfl); (· rfl)) | (with_reducible refine at_jump ?_) | (with_reducible refine kj rfl ?_) | ((with_reducible apply u_ite); (· rfl); all_goals (intro hz; (try simp only [sbs] at hz); first | (exact absurd hz (by decide)) | (exfalso; omega) | skip)) | (with_reducible exact u_ret rfl rfl) | ((with_reducible intro hz); (try simp only [sbs] at hz)))
   all_goals (
    have hj := hR trivial
    refine Eq.mp (congrArg R ?_) hj
    simp [incr, incrAt, Bool.and_assoc, hi, show i - 1 < a.facts.length by omega])
  ·repeat' (first | ((with_reducible apply nrm); (· simp only [sbe]; rfl)) | ((with_reducible apply u_chk); (· rfl)) | ((with_reducible apply u_sel); (· rfl); (· rfl); (· rfl); (· simp only [sbe, List.zipWith_cons_cons, List.zipWith_nil_left, selD]; rfl)) | ((with_reducible apply u_ev); (· rfl); (· simp only [sbe]; rfl)) | ((with_reducible apply u_and); (· rfl)) | ((with_reducible apply u_jump); (· rfl); (· rfl)) | (with_reducible refine at_jump ?_) | (with_reducible refine over_jump (by decide) ?_) | (with_reducible refine kj rfl ?_) | ((with_reducible apply u_ite); (· rfl); all_goals (intro hz; (try simp only [sbs] at hz); first | (exact absurd hz (by decide)) | (exfalso; omega) | skip)) | (with_reducible exact u_ret rfl rfl) | ((with_reducible apply u_ret); (· rfl); first | exact rfl | (refine retB ?_) | (refine retI ?_) | (refine retD ?_)) | ((with_reducible intro hz); (try simp only [sbs] at hz)))
   all_goals (try (exfalso; omega))
   all_goals simp_all [actOk, only, sameBut, factsOk, Bool.and_assoc]
 all_goals (first | rw [isE] | skip)
 all_goals simp_all [actOk, only, sameBut, Bool.and_assoc]

def Akt.zero : Akt := ⟨0, 0, 0, 0, 0, 0, 0, 0, [], 0, false, 0⟩
def nth (l : List Akt) (i : Nat) : Akt := l.getD i Akt.zero

theorem nth_get {l : List Akt} {i : Nat} (h : i < l.length) : nth l i = l[i] := by simp [nth, h]

def stStep (second m : Int) (a : Akt) (out : Int) : Int := if a.kind = 6 then 2 else if a.kind = 3 then (if second < m - a.minute then 5 else 3) else if a.kind = 4 then 4 else if a.kind = 5 then 5 else out

def stGo (l : List Akt) (second m : Int) : List Nat → Int → Int
 | [], s => s
 | i :: r, s => if m < (nth l i).minute then s else stGo l second m r (stStep second m (nth l i) s)

theorem stGo_cons (l : List Akt) (second m : Int) (i : Nat) (r : List Nat) (s : Int) : stGo l second m (i :: r) s = if m < (nth l i).minute then s else stGo l second m r (stStep second m (nth l i) s) := rfl

theorem c73 (h : ActsAt bs j c l sa sf) (hm : ∀ a, a ∈ l → 0 ≤ a.minute) {s : D} {idx : List Nat} (hs : SlOf bs 3 1 ncs s idx) (hi : ∀ i, i ∈ idx → i < l.length) (hL : idx.length ≤ 1000000) (p m : Int) (hb : i64 m) : FSpecR Try.prog 73 (.st bs) [.loc j 0, .agg [I p, s], I m] (I (stGo l c.second m idx 1)) := by
 refine ku73.R rfl rfl ?_
 unfold u73
 simp only [ups_cons, ups_nil, List.cons_append, List.nil_append]
 repeat' (first | ((with_reducible apply u_chk); (· rfl)) | ((with_reducible apply u_lenL); (· rfl); (· exact hs.len); (· simp only [sbe]; rfl)) | (with_reducible refine u_join ?_))
 refine u_list idx (fun s i => [I s, I i]) (fun r s => stGo l c.second m r s = stGo l c.second m idx 1) 1 rfl (fun _ _ => rfl) rfl (fun i x s1 hx hlt hG R hR => ?_) (fun s1 hG R => ?_)
 ·have hxl := hi x (List.mem_of_getElem? hx)
  obtain ⟨b1, rfl, hb1⟩ := hs.get hlt
  obtain ⟨b2, rfl, hb2⟩ := h.2.get hxl
  have hmx := hm _ (List.getElem_mem hxl)
  have hn := nth_get hxl
  unfold i64 at hb
  have hG' := hG
  rw [stGo_cons, hn] at hG'
  repeat' (first | ((with_reducible apply nrm); (· simp only [sbe]; rfl)) | ((with_reducible apply u_chk); (· rfl)) | ((with_reducible apply u_ld); (· rfl); (· rfl); (· first | exact ld_el0 hb1 (fun _ => rfl) hx rfl | exact ld_blk h.1 rfl | exact ld_el hb2 (fun _ => rfl) (List.getElem?_eq_getElem hxl)); (· simp only [sbe]; rfl)) | ((with_reducible apply u_eaddr); (· rfl); (· rfl); (· first | exact eaddr_sl hlt | exact eaddr_sl hxl); (· simp only [sbe]; rfl)) | ((with_reducible apply u_inc); (· rfl); (· omega); (· simp only [sbe]; rfl)) | ((with_reducible apply u_sub); (· rfl); (· rfl); (· omega); (· simp only [sbe]; rfl)) | ((with_reducible apply u_ev); (· rfl); (· simp only [sbe]; rfl)) | (with_reducible refine u_join ?_) | ((with_reducible apply u_jump); (· rfl); (· rfl)) | (with_reducible refine at_jump ?_) | (with_reducible refine over_jump (by decide) ?_) | (with_reducible refine kj rfl ?_) | ((with_reducible apply u_phi); (· rfl); (· intro hz; rfl); (· intro hz; rfl); (· rfl); (· simp only [sbe, List.zipWith_cons_cons, List.zipWith_nil_left, selD]; rfl)) | ((with_reducible apply u_ite); (· rfl); all_goals (intro hz; (try simp only [sbs] at hz); first | (exact absurd hz (by decide)) | (exfalso; omega) | skip)) | ((with_reducible apply u_ret); (· rfl); first | exact rfl | (refine retB ?_) | (refine retI ?_) | (refine retD ?_)))
  ·exact (if_pos (show m < l[x].minute by omega)).symm.trans hG'
  all_goals (
   refine hR _ (Eq.trans ?_ hG')
   rw [if_neg (show ¬ m < l[x].minute by omega)]
   simp [stStep, *])
 ·repeat' (first | ((with_reducible apply nrm); (· simp only [sbe]; rfl)) | ((with_reducible apply u_ev); (· rfl); (· simp only [sbe]; rfl)) | ((with_reducible apply u_jump); (· rfl); (· rfl)) | (with_reducible refine at_jump ?_) | (with_reducible refine over_jump (by decide) ?_) | (with_reducible refine kj rfl ?_) | ((with_reducible apply u_ite); (· rfl); all_goals (intro hz; (try simp only [sbs] at hz); first | (exact absurd hz (by decide)) | (exfalso; omega) | skip)) | ((with_reducible apply u_ret); (· rfl); first | exact rfl | (refine retB ?_) | (refine retI ?_) | (refine retD ?_)))
  exact hG

def fi (P : Akt → Bool) (l : List Akt) : Int := match l.findIdx? P with
 | some i => i
 | none => -1

theorem fi_at {P : Akt → Bool} {l : List Akt} {i : Nat} (hi : i < l.length) (hP : P l[i] = true) (hn : ∀ k (h : k < i), P (l[k]'(by omega)) = false) : fi P l = i := by
 have : l.findIdx? P = some i := by
  rw [List.findIdx?_eq_some_iff_getElem]
  exact ⟨hi, hP, fun j hj => by simp [hn j hj]⟩
 simp [fi, this]

theorem fi_no {P : Akt → Bool} {l : List Akt} (hn : ∀ a, a ∈ l → P a = false) : fi P l = -1 := by
 have : l.findIdx? P = none := by
  rw [List.findIdx?_eq_none_iff]
  exact hn
 simp [fi, this]

theorem fi_cases (P : Akt → Bool) (l : List Akt) : (fi P l = -1 ∧ ∀ a, a ∈ l → P a = false) ∨ ∃ (i : Nat) (h : i < l.length), fi P l = i ∧ P l[i] = true ∧ ∀ k (h : k < i), P (l[k]'(by omega)) = false := by
 cases h : l.findIdx? P with
 | none => left; exact ⟨by simp [fi, h], List.findIdx?_eq_none_iff.1 h⟩
 | some i =>
  right
  obtain ⟨h1, h2, h3⟩ := List.findIdx?_eq_some_iff_getElem.1 h
  exact ⟨i, h1, by simp [fi, h], h2, fun k hk => by simpa using h3 k hk⟩

theorem c86 {P : Akt → Bool} {f : Nat} {us cs : List D} (hs : SlOf bs 43 12 Akt.cs sa l) (hL : l.length ≤ 1000000) (hc : callable Try.prog f = true) (hf : ∀ i (h : i < l.length), FSpecR Try.prog f (.st bs) (us ++ [l[i].d] ++ cs) (B (P l[i]))) : FSpecR Try.prog 86 (.st bs) [sa, .fn f us cs] (I (fi P l)) := by
 refine ku86.R rfl (by rcases hs with ⟨_, rfl⟩ | ⟨_, rfl, _⟩ <;> rfl) ?_
 unfold u86
 simp only [ups_cons, ups_nil, List.cons_append, List.nil_append]
 repeat' (first | ((with_reducible apply u_lenL); (· rfl); (· exact hs.len); (· simp only [sbe]; rfl)) | (with_reducible refine u_join ?_))
 refine u_range (fun i => [I i]) (fun i => ∀ k (h : k < i) (h2 : k < l.length), P l[k] = false) l.length rfl (fun _ => rfl) (fun k h => absurd h (Nat.not_lt_zero _)) (fun i hi hJ R hR => ?_) (fun hJ R => ?_)
 ·obtain ⟨b, rfl, hb⟩ := hs.get hi
  repeat' (first | ((with_reducible apply nrm); (· simp only [sbe]; rfl)) | ((with_reducible apply u_ld); (· rfl); (· rfl); (· exact ld_el hb (fun _ => rfl) (List.getElem?_eq_getElem hi)); (· simp only [sbe]; rfl)) | ((with_reducible apply u_eaddr); (· rfl); (· rfl); (· exact eaddr_sl hi); (· simp only [sbe]; rfl)) | ((with_reducible apply u_ev); (· rfl); (· simp only [sbe]; rfl)) | (with_reducible refine u_join ?_) | ((with_reducible apply u_ite); (· rfl); all_goals (intro hz; (try simp only [sbs] at hz); first | (exact absurd hz (by decide)) | (exfalso; omega) | skip)))
  refine u_callv rfl hc rfl rfl (hf i hi) rfl (by simp only [List.cons_append, List.nil_append]; rfl) ?_
  repeat' (first | ((with_reducible apply nrm); (· simp only [sbe]; rfl)) | ((with_reducible apply u_inc); (· rfl); (· omega); (· simp only [sbe]; rfl)) | ((with_reducible apply u_jump); (· rfl); (· rfl)) | (with_reducible refine at_jump ?_) | (with_reducible refine kj rfl ?_) | ((with_reducible apply u_ite); (· rfl); all_goals (intro hz; (try simp only [sbs] at hz); first | (exact absurd hz (by decide)) | (exfalso; omega) | skip)) | ((with_reducible apply u_ret); (· rfl); first | exact rfl | (refine retB ?_) | (refine retI ?_) | (refine retD ?_)))
  ·rename_i hz
   exact (fi_at hi hz fun k hk => hJ k hk (by omega)).symm
  ·rename_i hz
   refine hR fun k hk h2 => ?_
   rcases Nat.lt_or_ge k i with h3 | h3
   ·exact hJ k h3 h2
   ·have e : k = i := by omega
    subst e
    exact hz
 ·repeat' (first | ((with_reducible apply nrm); (· simp only [sbe]; rfl)) | ((with_reducible apply u_ev); (· rfl); (· simp only [sbe]; rfl)) | ((with_reducible apply u_jump); (· rfl); (· rfl)) | (with_reducible refine at_jump ?_) | (with_reducible refine over_jump (by decide) ?_) | (with_reducible refine kj rfl ?_) | ((with_reducible apply u_ite); (· rfl); all_goals (intro hz; (try simp only [sbs] at hz); first | (exact absurd hz (by decide)) | (exfalso; omega) | skip)) | ((with_reducible apply u_ret); (· rfl); first | exact rfl | (refine retB ?_) | (refine retI ?_) | (refine retD ?_)))
  refine (fi_no fun a ha => ?_).symm
  obtain ⟨k, hk, rfl⟩ := List.mem_iff_getElem.1 ha
  exact hJ k hk hk

theorem c110 (a : Akt) (p : Int) : FSpecR Try.prog 110 (.st bs) [a.d, .ptr [I p]] (B (a.kind == 1 && a.paper == p)) := by
 refine ku110.R rfl rfl ?_
 unfold u110
 simp only [ups_cons, ups_nil, List.cons_append, List.nil_append]
 repeat' (first | ((with_reducible apply nrm); (· simp only [sbe]; rfl)) | ((with_reducible apply u_chk); (· rfl)) | ((with_reducible apply u_ev); (· rfl); (· simp only [sbe]; rfl)) | ((with_reducible apply u_and); (· rfl)) | (with_reducible exact u_ret rfl rfl) | ((with_reducible intro hz); (try simp only [sbs] at hz)))

def isPub (p : Int) (a : Akt) : Bool := a.kind == 1 && a.paper == p
def pubAt (l : List Akt) (p : Int) : Int := if fi (isPub p) l < 0 then -1 else (nth l (fi (isPub p) l).toNat).minute

theorem c97 (h : ActsAt bs j c l sa sf) (hL : l.length ≤ 1000000) (p : Int) : FSpecR Try.prog 97 (.st bs) [.loc j 0, I p] (I (pubAt l p)) := by
 refine ku97.R rfl rfl ?_
 unfold u97
 simp only [ups_cons, ups_nil, List.cons_append, List.nil_append]
 have hc := c86 (us := []) (cs := [.ptr [I p]]) (P := isPub p) h.2 hL (by kernel_rfl) (fun i hi => c110 _ _)
 rcases fi_cases (isPub p) l with ⟨hf, _⟩ | ⟨i, hi, hf, _, _⟩
 ·rw [hf] at hc
  repeat' (first | ((with_reducible apply u_chk); (· rfl)) | ((with_reducible apply u_ld); (· rfl); (· rfl); (· exact ld_blk h.1 rfl); (· simp only [sbe]; rfl)) | ((with_reducible apply u_ev); (· rfl); (· simp only [sbe]; rfl)) | ((with_reducible apply u_call); (· rfl); (· rfl); (· exact hc); (· rfl); (· simp only [sbe]; rfl)) | ((with_reducible apply u_ite); (· rfl); all_goals (intro hz; (try simp only [sbs] at hz); first | (exact absurd hz (by decide)) | (exfalso; omega) | skip)) | ((with_reducible apply u_ret); (· rfl); first | exact rfl | (refine retB ?_) | (refine retI ?_) | (refine retD ?_)))
  simp [pubAt, hf]
 ·rw [hf] at hc
  obtain ⟨b, rfl, hb⟩ := h.2.get hi
  repeat' (first | ((with_reducible apply u_chk); (· rfl)) | ((with_reducible apply u_ld); (· rfl); (· rfl); (· first | exact ld_blk h.1 rfl | exact ld_elc hb (fun _ => rfl) (List.getElem?_eq_getElem hi) rfl); (· simp only [sbe]; rfl)) | ((with_reducible apply u_eaddr); (· rfl); (· rfl); (· exact eaddr_sl hi); (· simp only [sbe]; rfl)) | ((with_reducible apply u_ev); (· rfl); (· simp only [sbe]; rfl)) | ((with_reducible apply u_call); (· rfl); (· rfl); (· exact hc); (· rfl); (· simp only [sbe]; rfl)) | ((with_reducible apply u_ite); (· rfl); all_goals (intro hz; (try simp only [sbs] at hz); first | (exact absurd hz (by decide)) | (exfalso; omega) | skip)) | ((with_reducible apply u_ret); (· rfl); first | exact rfl | (refine retB ?_) | (refine retI ?_) | (refine retD ?_)))
  simp [pubAt, hf, nth, hi]
  omega

def refusal (e : Int) : D := .ifc 109 (.agg [I e])

theorem c96n {b : Bool} (hb : b = false) (e : Int) : FSpecO Try.prog 96 (.st bs) [B b, I e] (.ret (.tup [])) := by
 subst hb
 refine ku96.readO rfl rfl ?_
 unfold u96
 simp only [ups_cons, ups_nil, List.cons_append, List.nil_append]
 repeat' (first | ((with_reducible apply nrm); (· simp only [sbe]; rfl)) | (with_reducible refine u_join ?_) | ((with_reducible apply u_jump); (· rfl); (· rfl)) | (with_reducible refine at_jump ?_) | (with_reducible refine kj rfl ?_) | ((with_reducible apply u_ite); (· rfl); all_goals (intro hz; (try simp only [sbs] at hz); first | (exact absurd hz (by decide)) | (exfalso; omega) | skip)) | ((with_reducible apply u_ret); (· rfl); first | exact rfl | (refine retB ?_) | (refine retI ?_) | (refine retD ?_)))

theorem c96y {b : Bool} (hb : b = true) (e : Int) : FSpecO Try.prog 96 (.st bs) [B b, I e] (.pan (refusal e)) := by
 subst hb
 refine ku96.readO rfl rfl ?_
 unfold u96
 simp only [ups_cons, ups_nil, List.cons_append, List.nil_append]
 repeat' (first | ((with_reducible apply u_ev); (· rfl); (· simp only [sbe]; rfl)) | (with_reducible refine u_join ?_) | ((with_reducible apply u_ite); (· rfl); all_goals (intro hz; (try simp only [sbs] at hz); first | (exact absurd hz (by decide)) | (exfalso; omega) | skip)))
 exact u_pan rfl rfl rfl ⟨_, _, rfl⟩

end Go.Am.Ct

/-
 What the court does with acts: the parts that only read.
-/
namespace Go.Am.Ct
set_option maxRecDepth 100000
set_option maxHeartbeats 4000000
open Go.Proofs Go.Am.Ap

variable {bs : List D} {j : Nat} {c : Cod} {l : List Akt} {sa sf : D} {fs : List (Int × D)}

attribute [local irreducible] inR

theorem c98y (h : ActsAt bs j c l sa sf) (hf : SlOf bs 115 2 fcs sf fs) {k : Nat} (hk : k < fs.length) {p : Int} {b1 n1 : Nat} (hfk : fs[k] = (p, .sl b1 0 n1)) : FSpecO Try.prog 98 (.st bs) [.loc j 0, I k] (.ret (.agg [I p, .sl b1 0 n1])) := by
 refine ku98.readO rfl rfl ?_
 unfold u98
 simp only [ups_cons, ups_nil, List.cons_append, List.nil_append]
 obtain ⟨b, rfl, hb⟩ := hf.get hk
 have h0 : decide ((k : Int) ≥ (fs.length : Int)) = false := by simp; omega
 have hx : fs[k]? = some (p, D.sl b1 0 n1) := by rw [List.getElem?_eq_getElem hk, hfk]
 repeat' (first | ((with_reducible apply u_chk); (· rfl)) | ((with_reducible apply u_ld); (· rfl); (· rfl); (· first | exact ld_blk h.1 rfl | exact ld_el hb (fun _ => rfl) hx); (· simp only [sbe]; rfl)) | ((with_reducible apply u_eaddr); (· rfl); (· rfl); (· exact eaddr_sl hk); (· simp only [sbe]; rfl)) | ((with_reducible apply u_ev); (· rfl); (· simp only [sbe]; rfl)) | ((with_reducible apply u_pcallR); (· rfl); (· rfl); (· exact c96n h0 _); (· rfl); (· simp only [sbe]; rfl)) | ((with_reducible apply u_ret); (· rfl); first | exact rfl | (refine retB ?_) | (refine retI ?_) | (refine retD ?_)))

theorem c98n (h : ActsAt bs j c l sa sf) (hf : SlOf bs 115 2 fcs sf fs) {n : Int} (hk : fs.length ≤ n) : FSpecO Try.prog 98 (.st bs) [.loc j 0, I n] (.pan (refusal 5)) := by
 refine ku98.readO rfl rfl ?_
 unfold u98
 simp only [ups_cons, ups_nil, List.cons_append, List.nil_append]
 have h0 : decide (n ≥ (fs.length : Int)) = true := by simp; omega
 repeat' (first | ((with_reducible apply u_chk); (· rfl)) | ((with_reducible apply u_ld); (· rfl); (· rfl); (· exact ld_blk h.1 rfl); (· simp only [sbe]; rfl)) | ((with_reducible apply u_lenL); (· rfl); (· exact hf.len); (· simp only [sbe]; rfl)) | ((with_reducible apply u_ev); (· rfl); (· simp only [sbe]; rfl)) | ((with_reducible apply u_pcallP); (· rfl); (· rfl); (· exact c96y h0 _); (· rfl); (· exact ⟨_, _, rfl⟩)))

def lastSt (c : Cod) (l : List Akt) (idx : List Nat) : Int := stGo l c.second (nth l (idx.getLast?.getD 0)).minute idx 1

theorem c99 (h : ActsAt bs j c l sa sf) (hm : ∀ a, a ∈ l → inR a.minute 0 10000000 = true) {s : D} {idx : List Nat} (hs : SlOf bs 3 1 ncs s idx) (hi : ∀ i, i ∈ idx → i < l.length) (hL : idx.length ≤ 1000000) (hne : idx ≠ []) (p : Int) : FSpecO Try.prog 99 (.st bs) [.loc j 0, .agg [I p, s]] (.ret (I (lastSt c l idx))) := by
 have hm' : ∀ a, a ∈ l → 0 ≤ a.minute ∧ a.minute ≤ 10000000 := fun a ha => by
  have := hm a ha
  unfold inR at this
  simpa using this
 have hpos : 0 < idx.length := List.length_pos_iff.2 hne
 have hlt : idx.length - 1 < idx.length := by omega
 have hx := List.getElem?_eq_getElem hlt
 have hxl := hi _ (List.getElem_mem hlt)
 have e : lastSt c l idx = stGo l c.second l[idx[idx.length - 1]].minute idx 1 := by
  unfold lastSt
  rw [List.getLast?_eq_getElem?, hx]
  simp [nth, hxl]
 have hb := hm' _ (List.getElem_mem hxl)
 have h73 := c73 h (fun a ha => (hm' a ha).1) hs hi hL p l[idx[idx.length - 1]].minute ⟨by omega, by omega⟩
 rw [← e] at h73
 refine ku99.readO rfl rfl ?_
 unfold u99
 simp only [ups_cons, ups_nil, List.cons_append, List.nil_append]
 obtain ⟨b1, rfl, hb1⟩ := hs.get hlt
 obtain ⟨b2, rfl, hb2⟩ := h.2.get hxl
 repeat' (first | ((with_reducible apply u_chk); (· rfl)) | ((with_reducible apply u_ld); (· rfl); (· rfl); (· first | exact ld_blk h.1 rfl | exact ld_el0 hb1 (fun _ => rfl) hx rfl | exact ld_elc hb2 (fun _ => rfl) (List.getElem?_eq_getElem hxl) rfl); (· simp only [sbe]; rfl)) | ((with_reducible apply u_eaddr); (· rfl); (· rfl); (· first | exact eaddr_sl hlt | exact eaddr_sl hxl); (· simp only [sbe]; rfl)) | ((with_reducible apply u_pred); (· rfl); (· omega); (· simp only [sbe]; rfl)) | ((with_reducible apply u_ev); (· rfl); (· simp only [sbe]; rfl)) | ((with_reducible apply u_call); (· rfl); (· rfl); (· exact h73); (· rfl); (· simp only [sbe]; rfl)) | ((with_reducible apply u_ret); (· rfl); first | exact rfl | (refine retB ?_) | (refine retI ?_) | (refine retD ?_)))

def verA (c : Cod) (n m : Int) : Art := (verArt c.arts n m c.arts.length).getD .zero

def penBad (c : Cod) (p a : Akt) : Bool := (a.upheld && !(inR a.penalty (verA c p.article p.at_).l (verA c p.article p.at_).m)) || (!a.upheld && a.penalty != 0)

theorem c100 (h : ActsAt bs j c l sa sf) (hc : c.arts.length ≤ 1000) {p : Nat} (hp : p < l.length) (hv : 0 ≤ ver c.arts l[p].article l[p].at_ c.arts.length) (s : D) (a : Akt) :
  FSpecO Try.prog 100 (.st bs) [.loc j 0, .agg [I p, s], a.d] (if penBad c l[p] a = true then .pan (refusal 7) else .ret (.tup [])) := by
 refine ku100.readO rfl rfl ?_
 unfold u100
 simp only [ups_cons, ups_nil, List.cons_append, List.nil_append]
 obtain ⟨b, rfl, hb⟩ := h.2.get hp
 rcases ver_spec c.arts l[p].article l[p].at_ c.arts.length with ⟨h1, _⟩ | ⟨jj, v, h1, h2, h3⟩
 ·omega
 have h81 := c81 (bs := bs) c l[p].article l[p].at_ hc
 rw [h1] at h81
 have hvA : verA c l[p].article l[p].at_ = v := by simp [verA, h3]
 cases hbad : penBad c l[p] a
 ·unfold penBad at hbad
  rw [hvA] at hbad
  repeat' (first | ((with_reducible apply nrm); (· simp only [sbe]; rfl)) | ((with_reducible apply u_chk); (· rfl)) | ((with_reducible apply u_ld); (· rfl); (· rfl); (· first | exact ld_blk h.1 rfl | exact ldN_blk h.1 (Nat.le_of_ble_eq_true rfl) | exact ld_el hb (fun _ => rfl) (List.getElem?_eq_getElem hp)); (· simp only [sbe]; rfl)) | ((with_reducible apply u_eaddr); (· rfl); (· rfl); (· first | exact eaddr_sl hp | exact eaddr_lst h2 rfl); (· simp only [sbe]; rfl)) | ((with_reducible apply u_ev); (· rfl); (· simp only [sbe]; rfl)) | ((with_reducible apply u_call); (· rfl); (· rfl); (· first | exact h81 | exact c52 _ _ _); (· rfl); (· simp only [sbe]; rfl)) | ((with_reducible apply u_pcallR); (· rfl); (· rfl); (· exact c96n hbad _); (· rfl); (· simp only [sbe]; rfl)) | ((with_reducible apply u_or); (· rfl)) | ((with_reducible apply u_and); (· rfl)) | (with_reducible exact u_ret rfl rfl) | ((with_reducible apply u_ret); (· rfl); first | exact rfl | (refine retB ?_) | (refine retI ?_) | (refine retD ?_)) | ((with_reducible intro hz); (try simp only [sbs] at hz)))
 ·unfold penBad at hbad
  rw [hvA] at hbad
  repeat' (first | ((with_reducible apply nrm); (· simp only [sbe]; rfl)) | ((with_reducible apply u_chk); (· rfl)) | ((with_reducible apply u_ld); (· rfl); (· rfl); (· first | exact ld_blk h.1 rfl | exact ldN_blk h.1 (Nat.le_of_ble_eq_true rfl) | exact ld_el hb (fun _ => rfl) (List.getElem?_eq_getElem hp)); (· simp only [sbe]; rfl)) | ((with_reducible apply u_eaddr); (· rfl); (· rfl); (· first | exact eaddr_sl hp | exact eaddr_lst h2 rfl); (· simp only [sbe]; rfl)) | ((with_reducible apply u_ev); (· rfl); (· simp only [sbe]; rfl)) | ((with_reducible apply u_call); (· rfl); (· rfl); (· first | exact h81 | exact c52 _ _ _); (· rfl); (· simp only [sbe]; rfl)) | ((with_reducible apply u_pcallP); (· rfl); (· rfl); (· exact c96y hbad _); (· rfl); (· exact ⟨_, _, rfl⟩)) | ((with_reducible apply u_or); (· rfl)) | ((with_reducible apply u_and); (· rfl)) | (with_reducible exact u_ret rfl rfl) | ((with_reducible intro hz); (try simp only [sbs] at hz)))

structure CaseAt (bs : List D) (c : Cod) (l : List Akt) (fs : List (Int × D)) (k p : Nat) (s : D) (idx : List Nat) : Prop where
 fk : fs[k]? = some (↑p, s)
 sl : SlOf bs 3 1 ncs s idx
 lt : ∀ i, i ∈ idx → i < l.length
 pl : p < l.length
 ne : idx ≠ []
 len : idx.length ≤ 1000000
 ver : 0 ≤ ver c.arts (nth l p).article (nth l p).at_ c.arts.length

theorem CaseAt.hk {k p : Nat} {s : D} {idx : List Nat} (h : CaseAt bs c l fs k p s idx) : k < fs.length := (List.getElem?_eq_some_iff.1 h.fk).1
theorem CaseAt.get {k p : Nat} {s : D} {idx : List Nat} (h : CaseAt bs c l fs k p s idx) : fs[k]'h.hk = (↑p, s) := (List.getElem?_eq_some_iff.1 h.fk).2

theorem c64 (h : ActsAt bs j c l sa sf) (hL : l.length ≤ 1000000) (a : Akt) : FSpecWO Try.prog 64 (.st bs) [.loc j 0, a.d] (if 0 ≤ pubAt l a.paper then .pan (refusal 6) else .ret (I (-1))) (.st bs) := by
 refine ku64.writeO rfl ?_
 unfold u64
 simp only [ups_cons, ups_nil, List.cons_append, List.nil_append]
 split
 ·rename_i hp
  repeat' (first | ((with_reducible apply u_chk); (· rfl)) | ((with_reducible apply u_ev); (· rfl); (· simp only [sbe]; rfl)) | ((with_reducible apply u_call); (· rfl); (· rfl); (· exact c97 h hL _); (· rfl); (· simp only [sbe]; rfl)) | ((with_reducible apply u_pcallP); (· rfl); (· rfl); (· exact c96y (decide_eq_true hp) _); (· rfl); (· exact ⟨_, _, rfl⟩)))
 ·rename_i hp
  repeat' (first | ((with_reducible apply u_chk); (· rfl)) | ((with_reducible apply u_ev); (· rfl); (· simp only [sbe]; rfl)) | ((with_reducible apply u_call); (· rfl); (· rfl); (· exact c97 h hL _); (· rfl); (· simp only [sbe]; rfl)) | ((with_reducible apply u_pcallR); (· rfl); (· rfl); (· exact c96n (decide_eq_false hp) _); (· rfl); (· simp only [sbe]; rfl)) | ((with_reducible apply u_ret); (· rfl); first | exact rfl | (refine retB ?_) | (refine retI ?_) | (refine retD ?_)))


theorem c66 (h : ActsAt bs j c l sa sf) (hc : c.arts.length ≤ 1000) (hm : ∀ a, a ∈ l → inR a.minute 0 10000000 = true) (hf : SlOf bs 115 2 fcs sf fs) {k p : Nat} {idx : List Nat} {s : D} (hF : CaseAt bs c l fs k p s idx) (a : Akt) (ha : a.cse = k) :
  FSpecWO Try.prog 66 (.st bs) [.loc j 0, a.d] (if lastSt c l idx ≠ 1 then .pan (refusal 6) else if penBad c (nth l p) a = true then .pan (refusal 7) else .ret (I a.cse)) (.st bs) := by
 refine ku66.writeO rfl ?_
 unfold u66
 simp only [ups_cons, ups_nil, List.cons_append, List.nil_append]
 have hFs := hF.sl
 obtain ⟨b1, rfl, hb1⟩ := hFs.get (List.length_pos_iff.2 hF.ne)
 have h98 := c98y h hf hF.hk hF.get
 rw [← ha] at h98
 have h99 := c99 h hm hF.sl hF.lt hF.len hF.ne p
 have hv := hF.ver
 have h100 := c100 h hc hF.pl (by rw [nth_get hF.pl] at hv; exact hv) (.sl b1 0 idx.length) a
 rw [nth_get hF.pl]
 split
 ·rename_i h1
  repeat' (first | ((with_reducible apply u_chk); (· rfl)) | ((with_reducible apply u_ev); (· rfl); (· simp only [sbe]; rfl)) | ((with_reducible apply u_pcallR); (· rfl); (· rfl); (· first | exact h98 | exact h99); (· rfl); (· simp only [sbe]; rfl)) | ((with_reducible apply u_pcallP); (· rfl); (· rfl); (· exact c96y (by simpa using h1) _); (· rfl); (· exact ⟨_, _, rfl⟩)))
 ·rename_i h1
  split
  ·rename_i h2
   rw [if_pos h2] at h100
   repeat' (first | ((with_reducible apply u_chk); (· rfl)) | ((with_reducible apply u_ev); (· rfl); (· simp only [sbe]; rfl)) | ((with_reducible apply u_pcallR); (· rfl); (· rfl); (· first | exact h98 | exact h99 | exact c96n (by simpa using h1) _); (· rfl); (· simp only [sbe]; rfl)) | ((with_reducible apply u_pcallP); (· rfl); (· rfl); (· exact h100); (· rfl); (· exact ⟨_, _, rfl⟩)))
  ·rename_i h2
   rw [if_neg h2] at h100
   repeat' (first | ((with_reducible apply u_chk); (· rfl)) | ((with_reducible apply u_ev); (· rfl); (· simp only [sbe]; rfl)) | ((with_reducible apply u_pcallR); (· rfl); (· rfl); (· first | exact h98 | exact h99 | exact c96n (by simpa using h1) _ | exact h100); (· rfl); (· simp only [sbe]; rfl)) | ((with_reducible apply u_ret); (· rfl); first | exact rfl | (refine retB ?_) | (refine retI ?_) | (refine retD ?_)))

theorem c68 (h : ActsAt bs j c l sa sf) (hc : c.arts.length ≤ 1000) (hm : ∀ a, a ∈ l → inR a.minute 0 10000000 = true) (hf : SlOf bs 115 2 fcs sf fs) {k p : Nat} {idx : List Nat} {s : D} (hF : CaseAt bs c l fs k p s idx) (a : Akt) (ha : a.cse = k) :
  FSpecWO Try.prog 68 (.st bs) [.loc j 0, a.d] (if lastSt c l idx ≠ 4 then .pan (refusal 6) else if penBad c (nth l p) a = true then .pan (refusal 7) else .ret (I a.cse)) (.st bs) := by
 refine ku68.writeO rfl ?_
 unfold u68
 simp only [ups_cons, ups_nil, List.cons_append, List.nil_append]
 have hFs := hF.sl
 obtain ⟨b1, rfl, hb1⟩ := hFs.get (List.length_pos_iff.2 hF.ne)
 have h98 := c98y h hf hF.hk hF.get
 rw [← ha] at h98
 have h99 := c99 h hm hF.sl hF.lt hF.len hF.ne p
 have hv := hF.ver
 have h100 := c100 h hc hF.pl (by rw [nth_get hF.pl] at hv; exact hv) (.sl b1 0 idx.length) a
 rw [nth_get hF.pl]
 split
 ·rename_i h1
  repeat' (first | ((with_reducible apply u_chk); (· rfl)) | ((with_reducible apply u_ev); (· rfl); (· simp only [sbe]; rfl)) | ((with_reducible apply u_pcallR); (· rfl); (· rfl); (· first | exact h98 | exact h99); (· rfl); (· simp only [sbe]; rfl)) | ((with_reducible apply u_pcallP); (· rfl); (· rfl); (· exact c96y (by simpa using h1) _); (· rfl); (· exact ⟨_, _, rfl⟩)))
 ·rename_i h1
  split
  ·rename_i h2
   rw [if_pos h2] at h100
   repeat' (first | ((with_reducible apply u_chk); (· rfl)) | ((with_reducible apply u_ev); (· rfl); (· simp only [sbe]; rfl)) | ((with_reducible apply u_pcallR); (· rfl); (· rfl); (· first | exact h98 | exact h99 | exact c96n (by simpa using h1) _); (· rfl); (· simp only [sbe]; rfl)) | ((with_reducible apply u_pcallP); (· rfl); (· rfl); (· exact h100); (· rfl); (· exact ⟨_, _, rfl⟩)))
  ·rename_i h2
   rw [if_neg h2] at h100
   repeat' (first | ((with_reducible apply u_chk); (· rfl)) | ((with_reducible apply u_ev); (· rfl); (· simp only [sbe]; rfl)) | ((with_reducible apply u_pcallR); (· rfl); (· rfl); (· first | exact h98 | exact h99 | exact c96n (by simpa using h1) _ | exact h100); (· rfl); (· simp only [sbe]; rfl)) | ((with_reducible apply u_ret); (· rfl); first | exact rfl | (refine retB ?_) | (refine retI ?_) | (refine retD ?_)))

theorem c69 (h : ActsAt bs j c l sa sf) (hm : ∀ a, a ∈ l → inR a.minute 0 10000000 = true) (hf : SlOf bs 115 2 fcs sf fs) {k p : Nat} {idx : List Nat} {s : D} (hF : CaseAt bs c l fs k p s idx) (a : Akt) (ha : a.cse = k) :
  FSpecWO Try.prog 69 (.st bs) [.loc j 0, a.d] (if lastSt c l idx ≠ 1 then .pan (refusal 6) else if a.by_ ≠ (nth l p).by_ then .pan (refusal 7) else .ret (I a.cse)) (.st bs) := by
 refine ku69.writeO rfl ?_
 unfold u69
 simp only [ups_cons, ups_nil, List.cons_append, List.nil_append]
 have hFs := hF.sl
 obtain ⟨b1, rfl, hb1⟩ := hFs.get (List.length_pos_iff.2 hF.ne)
 have h98 := c98y h hf hF.hk hF.get
 rw [← ha] at h98
 have h99 := c99 h hm hF.sl hF.lt hF.len hF.ne p
 have hp := hF.pl
 obtain ⟨b, rfl, hb⟩ := h.2.get hp
 rw [nth_get hp]
 split
 ·rename_i h1
  repeat' (first | ((with_reducible apply u_chk); (· rfl)) | ((with_reducible apply u_ev); (· rfl); (· simp only [sbe]; rfl)) | ((with_reducible apply u_pcallR); (· rfl); (· rfl); (· first | exact h98 | exact h99); (· rfl); (· simp only [sbe]; rfl)) | ((with_reducible apply u_pcallP); (· rfl); (· rfl); (· exact c96y (by simpa using h1) _); (· rfl); (· exact ⟨_, _, rfl⟩)))
 ·rename_i h1
  split
  ·rename_i h2
   repeat' (first | ((with_reducible apply u_chk); (· rfl)) | ((with_reducible apply u_ld); (· rfl); (· rfl); (· first | exact ld_blk h.1 rfl | exact ld_elc hb (fun _ => rfl) (List.getElem?_eq_getElem hp) rfl); (· simp only [sbe]; rfl)) | ((with_reducible apply u_eaddr); (· rfl); (· rfl); (· exact eaddr_sl hp); (· simp only [sbe]; rfl)) | ((with_reducible apply u_ev); (· rfl); (· simp only [sbe]; rfl)) | ((with_reducible apply u_pcallR); (· rfl); (· rfl); (· first | exact h98 | exact h99 | exact c96n (by simpa using h1) _); (· rfl); (· simp only [sbe]; rfl)) | ((with_reducible apply u_pcallP); (· rfl); (· rfl); (· exact c96y (by simpa using h2) _); (· rfl); (· exact ⟨_, _, rfl⟩)))
  ·rename_i h2
   repeat' (first | ((with_reducible apply u_chk); (· rfl)) | ((with_reducible apply u_ld); (· rfl); (· rfl); (· first | exact ld_blk h.1 rfl | exact ld_elc hb (fun _ => rfl) (List.getElem?_eq_getElem hp) rfl); (· simp only [sbe]; rfl)) | ((with_reducible apply u_eaddr); (· rfl); (· rfl); (· exact eaddr_sl hp); (· simp only [sbe]; rfl)) | ((with_reducible apply u_ev); (· rfl); (· simp only [sbe]; rfl)) | ((with_reducible apply u_pcallR); (· rfl); (· rfl); (· first | exact h98 | exact h99 | exact c96n (by simpa using h1) _ | exact c96n (by simpa using h2) _); (· rfl); (· simp only [sbe]; rfl)) | ((with_reducible apply u_ret); (· rfl); first | exact rfl | (refine retB ?_) | (refine retI ?_) | (refine retD ?_)))

def appR (c : Cod) (l : List Akt) (p : Nat) (idx : List Nat) (a : Akt) : Int :=
 if lastSt c l idx ≠ 3 then 6 else if a.by_ ≠ (nth l p).by_ ∧ a.by_ ≠ (nth l p).against then 7 else if c.second < a.minute - (nth l (idx.getLast?.getD 0)).minute then 8 else if a.paid ≠ c.price then 7 else 0

theorem c67 (h : ActsAt bs j c l sa sf) (hm : ∀ a, a ∈ l → inR a.minute 0 10000000 = true) (hf : SlOf bs 115 2 fcs sf fs) {k p : Nat} {idx : List Nat} {s : D} (hF : CaseAt bs c l fs k p s idx) (a : Akt) (ha : a.cse = k) (ham : inR a.minute 0 10000000 = true) :
  FSpecWO Try.prog 67 (.st bs) [.loc j 0, a.d] (if appR c l p idx a ≠ 0 then .pan (refusal (appR c l p idx a)) else .ret (I a.cse)) (.st bs) := by
 refine ku67.writeO rfl ?_
 unfold u67
 simp only [ups_cons, ups_nil, List.cons_append, List.nil_append]
 have hpos : 0 < idx.length := List.length_pos_iff.2 hF.ne
 have hlen := hF.len
 have hlt : idx.length - 1 < idx.length := by omega
 have hx := List.getElem?_eq_getElem hlt
 have hxl := hF.lt _ (List.getElem_mem hlt)
 have hFs := hF.sl
 obtain ⟨b1, rfl, hb1⟩ := hFs.get hpos
 have h98 := c98y h hf hF.hk hF.get
 rw [← ha] at h98
 have h99 := c99 h hm hF.sl hF.lt hF.len hF.ne p
 have hp := hF.pl
 obtain ⟨b, rfl, hb⟩ := h.2.get hp
 have hmx := hm _ (List.getElem_mem hxl)
 have e : (nth l (idx.getLast?.getD 0)) = l[idx[idx.length - 1]] := by
  rw [List.getLast?_eq_getElem?, hx]
  simp [nth, hxl]
 have hmx' : 0 ≤ l[idx[idx.length - 1]].minute ∧ l[idx[idx.length - 1]].minute ≤ 10000000 := by unfold inR at hmx; simpa using hmx
 have ham' : 0 ≤ a.minute ∧ a.minute ≤ 10000000 := by unfold inR at ham; simpa using ham
 unfold appR
 rw [nth_get hp, e]
 by_cases h1 : lastSt c l idx ≠ 3
 ·simp only [if_pos h1]
  repeat' (first | ((with_reducible apply u_chk); (· rfl)) | ((with_reducible apply u_ev); (· rfl); (· simp only [sbe]; rfl)) | ((with_reducible apply u_pcallR); (· rfl); (· rfl); (· first | exact h98 | exact h99); (· rfl); (· simp only [sbe]; rfl)) | ((with_reducible apply u_pcallP); (· rfl); (· rfl); (· exact c96y (by simpa using h1) _); (· rfl); (· exact ⟨_, _, rfl⟩)))
 ·simp only [if_neg h1]
  by_cases h2 : a.by_ ≠ l[p].by_ ∧ a.by_ ≠ l[p].against
  ·simp only [if_pos h2]
   repeat' (first | ((with_reducible apply nrm); (· simp only [sbe]; rfl)) | ((with_reducible apply u_chk); (· rfl)) | ((with_reducible apply u_ld); (· rfl); (· rfl); (· first | exact ld_blk h.1 rfl | exact ld_el hb (fun _ => rfl) (List.getElem?_eq_getElem hp)); (· simp only [sbe]; rfl)) | ((with_reducible apply u_eaddr); (· rfl); (· rfl); (· exact eaddr_sl hp); (· simp only [sbe]; rfl)) | ((with_reducible apply u_ev); (· rfl); (· simp only [sbe]; rfl)) | ((with_reducible apply u_pcallR); (· rfl); (· rfl); (· first | exact h98 | exact h99 | exact c96n (by simpa using h1) _); (· rfl); (· simp only [sbe]; rfl)) | ((with_reducible apply u_pcallP); (· rfl); (· rfl); (· exact c96y (by simpa using h2) _); (· rfl); (· exact ⟨_, _, rfl⟩)) | ((with_reducible apply u_and); (· rfl)) | (with_reducible exact u_ret rfl rfl) | ((with_reducible intro hz); (try simp only [sbs] at hz)))
  ·simp only [if_neg h2]
   by_cases h3 : c.second < a.minute - l[idx[idx.length - 1]].minute
   ·simp only [if_pos h3]
    repeat' (first | ((with_reducible apply nrm); (· simp only [sbe]; rfl)) | ((with_reducible apply u_chk); (· rfl)) | ((with_reducible apply u_ld); (· rfl); (· rfl); (· first | exact ld_blk h.1 rfl | exact ld_el hb (fun _ => rfl) (List.getElem?_eq_getElem hp) | exact ld_el0 hb1 (fun _ => rfl) hx rfl | exact ld_elc hb (fun _ => rfl) (List.getElem?_eq_getElem hxl) rfl); (· simp only [sbe]; rfl)) | ((with_reducible apply u_eaddr); (· rfl); (· rfl); (· first | exact eaddr_sl hp | exact eaddr_sl hlt | exact eaddr_sl hxl); (· simp only [sbe]; rfl)) | ((with_reducible apply u_pred); (· rfl); (· omega); (· simp only [sbe]; rfl)) | ((with_reducible apply u_sub); (· rfl); (· rfl); (· omega); (· simp only [sbe]; rfl)) | ((with_reducible apply u_ev); (· rfl); (· simp only [sbe]; rfl)) | ((with_reducible apply u_pcallR); (· rfl); (· rfl); (· first | exact h98 | exact h99 | exact c96n (by simpa using h1) _ | exact c96n (by simpa using h2) _); (· rfl); (· simp only [sbe]; rfl)) | ((with_reducible apply u_pcallP); (· rfl); (· rfl); (· exact c96y (decide_eq_true h3) _); (· rfl); (· exact ⟨_, _, rfl⟩)) | ((with_reducible apply u_and); (· rfl)) | (with_reducible exact u_ret rfl rfl) | ((with_reducible intro hz); (try simp only [sbs] at hz)))
   ·simp only [if_neg h3]
    by_cases h4 : a.paid ≠ c.price
    ·simp only [if_pos h4]
     repeat' (first | ((with_reducible apply nrm); (· simp only [sbe]; rfl)) | ((with_reducible apply u_chk); (· rfl)) | ((with_reducible apply u_ld); (· rfl); (· rfl); (· first | exact ld_blk h.1 rfl | exact ld_el hb (fun _ => rfl) (List.getElem?_eq_getElem hp) | exact ld_el0 hb1 (fun _ => rfl) hx rfl | exact ld_elc hb (fun _ => rfl) (List.getElem?_eq_getElem hxl) rfl); (· simp only [sbe]; rfl)) | ((with_reducible apply u_eaddr); (· rfl); (· rfl); (· first | exact eaddr_sl hp | exact eaddr_sl hlt | exact eaddr_sl hxl); (· simp only [sbe]; rfl)) | ((with_reducible apply u_pred); (· rfl); (· omega); (· simp only [sbe]; rfl)) | ((with_reducible apply u_sub); (· rfl); (· rfl); (· omega); (· simp only [sbe]; rfl)) | ((with_reducible apply u_ev); (· rfl); (· simp only [sbe]; rfl)) | ((with_reducible apply u_pcallR); (· rfl); (· rfl); (· first | exact h98 | exact h99 | exact c96n (by simpa using h1) _ | exact c96n (by simpa using h2) _ | exact c96n (decide_eq_false h3) _); (· rfl); (· simp only [sbe]; rfl)) | ((with_reducible apply u_pcallP); (· rfl); (· rfl); (· exact c96y (by simpa using h4) _); (· rfl); (· exact ⟨_, _, rfl⟩)) | ((with_reducible apply u_and); (· rfl)) | (with_reducible exact u_ret rfl rfl) | ((with_reducible intro hz); (try simp only [sbs] at hz)))
    ·simp only [if_neg h4]
     repeat' (first | ((with_reducible apply nrm); (· simp only [sbe]; rfl)) | ((with_reducible apply u_chk); (· rfl)) | ((with_reducible apply u_ld); (· rfl); (· rfl); (· first | exact ld_blk h.1 rfl | exact ld_el hb (fun _ => rfl) (List.getElem?_eq_getElem hp) | exact ld_el0 hb1 (fun _ => rfl) hx rfl | exact ld_elc hb (fun _ => rfl) (List.getElem?_eq_getElem hxl) rfl); (· simp only [sbe]; rfl)) | ((with_reducible apply u_eaddr); (· rfl); (· rfl); (· first | exact eaddr_sl hp | exact eaddr_sl hlt | exact eaddr_sl hxl); (· simp only [sbe]; rfl)) | ((with_reducible apply u_pred); (· rfl); (· omega); (· simp only [sbe]; rfl)) | ((with_reducible apply u_sub); (· rfl); (· rfl); (· omega); (· simp only [sbe]; rfl)) | ((with_reducible apply u_ev); (· rfl); (· simp only [sbe]; rfl)) | ((with_reducible apply u_pcallR); (· rfl); (· rfl); (· first | exact h98 | exact h99 | exact c96n (by simpa using h1) _ | exact c96n (by simpa using h2) _ | exact c96n (decide_eq_false h3) _ | exact c96n (by simpa using h4) _); (· rfl); (· simp only [sbe]; rfl)) | ((with_reducible apply u_and); (· rfl)) | (with_reducible exact u_ret rfl rfl) | ((with_reducible apply u_ret); (· rfl); first | exact rfl | (refine retB ?_) | (refine retI ?_) | (refine retD ?_)) | ((with_reducible intro hz); (try simp only [sbs] at hz)))


theorem c66n (h : ActsAt bs j c l sa sf) (hf : SlOf bs 115 2 fcs sf fs) (a : Akt) (ha : fs.length ≤ a.cse) : FSpecWO Try.prog 66 (.st bs) [.loc j 0, a.d] (.pan (refusal 5)) (.st bs) := by
 refine ku66.writeO rfl ?_
 unfold u66
 simp only [ups_cons, ups_nil, List.cons_append, List.nil_append]
 repeat' (first | ((with_reducible apply u_chk); (· rfl)) | ((with_reducible apply u_pcallP); (· rfl); (· rfl); (· exact c98n h hf ha); (· rfl); (· exact ⟨_, _, rfl⟩)))

theorem c67n (h : ActsAt bs j c l sa sf) (hf : SlOf bs 115 2 fcs sf fs) (a : Akt) (ha : fs.length ≤ a.cse) : FSpecWO Try.prog 67 (.st bs) [.loc j 0, a.d] (.pan (refusal 5)) (.st bs) := by
 refine ku67.writeO rfl ?_
 unfold u67
 simp only [ups_cons, ups_nil, List.cons_append, List.nil_append]
 repeat' (first | ((with_reducible apply u_chk); (· rfl)) | ((with_reducible apply u_pcallP); (· rfl); (· rfl); (· exact c98n h hf ha); (· rfl); (· exact ⟨_, _, rfl⟩)))

theorem c68n (h : ActsAt bs j c l sa sf) (hf : SlOf bs 115 2 fcs sf fs) (a : Akt) (ha : fs.length ≤ a.cse) : FSpecWO Try.prog 68 (.st bs) [.loc j 0, a.d] (.pan (refusal 5)) (.st bs) := by
 refine ku68.writeO rfl ?_
 unfold u68
 simp only [ups_cons, ups_nil, List.cons_append, List.nil_append]
 repeat' (first | ((with_reducible apply u_chk); (· rfl)) | ((with_reducible apply u_pcallP); (· rfl); (· rfl); (· exact c98n h hf ha); (· rfl); (· exact ⟨_, _, rfl⟩)))

theorem c69n (h : ActsAt bs j c l sa sf) (hf : SlOf bs 115 2 fcs sf fs) (a : Akt) (ha : fs.length ≤ a.cse) : FSpecWO Try.prog 69 (.st bs) [.loc j 0, a.d] (.pan (refusal 5)) (.st bs) := by
 refine ku69.writeO rfl ?_
 unfold u69
 simp only [ups_cons, ups_nil, List.cons_append, List.nil_append]
 repeat' (first | ((with_reducible apply u_chk); (· rfl)) | ((with_reducible apply u_pcallP); (· rfl); (· rfl); (· exact c98n h hf ha); (· rfl); (· exact ⟨_, _, rfl⟩)))

end Go.Am.Ct

/-
 What the specification's functions answer.
-/
namespace Go.Am.Ct
set_option maxRecDepth 100000
set_option maxHeartbeats 4000000
open Go.Proofs Go.Am.Ap

variable {bs : List D} {c : Cod} {l : List Akt}

abbrev Rec (l : List Akt) : D := .lst (l.map Akt.d)
abbrev In (i : Nat) : D := I (i : Int)
abbrev Ix (l : List Nat) : D := .lst (l.map In)

def lastIx (P : Akt → Bool) (l : List Akt) : Nat → Int
 | 0 => -1
 | i + 1 => if P (nth l i) = true then i else lastIx P l i

def isAct (kind number minute : Int) (a : Akt) : Bool := a.kind == kind && a.cse == number && decide (a.minute ≤ minute)
def rlast (l : List Akt) (kind number minute : Int) : Int := lastIx (isAct kind number minute) l l.length

theorem c59 (hL : l.length ≤ 1000000) (kind number minute : Int) : FSpecR Try.prog 59 (.st bs) [Rec l, I kind, I number, I minute] (I (rlast l kind number minute)) := by
 refine ku59.R rfl rfl ?_
 unfold u59
 simp only [ups_cons, ups_nil, List.cons_append, List.nil_append]
 repeat' ((with_reducible refine u_join ?_))
 refine u_range (fun i => [I (lastIx (isAct kind number minute) l i), I i]) (fun _ => True) l.length rfl (fun _ => rfl) trivial (fun i hi _ R hR => ?_) (fun _ R => ?_)
 ·have hn := nth_get hi
  repeat' (first | ((with_reducible apply nrm); (· simp only [sbe]; rfl)) | ((with_reducible apply u_chk); (· rfl)) | ((with_reducible apply u_eaddr); (· rfl); (· rfl); (· exact eaddr_get hi rfl); (· simp only [sbe]; rfl)) | ((with_reducible apply u_lenL); (· rfl); (· exact lenL_map); (· simp only [sbe]; rfl)) | ((with_reducible apply u_inc); (· rfl); (· omega); (· simp only [sbe]; rfl)) | ((with_reducible apply u_ev); (· rfl); (· simp only [sbe]; rfl)) | ((with_reducible apply u_and); (· rfl)) | (with_reducible refine u_join ?_) | ((with_reducible apply u_jump); (· rfl); (· rfl)) | (with_reducible refine at_jump ?_) | (with_reducible refine kj rfl ?_) | ((with_reducible apply u_phi); (· rfl); (· intro hz; rfl); (· intro hz; rfl); (· rfl); (· simp only [sbe, List.zipWith_cons_cons, List.zipWith_nil_left, selD]; rfl)) | ((with_reducible apply u_ite); (· rfl); all_goals (intro hz; (try simp only [sbs] at hz); first | (exact absurd hz (by decide)) | (exfalso; omega) | skip)) | (with_reducible exact u_ret rfl rfl) | ((with_reducible intro hz); (try simp only [sbs] at hz)))
  have hr := hR trivial
  simp only [lastIx, hn, isAct] at hr
  simpa using hr
 ·repeat' (first | ((with_reducible apply nrm); (· simp only [sbe]; rfl)) | ((with_reducible apply u_lenL); (· rfl); (· exact lenL_map); (· simp only [sbe]; rfl)) | ((with_reducible apply u_ev); (· rfl); (· simp only [sbe]; rfl)) | ((with_reducible apply u_jump); (· rfl); (· rfl)) | (with_reducible refine at_jump ?_) | (with_reducible refine over_jump (by decide) ?_) | (with_reducible refine kj rfl ?_) | ((with_reducible apply u_ite); (· rfl); all_goals (intro hz; (try simp only [sbs] at hz); first | (exact absurd hz (by decide)) | (exfalso; omega) | skip)) | (with_reducible exact u_ret rfl rfl))

def prot (l : List Akt) : Nat → List Nat
 | 0 => []
 | i + 1 => if (nth l i).kind = 2 then prot l i ++ [i] else prot l i

theorem prot_len (l : List Akt) : ∀ n, (prot l n).length ≤ n
 | 0 => Nat.le_refl _
 | n + 1 => by
  have := prot_len l n
  simp only [prot]
  split
  ·simp; omega
  ·omega

theorem c27 (hL : l.length ≤ 1000000) : FSpecR Try.prog 27 (.st bs) [Rec l] (Ix (prot l l.length)) := by
 refine ku27.R rfl rfl ?_
 unfold u27
 simp only [ups_cons, ups_nil, List.cons_append, List.nil_append]
 repeat' ((with_reducible refine u_join ?_))
 refine u_range (fun i => [Ix (prot l i), I i]) (fun _ => True) l.length rfl (fun _ => rfl) trivial (fun i hi _ R hR => ?_) (fun _ R => ?_)
 ·have hn := nth_get hi
  have hp := prot_len l i
  have hm : (prot l i).length + 1 ≤ maxLen := by unfold maxLen; omega
  repeat' (first | ((with_reducible apply nrm); (· simp only [sbe]; rfl)) | ((with_reducible apply u_chk); (· rfl)) | ((with_reducible apply u_eaddr); (· rfl); (· rfl); (· exact eaddr_get hi rfl); (· simp only [sbe]; rfl)) | ((with_reducible apply u_app); (· rfl); (· rfl); (· exact app1_lst (enc := In) (a := i) (by omega) hm (fun _ => rfl)); (· simp only [sbe]; rfl)) | ((with_reducible apply u_lenL); (· rfl); (· exact lenL_map); (· simp only [sbe]; rfl)) | ((with_reducible apply u_inc); (· rfl); (· omega); (· simp only [sbe]; rfl)) | ((with_reducible apply u_ev); (· rfl); (· simp only [sbe]; rfl)) | (with_reducible refine u_join ?_) | ((with_reducible apply u_jump); (· rfl); (· rfl)) | (with_reducible refine at_jump ?_) | (with_reducible refine kj rfl ?_) | ((with_reducible apply u_ite); (· rfl); all_goals (intro hz; (try simp only [sbs] at hz); first | (exact absurd hz (by decide)) | (exfalso; omega) | skip)))
  all_goals (
   have hr := hR trivial
   simp only [prot, hn] at hr
   first | rw [if_pos hz] at hr | rw [if_neg hz] at hr
   simpa [Ix] using hr)
 ·repeat' (first | ((with_reducible apply nrm); (· simp only [sbe]; rfl)) | ((with_reducible apply u_lenL); (· rfl); (· exact lenL_map); (· simp only [sbe]; rfl)) | ((with_reducible apply u_ev); (· rfl); (· simp only [sbe]; rfl)) | ((with_reducible apply u_jump); (· rfl); (· rfl)) | (with_reducible refine at_jump ?_) | (with_reducible refine over_jump (by decide) ?_) | (with_reducible refine kj rfl ?_) | ((with_reducible apply u_ite); (· rfl); all_goals (intro hz; (try simp only [sbs] at hz); first | (exact absurd hz (by decide)) | (exfalso; omega) | skip)) | (with_reducible exact u_ret rfl rfl))

theorem c58 (hL : l.length ≤ 1000000) (p : Int) : FSpecR Try.prog 58 (.st bs) [Rec l, I p] (I (fi (isPub p) l)) := by
 refine ku58.R rfl rfl ?_
 unfold u58
 simp only [ups_cons, ups_nil, List.cons_append, List.nil_append]
 repeat' ((with_reducible refine u_join ?_))
 refine u_range (fun i => [I i]) (fun i => ∀ k (h : k < i) (h2 : k < l.length), isPub p l[k] = false) l.length rfl (fun _ => rfl) (fun k h => absurd h (Nat.not_lt_zero _)) (fun i hi hJ R hR => ?_) (fun hJ R => ?_)
 ·repeat' (first | ((with_reducible apply nrm); (· simp only [sbe]; rfl)) | ((with_reducible apply u_chk); (· rfl)) | ((with_reducible apply u_eaddr); (· rfl); (· rfl); (· exact eaddr_get hi rfl); (· simp only [sbe]; rfl)) | ((with_reducible apply u_lenL); (· rfl); (· exact lenL_map); (· simp only [sbe]; rfl)) | ((with_reducible apply u_inc); (· rfl); (· omega); (· simp only [sbe]; rfl)) | ((with_reducible apply u_ev); (· rfl); (· simp only [sbe]; rfl)) | ((with_reducible apply u_and); (· rfl)) | (with_reducible refine u_join ?_) | ((with_reducible apply u_jump); (· rfl); (· rfl)) | (with_reducible refine at_jump ?_) | (with_reducible refine kj rfl ?_) | ((with_reducible apply u_ite); (· rfl); all_goals (intro hz; (try simp only [sbs] at hz); first | (exact absurd hz (by decide)) | (exfalso; omega) | skip)) | (with_reducible exact u_ret rfl rfl) | ((with_reducible apply u_ret); (· rfl); first | exact rfl | (refine retB ?_) | (refine retI ?_) | (refine retD ?_)) | ((with_reducible intro hz); (try simp only [sbs] at hz)))
  ·rename_i hz
   refine (fi_at hi (by simp [isPub, hz]) fun k hk => hJ k hk (by omega)).symm
  ·rename_i hz
   refine hR fun k hk h2 => ?_
   rcases Nat.lt_or_ge k i with h3 | h3
   ·exact hJ k h3 h2
   ·have e : k = i := by omega
    subst e
    rcases hz with hz | hz <;> simp [isPub, hz]
 ·repeat' (first | ((with_reducible apply nrm); (· simp only [sbe]; rfl)) | ((with_reducible apply u_lenL); (· rfl); (· exact lenL_map); (· simp only [sbe]; rfl)) | ((with_reducible apply u_ev); (· rfl); (· simp only [sbe]; rfl)) | ((with_reducible apply u_jump); (· rfl); (· rfl)) | (with_reducible refine at_jump ?_) | (with_reducible refine over_jump (by decide) ?_) | (with_reducible refine kj rfl ?_) | ((with_reducible apply u_ite); (· rfl); all_goals (intro hz; (try simp only [sbs] at hz); first | (exact absurd hz (by decide)) | (exfalso; omega) | skip)) | ((with_reducible apply u_ret); (· rfl); first | exact rfl | (refine retB ?_) | (refine retI ?_) | (refine retD ?_)))
  refine (fi_no fun a ha => ?_).symm
  obtain ⟨k, hk, rfl⟩ := List.mem_iff_getElem.1 ha
  exact hJ k hk hk

attribute [local irreducible] inR

theorem incr_at {l : List Int} : ∀ {n : Nat}, (∀ k, k < n → incrAt l k = true) → incr l n = true
 | 0, _ => rfl
 | n + 1, h => by simp only [incr, incr_at (n := n) fun k hk => h k (by omega), h n (by omega), Bool.and_self]

theorem incr_no {l : List Int} : ∀ {n k : Nat}, k < n → incrAt l k = false → incr l n = false
 | n + 1, k, hk, h => by
  simp only [incr]
  rcases Nat.lt_or_ge k n with h1 | h1
  ·rw [incr_no h1 h]; rfl
  ·have e : k = n := by omega
   rw [e] at h
   rw [h]; simp

theorem c94 (xs : List Int) (hL : xs.length ≤ 1000000000) : FSpecR Try.prog 94 (.st bs) [Is xs] (B (factsOk xs)) := by
 refine ku94.R rfl rfl ?_
 unfold u94
 simp only [ups_cons, ups_nil, List.cons_append, List.nil_append]
 repeat' ((with_reducible refine u_join ?_))
 refine u_range (fun i => [I i]) (fun i => ∀ k, k < i → incrAt xs k = true) xs.length rfl (fun _ => rfl) (fun k h => absurd h (Nat.not_lt_zero _)) (fun i hi hJ R hR => ?_) (fun hJ R => ?_)
 ·have hg : xs.getD i 0 = xs[i] := by simp [hi]
  have hg2 : 0 < i → xs.getD (i - 1) 0 = xs[i - 1] := fun h => by simp [show i - 1 < xs.length by omega]
  have hi' : i - 1 < xs.length := by omega
  repeat' (first | ((with_reducible apply nrm); (· simp only [sbe]; rfl)) | ((with_reducible apply u_eaddr); (· rfl); (· rfl); (· first | exact eaddr_get hi rfl | exact eaddr_get hi' rfl); (· simp only [sbe]; rfl)) | ((with_reducible apply u_lenL); (· rfl); (· exact lenL_map); (· simp only [sbe]; rfl)) | ((with_reducible apply u_inc); (· rfl); (· omega); (· simp only [sbe]; rfl)) | ((with_reducible apply u_pred); (· rfl); (· omega); (· simp only [sbe]; rfl)) | ((with_reducible apply u_ev); (· rfl); (· simp only [sbe]; rfl)) | ((with_reducible apply u_call); (· rfl); (· rfl); (· exact c55 _ _ _); (· rfl); (· simp only [sbe]; rfl)) | ((with_reducible apply u_or); (· rfl)) | ((with_reducible apply u_and); (· rfl)) | (with_reducible refine u_join ?_) | ((with_reducible apply u_jump); (· rfl); (· rfl)) | (with_reducible refine at_jump ?_) | (with_reducible refine kj rfl ?_) | ((with_reducible apply u_ite); (· rfl); all_goals (intro hz; (try simp only [sbs] at hz); first | (exact absurd hz (by decide)) | (exfalso; omega) | skip)) | (with_reducible exact u_ret rfl rfl) | ((with_reducible apply u_ret); (· rfl); first | exact rfl | (refine retB ?_) | (refine retI ?_) | (refine retD ?_)) | ((with_reducible intro hz); (try simp only [sbs] at hz)))
  ·rename_i hz
   have : incrAt xs i = false := by
    unfold incrAt
    rw [hg]
    rcases hz with hz | ⟨h1, h2⟩
    ·simp [hz]
    ·rw [hg2 (by omega)]
     simp
     intro _
     omega
   simp [factsOk, incr_no hi this]
  ·rename_i hz
   refine hR fun k hk => ?_
   rcases Nat.lt_or_ge k i with h3 | h3
   ·exact hJ k h3
   ·have e : k = i := by omega
    subst e
    unfold incrAt
    rw [hg, hz.1]
    by_cases h0 : k = 0
    ·simp [h0]
    ·rw [hg2 (by omega)]
     simp
     right
     have := hz.2
     rcases this with h | h <;> omega
 ·repeat' (first | ((with_reducible apply nrm); (· simp only [sbe]; rfl)) | ((with_reducible apply u_lenL); (· rfl); (· exact lenL_map); (· simp only [sbe]; rfl)) | ((with_reducible apply u_ev); (· rfl); (· simp only [sbe]; rfl)) | ((with_reducible apply u_jump); (· rfl); (· rfl)) | (with_reducible refine at_jump ?_) | (with_reducible refine over_jump (by decide) ?_) | (with_reducible refine kj rfl ?_) | ((with_reducible apply u_ite); (· rfl); all_goals (intro hz; (try simp only [sbs] at hz); first | (exact absurd hz (by decide)) | (exfalso; omega) | skip)) | ((with_reducible apply u_ret); (· rfl); first | exact rfl | (refine retB ?_) | (refine retI ?_) | (refine retD ?_)))
  simp [factsOk, incr_at hJ]

theorem c19 (xs ys : List Int) (hx : xs.length ≤ 1000000000) : FSpecR Try.prog 19 (.st bs) [Is xs, Is ys] (B (decide (xs = ys))) := by
 refine ku19.R rfl rfl ?_
 unfold u19
 simp only [ups_cons, ups_nil, List.cons_append, List.nil_append]
 repeat' (first | ((with_reducible apply u_lenL); (· rfl); (· exact lenL_map); (· simp only [sbe]; rfl)) | ((with_reducible apply u_ev); (· rfl); (· simp only [sbe]; rfl)) | (with_reducible refine u_join ?_) | ((with_reducible apply u_ite); (· rfl); all_goals (intro hz; (try simp only [sbs] at hz); first | (exact absurd hz (by decide)) | (exfalso; omega) | skip)) | ((with_reducible apply u_ret); (· rfl); first | exact rfl | (refine retB ?_) | (refine retI ?_) | (refine retD ?_)))
 ·symm
  simp
  intro e
  rw [e] at hz
  simp at hz
 ·have hz : xs.length = ys.length := by omega
  refine u_range (fun i => [I i]) (fun i => ∀ k, k < i → xs[k]? = ys[k]?) xs.length rfl (fun _ => rfl) (fun k h => absurd h (Nat.not_lt_zero _)) (fun i hi hJ R hR => ?_) (fun hJ R => ?_)
  ·have hi' : i < ys.length := by omega
   repeat' (first | ((with_reducible apply nrm); (· simp only [sbe]; rfl)) | ((with_reducible apply u_eaddr); (· rfl); (· rfl); (· first | exact eaddr_get hi rfl | exact eaddr_get hi' rfl); (· simp only [sbe]; rfl)) | ((with_reducible apply u_lenL); (· rfl); (· exact lenL_map); (· simp only [sbe]; rfl)) | ((with_reducible apply u_inc); (· rfl); (· omega); (· simp only [sbe]; rfl)) | ((with_reducible apply u_ev); (· rfl); (· simp only [sbe]; rfl)) | (with_reducible refine u_join ?_) | ((with_reducible apply u_jump); (· rfl); (· rfl)) | (with_reducible refine at_jump ?_) | (with_reducible refine kj rfl ?_) | ((with_reducible apply u_ite); (· rfl); all_goals (intro hz; (try simp only [sbs] at hz); first | (exact absurd hz (by decide)) | (exfalso; omega) | skip)) | ((with_reducible apply u_ret); (· rfl); first | exact rfl | (refine retB ?_) | (refine retI ?_) | (refine retD ?_)))
   ·symm
    simp
    intro e
    subst e
    exact hz rfl
   ·refine hR fun k hk => ?_
    rcases Nat.lt_or_ge k i with h3 | h3
    ·exact hJ k h3
    ·have e : k = i := by omega
     subst e
     rw [List.getElem?_eq_getElem hi, List.getElem?_eq_getElem hi', hz]
  ·repeat' (first | ((with_reducible apply nrm); (· simp only [sbe]; rfl)) | ((with_reducible apply u_lenL); (· rfl); (· exact lenL_map); (· simp only [sbe]; rfl)) | ((with_reducible apply u_ev); (· rfl); (· simp only [sbe]; rfl)) | ((with_reducible apply u_jump); (· rfl); (· rfl)) | (with_reducible refine at_jump ?_) | (with_reducible refine over_jump (by decide) ?_) | (with_reducible refine kj rfl ?_) | ((with_reducible apply u_ite); (· rfl); all_goals (intro hz; (try simp only [sbs] at hz); first | (exact absurd hz (by decide)) | (exfalso; omega) | skip)) | ((with_reducible apply u_ret); (· rfl); first | exact rfl | (refine retB ?_) | (refine retI ?_) | (refine retD ?_)))
   symm
   simp
   refine List.ext_getElem? fun k => ?_
   rcases Nat.lt_or_ge k xs.length with h | h
   ·exact hJ k h
   ·rw [List.getElem?_eq_none h, List.getElem?_eq_none (by omega)]

def sameA (a b : Akt) : Bool := sameBut a b && decide (a.facts = b.facts)

theorem c71 (a b : Akt) (ha : a.facts.length ≤ 1000000000) : FSpecR Try.prog 71 (.st bs) [a.d, b.d] (B (sameA a b)) := by
 refine ku71.R rfl rfl ?_
 unfold u71
 simp only [ups_cons, ups_nil, List.cons_append, List.nil_append]
 repeat' (first | ((with_reducible apply nrm); (· simp only [sbe]; rfl)) | ((with_reducible apply u_chk); (· rfl)) | ((with_reducible apply u_ev); (· rfl); (· simp only [sbe]; rfl)) | ((with_reducible apply u_call); (· rfl); (· rfl); (· exact c19 _ _ ha); (· rfl); (· simp only [sbe]; rfl)) | ((with_reducible apply u_and); (· rfl)) | (with_reducible exact u_ret rfl rfl) | ((with_reducible intro hz); (try simp only [sbs] at hz)))

def fitsR (c : Cod) (l : List Akt) (a : Akt) : Bool :=
 if a.upheld = true then inR a.penalty (verA c (nth l ((prot l l.length).getD a.cse.toNat 0)).article (nth l ((prot l l.length).getD a.cse.toNat 0)).at_).l (verA c (nth l ((prot l l.length).getD a.cse.toNat 0)).article (nth l ((prot l l.length).getD a.cse.toNat 0)).at_).m
 else a.penalty == 0

theorem prot_lt (l : List Akt) : ∀ (n : Nat) (i : Nat), i ∈ prot l n → i < n
 | 0, i, h => by simp [prot] at h
 | n + 1, i, h => by
  simp only [prot] at h
  split at h
  ·rcases List.mem_append.1 h with h | h
   ·have := prot_lt l n i h; omega
   ·simp at h; omega
  ·have := prot_lt l n i h; omega

theorem c60 (hc : c.arts.length ≤ 1000) (hL : l.length ≤ 1000000) (a : Akt) {k : Nat} (hk : a.cse = k) (hkl : k < (prot l l.length).length) : FSpecR Try.prog 60 (.st bs) [c.d, Rec l, a.d] (B (fitsR c l a)) := by
 refine ku60.R rfl rfl ?_
 unfold u60
 simp only [ups_cons, ups_nil, List.cons_append, List.nil_append]
 have hp := prot_lt l l.length _ (List.getElem_mem hkl)
 have e1 : (prot l l.length).getD a.cse.toNat 0 = (prot l l.length)[k] := by rw [hk]; simp [hkl]
 have e2 := nth_get hp
 unfold fitsR
 rw [e1, e2]
 have hea : D.eaddr 1 (Ix (prot l l.length)) (I a.cse) = some (.ptr [In (prot l l.length)[k]]) := by rw [hk]; exact eaddr_get hkl rfl
 cases hu : a.upheld
 ·have h1 : (!a.upheld) = true := by rw [hu]; rfl
  repeat' (first | ((with_reducible apply u_iteT); (· rfl); (· exact h1)) | ((with_reducible apply u_chk); (· rfl)) | ((with_reducible apply u_ev); (· rfl); (· simp only [sbe]; rfl)) | (with_reducible exact u_ret rfl rfl))
 ·have h1 : (!a.upheld) = false := by rw [hu]; rfl
  repeat' (first | ((with_reducible apply u_iteF); (· rfl); (· exact h1)) | ((with_reducible apply u_chk); (· rfl)) | ((with_reducible apply u_eaddr); (· rfl); (· rfl); (· first | exact hea | exact eaddr_get hp rfl); (· simp only [sbe]; rfl)) | ((with_reducible apply u_ev); (· rfl); (· simp only [sbe]; rfl)) | ((with_reducible apply u_call); (· rfl); (· rfl); (· first | exact c27 hL | exact c40 c _ _ hc | exact c55 _ _ _); (· rfl); (· simp only [sbe]; rfl)) | (with_reducible exact u_ret rfl rfl))

theorem c57 (a : Akt) (ha : a.facts.length ≤ 1000000) : FSpecR Try.prog 57 (.st bs) [c.d, a.d] (B (actOk c.cars a)) := by
 refine ku57.R rfl rfl ?_
 unfold u57
 simp only [ups_cons, ups_nil, List.cons_append, List.nil_append]
 repeat' (first | ((with_reducible apply nrm); (· simp only [sbe]; rfl)) | ((with_reducible apply u_chk); (· rfl)) | ((with_reducible apply u_ev); (· rfl); (· simp only [sbe]; rfl)) | ((with_reducible apply u_call); (· rfl); (· rfl); (· first | exact c55 _ _ _ | exact c94 _ (by omega) | exact c71 a ⟨a.kind, a.minute, a.paper, 0, 0, 0, 0, 0, [], 0, false, 0⟩ (by omega) | exact c71 a ⟨a.kind, a.minute, a.paper, 0, a.by_, a.against, a.article, a.at_, a.facts, a.paid, false, 0⟩ (by omega) | exact c71 a ⟨a.kind, a.minute, 0, a.cse, 0, 0, 0, 0, [], 0, a.upheld, a.penalty⟩ (by omega) | exact c71 a ⟨a.kind, a.minute, 0, a.cse, a.by_, 0, 0, 0, [], a.paid, false, 0⟩ (by omega) | exact c71 a ⟨a.kind, a.minute, 0, a.cse, a.by_, 0, 0, 0, [], 0, false, 0⟩ (by omega)); (· rfl); (· simp only [sbe]; rfl)) | ((with_reducible apply u_and); (· rfl)) | (with_reducible refine u_join ?_) | ((with_reducible apply u_jump); (· rfl); (· rfl)) | (with_reducible refine at_jump ?_) | (with_reducible refine kj rfl ?_) | ((with_reducible apply u_ite); (· rfl); all_goals (intro hz; (try simp only [sbs] at hz); first | (exact absurd hz (by decide)) | (exfalso; omega) | skip)) | (with_reducible exact u_ret rfl rfl) | ((with_reducible apply u_ret); (· rfl); first | exact rfl | (refine retB ?_) | (refine retI ?_) | (refine retD ?_)) | ((with_reducible intro hz); (try simp only [sbs] at hz)))
 all_goals (
  rw [Bool.eq_iff_iff]
  simp [actOk, only, sameA, sameBut, *])
 all_goals (try (constructor <;> intro h <;> simp_all; done))
 all_goals (intros; exact ⟨fun ⟨⟨h1, h2⟩, h3⟩ => ⟨⟨h1, h3⟩, h2⟩, fun ⟨⟨h1, h2⟩, h3⟩ => ⟨⟨h1, h3⟩, h2⟩⟩)

def refused (c : Cod) (l : List Akt) (a : Akt) : Int :=
 if actOk c.cars a = false ∨ (0 < l.length ∧ a.minute < (nth l (l.length - 1)).minute) then 2
 else if 2000 ≤ l.length then 4
 else if a.kind = 1 then (if 0 ≤ fi (isPub a.paper) l then 6 else 0)
 else if a.kind = 2 then
  if fi (isPub a.paper) l < 0 ∨ (verArt c.arts a.article a.at_ c.arts.length).isSome = false then 5
  else if c.window < a.minute - (nth l (fi (isPub a.paper) l).toNat).minute then 8
  else if a.paid ≠ c.fee then 7 else 0
 else if (prot l l.length).length ≤ a.cse then 5
 else
  let pr := nth l ((prot l l.length).getD a.cse.toNat 0)
  let x := rlast l 6 a.cse 10000000
  let d := rlast l 3 a.cse 10000000
  let ap := rlast l 4 a.cse 10000000
  let ju := rlast l 5 a.cse 10000000
  if a.kind = 3 then (if 0 ≤ x ∨ 0 ≤ d then 6 else if fitsR c l a = false then 7 else 0)
  else if a.kind = 4 then (if d < 0 ∨ 0 ≤ ap then 6 else if a.by_ ≠ pr.by_ ∧ a.by_ ≠ pr.against then 7 else if c.second < a.minute - (nth l d.toNat).minute then 8 else if a.paid ≠ c.price then 7 else 0)
  else if a.kind = 5 then (if ap < 0 ∨ 0 ≤ ju then 6 else if fitsR c l a = false then 7 else 0)
  else (if 0 ≤ x ∨ 0 ≤ d then 6 else if a.by_ ≠ pr.by_ then 7 else 0)

theorem eaddr_int {x : Int} (h0 : 0 ≤ x) (h1 : x < l.length) : D.eaddr 12 (Rec l) (I x) = some (.ptr (nth l x.toNat).cs) := by
 have h : x.toNat < l.length := by omega
 have e := eaddr_get (xs := l) (enc := Akt.d) (i := x.toNat) (sz := 12) h rfl
 rw [show ((x.toNat : Nat) : Int) = x by omega] at e
 rw [e, nth_get h]
 rfl

theorem eaddr_nth {i : Nat} (h : i < l.length) : D.eaddr 12 (Rec l) (I (i : Int)) = some (.ptr (nth l i).cs) := eaddr_int (by omega) (by omega)

theorem lastIx_lt (P : Akt → Bool) (l : List Akt) : ∀ n, -1 ≤ lastIx P l n ∧ lastIx P l n < n
 | 0 => by simp [lastIx]
 | n + 1 => by
  have := lastIx_lt P l n
  simp only [lastIx]
  split <;> omega

theorem rlast_lt (l : List Akt) (kind number minute : Int) : -1 ≤ rlast l kind number minute ∧ rlast l kind number minute < l.length := lastIx_lt _ _ _

theorem fi_lt (P : Akt → Bool) (l : List Akt) : -1 ≤ fi P l ∧ fi P l < l.length := by
 rcases fi_cases P l with ⟨h, _⟩ | ⟨i, hi, h, _⟩ <;> omega

def Mins (l : List Akt) : Prop := ∀ a, a ∈ l → inR a.minute 0 10000000 = true

theorem Mins.nth (h : Mins l) (i : Nat) : 0 ≤ (nth l i).minute ∧ (Ct.nth l i).minute ≤ 10000000 := by
 rcases Nat.lt_or_ge i l.length with hi | hi
 ·rw [nth_get hi]
  have := h _ (List.getElem_mem hi)
  unfold inR at this
  simpa using this
 ·simp [Ct.nth, hi, Akt.zero]

theorem actOk_minute {cars : Int} {a : Akt} (h : actOk cars a = true) : inR a.minute 0 10000000 = true := by
 unfold actOk at h
 simp only [Bool.and_eq_true] at h
 have h := h.1
 split at h
 ·simp_all
 ·split at h
  ·simp_all
  ·split at h
   ·simp_all
   ·split at h
    ·simp_all
    ·split at h
     ·simp_all
     ·cases h

theorem actOk_kind {cars : Int} {a : Akt} (h : actOk cars a = true) : a.kind = 1 ∨ a.kind = 2 ∨ ((a.kind = 3 ∨ a.kind = 4 ∨ a.kind = 5 ∨ a.kind = 6) ∧ 0 ≤ a.cse) := by
 unfold actOk at h
 simp only [Bool.and_eq_true] at h
 have h := h.1
 split at h
 ·exact .inl ‹_›
 ·split at h
  ·exact .inr (.inl ‹_›)
  ·split at h
   ·simp only [Bool.and_eq_true, decide_eq_true_eq] at h
    rename_i h1
    exact .inr (.inr ⟨by omega, h.1.1.2⟩)
   ·split at h
    ·simp only [Bool.and_eq_true, decide_eq_true_eq] at h
     exact .inr (.inr ⟨by omega, h.1.1.1.2⟩)
    ·split at h
     ·simp only [Bool.and_eq_true, decide_eq_true_eq] at h
      exact .inr (.inr ⟨by omega, h.1.1.2⟩)
     ·cases h

theorem c25 (hc : c.arts.length ≤ 1000) (hL : l.length ≤ 1000000) (hm : Mins l) (a : Akt) (ha : a.facts.length ≤ 1000000) : FSpecR Try.prog 25 (.st bs) [c.d, Rec l, a.d] (I (refused c l a)) := by
 refine ku25.R rfl rfl ?_
 unfold u25
 simp only [ups_cons, ups_nil, List.cons_append, List.nil_append]
 have h57 := c57 (bs := bs) (c := c) a ha
 have hf := fi_lt (isPub a.paper) l
 have hf1 := hm.nth (fi (isPub a.paper) l).toNat
 have hd := rlast_lt l 3 a.cse 10000000
 have hd1 := hm.nth (rlast l 3 a.cse 10000000).toNat
 unfold refused
 by_cases hok : actOk c.cars a = false
 ·rw [hok] at h57
  simp only [hok, true_or, if_true]
  repeat' (first | ((with_reducible apply nrm); (· simp only [sbe]; rfl)) | ((with_reducible apply u_iteT); (· rfl); (· exact rfl)) | ((with_reducible apply u_chk); (· rfl)) | ((with_reducible apply u_ev); (· rfl); (· simp only [sbe]; rfl)) | ((with_reducible apply u_call); (· rfl); (· rfl); (· exact h57); (· rfl); (· simp only [sbe]; rfl)) | ((with_reducible apply u_or); (· rfl)) | (with_reducible exact u_ret rfl rfl) | ((with_reducible intro hz); (try simp only [sbs] at hz)))
  exact false
 ·have hok : actOk c.cars a = true := by simpa using hok
  rw [hok] at h57
  have hk := actOk_kind hok
  have hmin := actOk_minute hok
  unfold inR at hmin
  simp only [Bool.and_eq_true, decide_eq_true_eq] at hmin
  simp only [hok, Bool.true_eq_false, false_or]
  have hpl : ∀ (h0 : 0 ≤ a.cse) (h1 : a.cse < (prot l l.length).length), D.eaddr 1 (Ix (prot l l.length)) (I a.cse) = some (.ptr [In ((prot l l.length).getD a.cse.toNat 0)]) ∧ D.eaddr 12 (Rec l) (In ((prot l l.length).getD a.cse.toNat 0)) = some (.ptr (nth l ((prot l l.length).getD a.cse.toNat 0)).cs) := by
   intro h0 h1
   have e : a.cse = (a.cse.toNat : Int) := by omega
   have h2 : a.cse.toNat < (prot l l.length).length := by omega
   have h3 : (prot l l.length).getD a.cse.toNat 0 = (prot l l.length)[a.cse.toNat] := by simp [h2]
   rw [h3]
   refine ⟨?_, eaddr_nth (prot_lt l l.length _ (List.getElem_mem h2))⟩
   have e3 := eaddr_get (xs := prot l l.length) (enc := In) (i := a.cse.toNat) (sz := 1) h2 rfl
   rw [show ((a.cse.toNat : Nat) : Int) = a.cse by omega] at e3
   exact e3
  have h60 : ∀ (h0 : 0 ≤ a.cse) (h1 : a.cse < (prot l l.length).length), FSpecR Try.prog 60 (.st bs) [c.d, Rec l, a.d] (B (fitsR c l a)) := fun h0 h1 => c60 hc hL a (k := a.cse.toNat) (by omega) (by omega)
  repeat' (first | ((with_reducible apply nrm); (· simp only [sbe]; rfl)) | ((with_reducible apply u_chk); (· rfl)) | ((with_reducible apply u_eaddr); (· rfl); (· rfl); (· first | exact eaddr_nth (by omega) | exact (hpl (by omega) (by omega)).1 | exact (hpl (by omega) (by omega)).2 | exact eaddr_int (by omega) (by omega)); (· simp only [sbe]; rfl)) | ((with_reducible apply u_lenL); (· rfl); (· exact lenL_map); (· simp only [sbe]; rfl)) | ((with_reducible apply u_pred); (· rfl); (· omega); (· simp only [sbe]; rfl)) | ((with_reducible apply u_sub); (· rfl); (· rfl); (· omega); (· simp only [sbe]; rfl)) | ((with_reducible apply u_sel); (· rfl); (· rfl); (· rfl); (· simp only [sbe, List.zipWith_cons_cons, List.zipWith_nil_left, selD]; rfl)) | ((with_reducible apply u_ev); (· rfl); (· simp only [sbe]; rfl)) | ((with_reducible apply u_call); (· rfl); (· rfl); (· first | exact h57 | exact c58 hL _ | exact c40 c _ _ hc | exact c27 hL | exact c59 hL _ _ _ | exact h60 (by omega) (by omega)); (· rfl); (· simp only [sbe]; rfl)) | ((with_reducible apply u_or); (· rfl)) | ((with_reducible apply u_and); (· rfl)) | (with_reducible refine u_join ?_) | ((with_reducible apply u_jump); (· rfl); (· rfl)) | (with_reducible refine at_jump ?_) | (with_reducible refine kj rfl ?_) | ((with_reducible apply u_ite); (· rfl); all_goals (intro hz; (try simp only [sbs] at hz); first | (exact absurd hz (by decide)) | (exfalso; omega) | skip)) | (with_reducible exact u_ret rfl rfl) | ((with_reducible apply u_ret); (· rfl); first | exact rfl | (refine retB ?_) | (refine retI ?_) | (refine retD ?_)) | ((with_reducible intro hz); (try simp only [sbs] at hz)))
  all_goals (first | (rw [if_pos (by omega)]; done) | (rw [if_neg (by omega), if_pos (by omega)]; done) | ((repeat' split) <;> first | rfl | (exfalso; omega) | (exfalso; simp_all; done) | (exfalso; simp_all; omega)))

end Go.Am.Ct

/-
 Records that a court accepts.
-/
namespace Go.Am.Ct
open Go.Am.Ap
set_option maxHeartbeats 1000000

theorem snocInd {α : Type} {P : List α → Prop} (h0 : P []) (h1 : ∀ l a, P l → P (l ++ [a])) (l : List α) : P l := by
 have : ∀ r : List α, P r.reverse := by
  intro r
  induction r with
  | nil => exact h0
  | cons a r ih => rw [List.reverse_cons]; exact h1 _ _ ih
 simpa using this l.reverse

theorem nth_left {l : List Akt} {a : Akt} {i : Nat} (h : i < l.length) : nth (l ++ [a]) i = nth l i := by
 simp [nth, List.getElem?_append_left h]
theorem nth_last (l : List Akt) (a : Akt) : nth (l ++ [a]) l.length = a := by simp [nth]

theorem lastIx_left (P : Akt → Bool) (l : List Akt) (a : Akt) : ∀ {n : Nat}, n ≤ l.length → lastIx P (l ++ [a]) n = lastIx P l n
 | 0, _ => rfl
 | n + 1, h => by simp only [lastIx, nth_left (a := a) (show n < l.length by omega), lastIx_left P l a (show n ≤ l.length by omega)]

theorem rlast_snoc (l : List Akt) (a : Akt) (kd k m : Int) : rlast (l ++ [a]) kd k m = if isAct kd k m a = true then (l.length : Int) else rlast l kd k m := by
 unfold rlast
 rw [List.length_append]
 simp only [List.length_cons, List.length_nil, Nat.zero_add, lastIx, nth_last, lastIx_left _ l a (Nat.le_refl _)]

theorem lastIx_at {P : Akt → Bool} {l : List Akt} : ∀ {n j : Nat}, lastIx P l n = j → P (nth l j) = true
 | 0, j, h => by simp only [lastIx] at h; omega
 | n + 1, j, h => by
  simp only [lastIx] at h
  split at h
  ·have e : n = j := by omega
   subst e
   assumption
  ·exact lastIx_at h

theorem rlast_at {l : List Akt} {kd k m : Int} {j : Nat} (h : rlast l kd k m = j) : isAct kd k m (nth l j) = true := lastIx_at h

theorem prot_left (l : List Akt) (a : Akt) : ∀ {n : Nat}, n ≤ l.length → prot (l ++ [a]) n = prot l n
 | 0, _ => rfl
 | n + 1, h => by simp only [prot, nth_left (a := a) (show n < l.length by omega), prot_left l a (show n ≤ l.length by omega)]

def pro (l : List Akt) : List Nat := prot l l.length

theorem pro_snoc (l : List Akt) (a : Akt) : pro (l ++ [a]) = if a.kind = 2 then pro l ++ [l.length] else pro l := by
 unfold pro
 rw [List.length_append]
 simp only [List.length_cons, List.length_nil, Nat.zero_add, prot, nth_last, prot_left l a (Nat.le_refl _)]

def Acc (c : Cod) (l : List Akt) : Prop := ∀ i, i < l.length → refused c (l.take i) (nth l i) = 0

theorem acc_snoc {c : Cod} {l : List Akt} {a : Akt} : Acc c (l ++ [a]) ↔ Acc c l ∧ refused c l a = 0 := by
 constructor
 ·intro h
  refine ⟨fun i hi => ?_, ?_⟩
  ·have := h i (by simp; omega)
   rwa [nth_left hi, List.take_append_of_le_length (by omega)] at this
  ·have := h l.length (by simp)
   rwa [nth_last, List.take_append_of_le_length (Nat.le_refl _), List.take_length] at this
 ·rintro ⟨h1, h2⟩ i hi
  rcases Nat.lt_or_ge i l.length with h | h
  ·rw [nth_left h, List.take_append_of_le_length (by omega)]
   exact h1 i h
  ·have e : i = l.length := by simp at hi; omega
   subst e
   rw [nth_last, List.take_append_of_le_length (Nat.le_refl _), List.take_length]
   exact h2

abbrev MM : Int := 10000000

structure Shape (l : List Akt) (k : Int) : Prop where
 dx : rlast l 3 k MM < 0 ∨ rlast l 6 k MM < 0
 da : rlast l 3 k MM < 0 → rlast l 4 k MM < 0
 aj : rlast l 4 k MM < 0 → rlast l 5 k MM < 0
 oa : 0 ≤ rlast l 4 k MM → rlast l 3 k MM < rlast l 4 k MM
 oj : 0 ≤ rlast l 5 k MM → rlast l 4 k MM < rlast l 5 k MM

structure Inv (c : Cod) (l : List Akt) : Prop where
 mins : Mins l
 sorted : ∀ i j, i ≤ j → j < l.length → (nth l i).minute ≤ (nth l j).minute
 ok : ∀ i, i < l.length → actOk c.cars (nth l i) = true
 len : l.length ≤ 2000
 uniq : ∀ i, i < l.length → 3 ≤ (nth l i).kind → (i : Int) = rlast l (nth l i).kind (nth l i).cse MM
 cse : ∀ i, i < l.length → 3 ≤ (nth l i).kind → 0 ≤ (nth l i).cse ∧ (nth l i).cse < (pro l).length
 shape : ∀ k, Shape l k
 after : ∀ (k p : Nat), (pro l)[k]? = some p → ∀ kd, 3 ≤ kd → 0 ≤ rlast l kd k MM → (p : Int) < rlast l kd k MM

structure Good (c : Cod) (l : List Akt) (a : Akt) : Prop where
 ok : actOk c.cars a = true
 late : l.length = 0 ∨ (nth l (l.length - 1)).minute ≤ a.minute
 len : l.length < 2000
 pub : a.kind = 1 → fi (isPub a.paper) l < 0
 prt : a.kind = 2 → 0 ≤ fi (isPub a.paper) l ∧ (verArt c.arts a.article a.at_ c.arts.length).isSome = true ∧ a.minute - (nth l (fi (isPub a.paper) l).toNat).minute ≤ c.window ∧ a.paid = c.fee
 cse : 3 ≤ a.kind → 0 ≤ a.cse ∧ a.cse < (pro l).length
 dec : a.kind = 3 → rlast l 6 a.cse MM < 0 ∧ rlast l 3 a.cse MM < 0 ∧ fitsR c l a = true
 app : a.kind = 4 → 0 ≤ rlast l 3 a.cse MM ∧ rlast l 4 a.cse MM < 0 ∧ (a.by_ = (nth l ((pro l).getD a.cse.toNat 0)).by_ ∨ a.by_ = (nth l ((pro l).getD a.cse.toNat 0)).against) ∧ a.minute - (nth l (rlast l 3 a.cse MM).toNat).minute ≤ c.second ∧ a.paid = c.price
 jud : a.kind = 5 → 0 ≤ rlast l 4 a.cse MM ∧ rlast l 5 a.cse MM < 0 ∧ fitsR c l a = true
 drp : a.kind = 6 → rlast l 6 a.cse MM < 0 ∧ rlast l 3 a.cse MM < 0 ∧ a.by_ = (nth l ((pro l).getD a.cse.toNat 0)).by_

theorem good_of {c : Cod} {l : List Akt} {a : Akt} (h : refused c l a = 0) : Good c l a := by
 unfold refused at h
 split at h
 ·cases h
 rename_i h1
 split at h
 ·cases h
 rename_i h2
 have hok : actOk c.cars a = true := by
  cases e : actOk c.cars a
  ·exact absurd (.inl e) h1
  ·rfl
 have hk := actOk_kind hok
 have hl : l.length = 0 ∨ (nth l (l.length - 1)).minute ≤ a.minute := by
  by_cases e : l.length = 0
  ·exact .inl e
  ·right
   have : ¬ (0 < l.length ∧ a.minute < (nth l (l.length - 1)).minute) := fun hh => h1 (.inr hh)
   omega
 by_cases k1 : a.kind = 1
 ·rw [if_pos k1] at h
  refine ⟨hok, hl, by omega, fun _ => ?_, fun e => by omega, fun e => by omega, fun e => by omega, fun e => by omega, fun e => by omega, fun e => by omega⟩
  split at h <;> omega
 rw [if_neg k1] at h
 by_cases k2 : a.kind = 2
 ·rw [if_pos k2] at h
  refine ⟨hok, hl, by omega, fun e => absurd e k1, fun _ => ?_, fun e => by omega, fun e => by omega, fun e => by omega, fun e => by omega, fun e => by omega⟩
  split at h
  ·cases h
  rename_i h3
  split at h
  ·cases h
  rename_i h4
  split at h
  ·cases h
  rename_i h5
  refine ⟨by omega, ?_, by omega, by omega⟩
  cases e : (verArt c.arts a.article a.at_ c.arts.length).isSome
  ·exact absurd (.inr e) h3
  ·rfl
 rw [if_neg k2] at h
 have hk3 : (a.kind = 3 ∨ a.kind = 4 ∨ a.kind = 5 ∨ a.kind = 6) ∧ 0 ≤ a.cse := by omega
 split at h
 ·cases h
 rename_i h3
 have hc : 0 ≤ a.cse ∧ a.cse < (pro l).length := ⟨hk3.2, by unfold pro; omega⟩
 have fit : ∀ {b : Bool}, ¬ b = false → b = true := fun h => by simpa using h
 refine ⟨hok, hl, by omega, fun e => absurd e k1, fun e => absurd e k2, fun _ => hc, fun e => ?_, fun e => ?_, fun e => ?_, fun e => ?_⟩
 ·simp only [e] at h
  split at h
  ·split at h
   ·cases h
   ·rename_i g1
    split at h
    ·cases h
    ·rename_i g2
     exact ⟨by unfold MM; omega, by unfold MM; omega, fit g2⟩
  ·contradiction
 ·simp only [e] at h
  rw [if_neg (by omega), if_pos trivial] at h
  split at h
  ·cases h
  ·rename_i g1
   split at h
   ·cases h
   ·rename_i g2
    split at h
    ·cases h
    ·rename_i g3
     split at h
     ·cases h
     ·rename_i g4
      refine ⟨by unfold MM; omega, by unfold MM; omega, ?_, by unfold MM; omega, by omega⟩
      unfold pro
      omega
 ·simp only [e] at h
  rw [if_neg (by omega), if_neg (by omega), if_pos trivial] at h
  split at h
  ·cases h
  ·rename_i g1
   split at h
   ·cases h
   ·rename_i g2
    exact ⟨by unfold MM; omega, by unfold MM; omega, fit g2⟩
 ·simp only [e] at h
  rw [if_neg (by omega), if_neg (by omega), if_neg (by omega)] at h
  split at h
  ·cases h
  ·rename_i g1
   split at h
   ·cases h
   ·rename_i g2
    refine ⟨by unfold MM; omega, by unfold MM; omega, ?_⟩
    unfold pro
    omega

theorem inv_of {c : Cod} : ∀ (l : List Akt), Acc c l → Inv c l := by
 have step : ∀ (l : List Akt) (a : Akt), Inv c l → refused c l a = 0 → Inv c (l ++ [a]) := by
  intro l a h hr
  have g := good_of hr
  have hk := actOk_kind g.ok
  have hmin := actOk_minute g.ok
  have hmM : a.minute ≤ MM := by unfold inR at hmin; simp at hmin; unfold MM; omega
  have isA : ∀ kd k, isAct kd k MM a = true ↔ a.kind = kd ∧ a.cse = k := by
   intro kd k
   simp [isAct, hmM]
  have rs : ∀ kd k, rlast (l ++ [a]) kd k MM = if a.kind = kd ∧ a.cse = k then (l.length : Int) else rlast l kd k MM := by
   intro kd k
   rw [rlast_snoc]
   by_cases e : isAct kd k MM a = true
   ·rw [if_pos e, if_pos ((isA kd k).1 e)]
   ·rw [if_neg e, if_neg fun hh => e ((isA kd k).2 hh)]
  have lt := fun kd k => (rlast_lt l kd k MM).2
  have pl : (pro l).length ≤ (pro (l ++ [a])).length := by rw [pro_snoc]; split <;> simp
  refine ⟨?_, ?_, ?_, by have := g.len; simp; omega, ?_, ?_, ?_, ?_⟩
  ·intro b hb
   rcases List.mem_append.1 hb with hb | hb
   ·exact h.mins b hb
   ·simp at hb; rw [hb]; exact hmin
  ·intro i j hij hj
   rcases Nat.lt_or_ge j l.length with hjl | hjl
   ·rw [nth_left hjl, nth_left (by omega)]
    exact h.sorted i j hij hjl
   ·have e : j = l.length := by simp at hj; omega
    subst e
    rw [nth_last]
    rcases Nat.lt_or_ge i l.length with hil | hil
    ·rw [nth_left hil]
     have := h.sorted i (l.length - 1) (by omega) (by omega)
     rcases g.late with h0 | h0 <;> omega
    ·have e : i = l.length := by omega
     rw [e, nth_last]
     exact Int.le_refl _
  ·intro i hi
   rcases Nat.lt_or_ge i l.length with hil | hil
   ·rw [nth_left hil]; exact h.ok i hil
   ·have e : i = l.length := by simp at hi; omega
    rw [e, nth_last]; exact g.ok
  ·intro i hi h3
   rcases Nat.lt_or_ge i l.length with hil | hil
   ·rw [nth_left hil] at h3 ⊢
    rw [rs]
    have hu := h.uniq i hil h3
    split
    ·rename_i hh
     exfalso
     rw [← hh.1, ← hh.2] at hu
     rw [← hh.1] at h3
     have hk3 : a.kind = 3 ∨ a.kind = 4 ∨ a.kind = 5 ∨ a.kind = 6 := by omega
     rcases hk3 with e | e | e | e <;> rw [e] at hu
     ·have := g.dec e; omega
     ·have := g.app e; omega
     ·have := g.jud e; omega
     ·have := g.drp e; omega
    ·exact hu
   ·have e : i = l.length := by simp at hi; omega
    rw [e, nth_last, rs, if_pos ⟨rfl, rfl⟩]
  ·intro i hi h3
   rcases Nat.lt_or_ge i l.length with hil | hil
   ·rw [nth_left hil] at h3 ⊢
    have := h.cse i hil h3
    omega
   ·have e : i = l.length := by simp at hi; omega
    rw [e, nth_last] at h3 ⊢
    have := g.cse h3
    omega
  ·intro k
   have s := h.shape k
   have l3 := lt 3 k
   have l4 := lt 4 k
   have l5 := lt 5 k
   have l6 := lt 6 k
   have s1 := s.dx
   have s2 := s.da
   have s3 := s.aj
   have s4 := s.oa
   have s5 := s.oj
   by_cases ek : a.cse = k
   ·subst ek
    rcases hk with e | e | ⟨e | e | e | e, _⟩
    ·exact ⟨by simpa [rs, e] using s1, by simpa [rs, e] using s2, by simpa [rs, e] using s3, by simpa [rs, e] using s4, by simpa [rs, e] using s5⟩
    ·exact ⟨by simpa [rs, e] using s1, by simpa [rs, e] using s2, by simpa [rs, e] using s3, by simpa [rs, e] using s4, by simpa [rs, e] using s5⟩
    ·have q := g.dec e
     constructor <;> simp [rs, e] <;> omega
    ·have q := g.app e
     constructor <;> simp [rs, e] <;> omega
    ·have q := g.jud e
     constructor <;> simp [rs, e] <;> omega
    ·have q := g.drp e
     constructor <;> simp [rs, e] <;> omega
   ·exact ⟨by simpa [rs, ek] using s1, by simpa [rs, ek] using s2, by simpa [rs, ek] using s3, by simpa [rs, ek] using s4, by simpa [rs, ek] using s5⟩
  ·intro k p hp kd h3 h0
   rw [rs] at h0 ⊢
   have pin : ∀ (k p : Nat), (pro l)[k]? = some p → p < l.length := fun k p hp => prot_lt l l.length p (List.mem_of_getElem? hp)
   split
   ·rename_i hh
    have := g.cse (by omega)
    have hkl : k < (pro l).length := by omega
    rw [pro_snoc, if_neg (by omega)] at hp
    have := pin k p hp
    omega
   ·rename_i hh
    rw [if_neg hh] at h0
    have key : (pro l)[k]? = some p := by
     rw [pro_snoc] at hp
     split at hp
     ·rcases Nat.lt_or_ge k (pro l).length with hkl | hkl
      ·rwa [List.getElem?_append_left hkl] at hp
      ·exfalso
       obtain ⟨j, hj⟩ : ∃ j : Nat, rlast l kd k MM = j := ⟨(rlast l kd k MM).toNat, by omega⟩
       have := lt kd k
       have hj2 : j < l.length := by omega
       have hP := rlast_at hj
       simp only [isAct, Bool.and_eq_true, beq_iff_eq] at hP
       have := h.cse j hj2 (by omega)
       omega
     ·exact hp
    exact h.after k p key kd h3 h0
 refine snocInd ?_ ?_
 ·intro _
  have r : ∀ kd k, rlast [] kd k MM = -1 := fun _ _ => rfl
  exact ⟨fun _ h => (by cases h), fun i j _ h => (by simp at h), fun i h => (by simp at h), by simp, fun i h => (by simp at h), fun i h => (by simp at h), fun k => ⟨by simp [r], by simp [r], by simp [r], by simp [r], by simp [r]⟩, fun k p hp => by simp [pro, prot] at hp⟩
 ·intro l a ih hacc
  obtain ⟨h1, h2⟩ := acc_snoc.1 hacc
  exact step l a (ih h1) h2

end Go.Am.Ct

/-
 The cases of a record.
-/
namespace Go.Am.Ct
open Go.Am.Ap
set_option maxHeartbeats 1000000

def opt (x : Int) : List Nat := if 0 ≤ x then [x.toNat] else []

def idxOf (l : List Akt) (k : Int) (p : Nat) : List Nat := p :: (opt (rlast l 3 k MM) ++ (opt (rlast l 4 k MM) ++ (opt (rlast l 5 k MM) ++ opt (rlast l 6 k MM))))

def qOf (l : List Akt) : List (Nat × List Nat) := (pro l).mapIdx fun k p => (p, idxOf l k p)

theorem qOf_get {l : List Akt} {k p : Nat} (h : (pro l)[k]? = some p) : (qOf l)[k]? = some (p, idxOf l k p) := by simp [qOf, h]

theorem qOf_len (l : List Akt) : (qOf l).length = (pro l).length := by simp [qOf]

variable {c : Cod} {l : List Akt}

theorem opt_lt {x : Int} {n : Nat} (h : x < n) {i : Nat} (hi : i ∈ opt x) : i < n := by
 unfold opt at hi
 split at hi
 ·simp at hi; omega
 ·cases hi

theorem pro_lt {k p : Nat} (h : (pro l)[k]? = some p) : p < l.length := prot_lt l l.length p (List.mem_of_getElem? h)

theorem idx_lt {k p : Nat} (h : (pro l)[k]? = some p) : ∀ i, i ∈ idxOf l k p → i < l.length := by
 intro i hi
 simp only [idxOf, List.mem_cons, List.mem_append] at hi
 rcases hi with rfl | hi | hi | hi | hi
 ·exact pro_lt h
 ·exact opt_lt (rlast_lt l 3 k MM).2 hi
 ·exact opt_lt (rlast_lt l 4 k MM).2 hi
 ·exact opt_lt (rlast_lt l 5 k MM).2 hi
 ·exact opt_lt (rlast_lt l 6 k MM).2 hi

theorem idx_len {k : Int} {p : Nat} : (idxOf l k p).length ≤ 5 := by
 have h : ∀ x, (opt x).length ≤ 1 := fun x => by unfold opt; split <;> simp
 have h1 := h (rlast l 3 k MM)
 have h2 := h (rlast l 4 k MM)
 have h3 := h (rlast l 5 k MM)
 have h4 := h (rlast l 6 k MM)
 simp only [idxOf, List.length_cons, List.length_append]
 omega

theorem idx_ne {k : Int} {p : Nat} : idxOf l k p ≠ [] := by simp [idxOf]

theorem pro_kind : ∀ {n p : Nat}, p ∈ prot l n → (nth l p).kind = 2
 | 0, p, h => by simp [prot] at h
 | n + 1, p, h => by
  simp only [prot] at h
  split at h
  ·rcases List.mem_append.1 h with h | h
   ·exact pro_kind h
   ·simp at h; subst h; assumption
  ·exact pro_kind h

theorem at_of {kd k : Int} (h : 0 ≤ rlast l kd k MM) : ∃ i : Nat, rlast l kd k MM = i ∧ i < l.length ∧ (nth l i).kind = kd ∧ (nth l i).cse = k := by
 obtain ⟨i, hi⟩ : ∃ i : Nat, rlast l kd k MM = i := ⟨(rlast l kd k MM).toNat, by omega⟩
 have := (rlast_lt l kd k MM).2
 have hP := rlast_at hi
 simp only [isAct, Bool.and_eq_true, beq_iff_eq] at hP
 exact ⟨i, hi, by omega, hP.1.1, hP.1.2⟩

theorem rl_m (h : Inv c l) {kd k m : Int} (h3 : 3 ≤ kd) (hm : m ≤ MM) : rlast l kd k m = if 0 ≤ rlast l kd k MM ∧ (nth l (rlast l kd k MM).toNat).minute ≤ m then rlast l kd k MM else -1 := by
 have mn := h.mins
 have key : ∀ i, i < l.length → isAct kd k m (nth l i) = true → (i : Int) = rlast l kd k MM ∧ (nth l i).minute ≤ m := by
  intro i hi hP
  simp only [isAct, Bool.and_eq_true, beq_iff_eq, decide_eq_true_eq] at hP
  have := h.uniq i hi (by omega)
  rw [hP.1.1, hP.1.2] at this
  exact ⟨this, hP.2⟩
 have lt := rlast_lt l kd k m
 rcases Int.lt_or_le (rlast l kd k m) 0 with h0 | h0
 ·have e : rlast l kd k m = -1 := by omega
  rw [e]
  split
  ·rename_i hh
   exfalso
   obtain ⟨i, hi, hil, hk1, hk2⟩ := at_of hh.1
   have hP : isAct kd k m (nth l i) = true := by
    simp only [isAct, Bool.and_eq_true, beq_iff_eq, decide_eq_true_eq]
    have := hh.2
    rw [hi] at this
    exact ⟨⟨hk1, hk2⟩, by simpa using this⟩
   have : ∀ n, i < n → n ≤ l.length → (i : Int) ≤ lastIx (isAct kd k m) l n := by
    intro n
    induction n with
    | zero => intro h; omega
    | succ n ih =>
     intro h1 h2
     simp only [lastIx]
     split
     ·omega
     ·rename_i hno
      rcases Nat.lt_or_ge i n with h3 | h3
      ·exact ih h3 (by omega)
      ·have e : i = n := by omega
       subst e
       exact absurd hP hno
   have := this l.length hil (Nat.le_refl _)
   unfold rlast at h0
   omega
  ·rfl
 ·obtain ⟨i, hi⟩ : ∃ i : Nat, rlast l kd k m = i := ⟨(rlast l kd k m).toNat, by omega⟩
  have hP := rlast_at hi
  have := key i (by omega) hP
  rw [hi, ← this.1]
  rw [if_pos ⟨by omega, by simpa using this.2⟩]

def stR (c : Cod) (l : List Akt) (k m : Int) : Int :=
 if 0 ≤ rlast l 6 k m then 2 else if 0 ≤ rlast l 5 k m then 5 else if 0 ≤ rlast l 4 k m then 4 else if rlast l 3 k m < 0 then 1 else if c.second < m - (nth l (rlast l 3 k m).toNat).minute then 5 else 3

theorem stGo_opt {second m s : Int} {x : Int} {r : List Nat} : stGo l second m (opt x ++ r) s = if 0 ≤ x then (if m < (nth l x.toNat).minute then s else stGo l second m r (stStep second m (nth l x.toNat) s)) else stGo l second m r s := by
 unfold opt
 split
 ·rfl
 ·rfl

theorem stGo_opt1 {second m s : Int} {x : Int} : stGo l second m (opt x) s = if 0 ≤ x then (if m < (nth l x.toNat).minute then s else stStep second m (nth l x.toNat) s) else s := by
 unfold opt
 split
 ·rfl
 ·rfl

theorem state_eq (h : Inv c l) {k p : Nat} (hp : (pro l)[k]? = some p) {m : Int} (hm : m ≤ MM) (hpm : (nth l p).minute ≤ m) : stGo l c.second m (idxOf l k p) 1 = stR c l k m := by
 have hkd : (nth l p).kind = 2 := pro_kind (List.mem_of_getElem? hp)
 have s := h.shape k
 unfold idxOf stR
 rw [stGo_cons, if_neg (by omega)]
 simp only [stGo_opt, stGo_opt1]
 rw [rl_m h (by omega : (3 : Int) ≤ 3) hm, rl_m h (by omega : (3 : Int) ≤ 4) hm, rl_m h (by omega : (3 : Int) ≤ 5) hm, rl_m h (by omega : (3 : Int) ≤ 6) hm]
 have e0 : stStep c.second m (nth l p) 1 = 1 := by simp [stStep, hkd]
 rw [e0]
 have s1 := s.dx
 have s2 := s.da
 have s3 := s.aj
 have s4 := s.oa
 have s5 := s.oj
 have mono : ∀ x y : Int, 0 ≤ x → x < y → y < l.length → (nth l x.toNat).minute ≤ (nth l y.toNat).minute := fun x y h0 h1 h2 => h.sorted _ _ (by omega) (by omega)
 have l3 := (rlast_lt l 3 k MM).2
 have l4 := (rlast_lt l 4 k MM).2
 have l5 := (rlast_lt l 5 k MM).2
 have kinds : ∀ kd : Int, 0 ≤ rlast l kd k MM → (nth l (rlast l kd k MM).toNat).kind = kd := fun kd h0 => by
  obtain ⟨i, hi, _, hk, _⟩ := at_of h0
  rw [hi]
  simpa using hk
 by_cases h6 : 0 ≤ rlast l 6 k MM
 ·have h3 : ¬ 0 ≤ rlast l 3 k MM := by omega
  have h4 : ¬ 0 ≤ rlast l 4 k MM := by omega
  have h5 : ¬ 0 ≤ rlast l 5 k MM := by omega
  have k6 := kinds 6 h6
  by_cases g : (nth l (rlast l 6 k MM).toNat).minute ≤ m
  ·have g' := Int.not_lt.2 g
   simp [h3, h4, h5, h6, g, g', stStep, k6]
  ·have g' := Int.not_le.1 g
   simp [h3, h4, h5, h6, g, g']
 ·by_cases h3 : 0 ≤ rlast l 3 k MM
  ·have k3 := kinds 3 h3
   have h3n : ¬ rlast l 3 k MM < 0 := by omega
   by_cases g3 : (nth l (rlast l 3 k MM).toNat).minute ≤ m
   ·have g3' := Int.not_lt.2 g3
    by_cases h4 : 0 ≤ rlast l 4 k MM
    ·have k4 := kinds 4 h4
     by_cases g4 : (nth l (rlast l 4 k MM).toNat).minute ≤ m
     ·have g4' := Int.not_lt.2 g4
      by_cases h5 : 0 ≤ rlast l 5 k MM
      ·have k5 := kinds 5 h5
       by_cases g5 : (nth l (rlast l 5 k MM).toNat).minute ≤ m
       ·have g5' := Int.not_lt.2 g5
        simp [h3, h4, h5, h6, g3, g3', g4, g4', g5, g5', stStep, k3, k4, k5]
       ·have g5' := Int.not_le.1 g5
        simp [h3, h4, h5, h6, g3, g3', g4, g4', g5, g5', stStep, k3, k4, k5]
      ·simp [h3, h4, h5, h6, g3, g3', g4, g4', stStep, k3, k4]
     ·have g4' := Int.not_le.1 g4
      have h5n : ¬ (0 ≤ rlast l 5 k MM ∧ (nth l (rlast l 5 k MM).toNat).minute ≤ m) := fun hh => by
       have := mono _ _ h4 (s5 hh.1) l5
       omega
      simp [h3, h3n, h4, h5n, h6, g3, g3', g4, g4', stStep, k3]
    ·have h5 : ¬ 0 ≤ rlast l 5 k MM := by omega
     simp [h3, h3n, h4, h5, h6, g3, g3', stStep, k3]
   ·have g3' := Int.not_le.1 g3
    have h4n : ¬ (0 ≤ rlast l 4 k MM ∧ (nth l (rlast l 4 k MM).toNat).minute ≤ m) := fun hh => by
     have := mono _ _ h3 (s4 hh.1) l4
     omega
    have h5n : ¬ (0 ≤ rlast l 5 k MM ∧ (nth l (rlast l 5 k MM).toNat).minute ≤ m) := fun hh => by
     have h40 : 0 ≤ rlast l 4 k MM := by omega
     have e1 := mono _ _ h40 (s5 hh.1) l5
     have e2 := mono _ _ h3 (s4 h40) l4
     omega
    simp [h3, h4n, h5n, h6, g3, g3']
  ·have h4 : ¬ 0 ≤ rlast l 4 k MM := by omega
   have h5 : ¬ 0 ≤ rlast l 5 k MM := by omega
   simp [h3, h4, h5, h6]

end Go.Am.Ct

/-
 One act more.
-/
namespace Go.Am.Ct
open Go.Am.Ap
set_option maxHeartbeats 1000000

variable {c : Cod} {l : List Akt} {a : Akt}

theorem isA_iff (g : Good c l a) (kd k : Int) : isAct kd k MM a = true ↔ a.kind = kd ∧ a.cse = k := by
 have hmin := actOk_minute g.ok
 have hmM : a.minute ≤ MM := by unfold inR at hmin; simp at hmin; unfold MM; omega
 simp [isAct, hmM]

theorem rs_of (g : Good c l a) (kd k : Int) : rlast (l ++ [a]) kd k MM = if a.kind = kd ∧ a.cse = k then (l.length : Int) else rlast l kd k MM := by
 rw [rlast_snoc]
 by_cases e : isAct kd k MM a = true
 ·rw [if_pos e, if_pos ((isA_iff g kd k).1 e)]
 ·rw [if_neg e, if_neg fun hh => e ((isA_iff g kd k).2 hh)]

theorem idx_same (g : Good c l a) {k : Int} (p : Nat) (h : a.kind ≤ 2 ∨ a.cse ≠ k) : idxOf (l ++ [a]) k p = idxOf l k p := by
 unfold idxOf
 rw [rs_of g, rs_of g, rs_of g, rs_of g, if_neg (by omega), if_neg (by omega), if_neg (by omega), if_neg (by omega)]

theorem opt_neg {x : Int} (h : x < 0) : opt x = [] := by unfold opt; rw [if_neg (by omega)]
theorem opt_nat (n : Nat) : opt (n : Int) = [n] := by unfold opt; rw [if_pos (by omega)]; simp

theorem idx_new (hI : Inv c l) (g : Good c l a) (p : Nat) (h3 : 3 ≤ a.kind) : idxOf (l ++ [a]) a.cse p = idxOf l a.cse p ++ [l.length] := by
 have hk := actOk_kind g.ok
 have s := hI.shape a.cse
 have s1 := s.dx
 have s2 := s.da
 have s3 := s.aj
 unfold idxOf
 rw [rs_of g, rs_of g, rs_of g, rs_of g]
 have hk3 : a.kind = 3 ∨ a.kind = 4 ∨ a.kind = 5 ∨ a.kind = 6 := by omega
 rcases hk3 with e | e | e | e
 ·have q := g.dec e
  simp [e, opt_nat, opt_neg (show rlast l 3 a.cse MM < 0 by omega), opt_neg (show rlast l 4 a.cse MM < 0 by omega), opt_neg (show rlast l 5 a.cse MM < 0 by omega), opt_neg (show rlast l 6 a.cse MM < 0 by omega)]
 ·have q := g.app e
  simp [e, opt_nat, opt_neg (show rlast l 4 a.cse MM < 0 by omega), opt_neg (show rlast l 5 a.cse MM < 0 by omega), opt_neg (show rlast l 6 a.cse MM < 0 by omega)]
 ·have q := g.jud e
  simp [e, opt_nat, opt_neg (show rlast l 5 a.cse MM < 0 by omega), opt_neg (show rlast l 6 a.cse MM < 0 by omega)]
 ·have q := g.drp e
  simp [e, opt_nat, opt_neg (show rlast l 3 a.cse MM < 0 by omega), opt_neg (show rlast l 4 a.cse MM < 0 by omega), opt_neg (show rlast l 5 a.cse MM < 0 by omega), opt_neg (show rlast l 6 a.cse MM < 0 by omega)]

theorem q_pub (g : Good c l a) (h : a.kind = 1) : qOf (l ++ [a]) = qOf l := by
 unfold qOf
 rw [pro_snoc, if_neg (by omega)]
 refine List.ext_getElem? fun k => ?_
 simp only [List.getElem?_mapIdx]
 congr 1
 funext p
 rw [idx_same g p (.inl (by omega))]

theorem q_pro (hI : Inv c l) (g : Good c l a) (h : a.kind = 2) : qOf (l ++ [a]) = qOf l ++ [(l.length, [l.length])] := by
 unfold qOf
 rw [pro_snoc, if_pos h, List.mapIdx_append]
 have none : ∀ kd : Int, 3 ≤ kd → rlast l kd (pro l).length MM < 0 := fun kd h3 => by
  rcases Int.lt_or_le (rlast l kd (pro l).length MM) 0 with h0 | h0
  ·exact h0
  ·obtain ⟨i, hi, hil, h1, h2⟩ := at_of h0
   have := hI.cse i hil (by omega)
   omega
 congr 1
 ·refine List.ext_getElem? fun k => ?_
  simp only [List.getElem?_mapIdx]
  congr 1
  funext p
  rw [idx_same g p (.inl (by omega))]
 ·simp only [List.mapIdx_cons, List.mapIdx_nil, Nat.zero_add]
  rw [idx_same g _ (.inl (by omega))]
  unfold idxOf
  rw [opt_neg (none 3 (by omega)), opt_neg (none 4 (by omega)), opt_neg (none 5 (by omega)), opt_neg (none 6 (by omega))]
  rfl

theorem q_upd (hI : Inv c l) (g : Good c l a) (h3 : 3 ≤ a.kind) {k p : Nat} (hk : a.cse = k) (hp : (pro l)[k]? = some p) : qOf (l ++ [a]) = (qOf l).set k (p, idxOf l k p ++ [l.length]) := by
 have hpl : (pro (l ++ [a])) = pro l := by rw [pro_snoc, if_neg (by omega)]
 refine List.ext_getElem? fun i => ?_
 have hkl : k < (qOf l).length := by rw [qOf_len]; exact (List.getElem?_eq_some_iff.1 hp).1
 by_cases e : i = k
 ·subst e
  rw [List.getElem?_set_self hkl, qOf_get (p := p) (by rw [hpl]; exact hp), ← hk, idx_new hI g p h3]
 ·rw [List.getElem?_set_ne (Ne.symm e)]
  unfold qOf
  simp only [List.getElem?_mapIdx, hpl]
  congr 1
  funext p'
  rw [idx_same g p' (.inr (by omega))]

end Go.Am.Ct

/-
 What the court does with acts.
-/
namespace Go.Am.Ct
set_option maxRecDepth 100000
set_option maxHeartbeats 4000000
open Go.Proofs Go.Am.Ap

variable {bs : List D} {j : Nat} {c : Cod} {l : List Akt} {sa sf : D} {fs : List (Int × D)}

attribute [local irreducible] inR

theorem c63n {n m : Nat} : FSpecD Try.prog 63 (.st bs) [.loc n 0, .loc m 0] none (.st bs) := by
 refine ku63.recoverD (d0 := .tup []) rfl rfl ?_
 unfold u63
 simp only [ups_cons, ups_nil, List.cons_append, List.nil_append]
 repeat' (first | ((with_reducible apply nrm); (· simp only [sbe]; rfl)) | ((with_reducible apply u_ev); (· rfl); (· simp only [sbe]; rfl)) | (with_reducible refine u_join ?_) | ((with_reducible apply u_jump); (· rfl); (· rfl)) | (with_reducible refine at_jump ?_) | (with_reducible refine kj rfl ?_) | ((with_reducible apply u_ite); (· rfl); all_goals (intro hz; (try simp only [sbs] at hz); first | (exact absurd hz (by decide)) | (exfalso; omega) | skip)) | (with_reducible exact u_ret rfl rfl))

theorem c63p {n m : Nat} {x y : D} {e : Int} (hn : bs[n]? = some (.blk 3 1 [x])) (hm : bs[m]? = some (.blk 24 1 [y])) (hne : n ≠ m) : FSpecD Try.prog 63 (.st bs) [.loc n 0, .loc m 0] (some (refusal e)) (.st ((bs.set n (.blk 3 1 [I 0])).set m (.blk 24 1 [I e]))) := by
 refine ku63.recoverD (d0 := .tup []) rfl rfl ?_
 unfold u63
 simp only [ups_cons, ups_nil, List.cons_append, List.nil_append]
 have h1 := sto_blk (k := 0) hn (by simp) (d := I 0) rfl
 have h2 := sto_blk (bs := bs.set n (.blk 3 1 [I 0])) (k := 0) (by rw [set_get_ne hne]; exact hm) (by simp) (d := I e) rfl
 repeat' (first | ((with_reducible apply nrm); (· simp only [sbe]; rfl)) | ((with_reducible apply u_chk); (· rfl)) | ((with_reducible apply u_sto); (· rfl); (· rfl); (· rfl); (· first | exact h1 | exact h2); (· simp only [sbe]; rfl)) | ((with_reducible apply u_ev); (· rfl); (· simp only [sbe]; rfl)) | (with_reducible refine u_join ?_) | ((with_reducible apply u_jump); (· rfl); (· rfl)) | (with_reducible refine at_jump ?_) | (with_reducible refine kj rfl ?_) | ((with_reducible apply u_ite); (· rfl); all_goals (intro hz; (try simp only [sbs] at hz); first | (exact absurd hz (by decide)) | (exfalso; omega) | skip)) | (with_reducible exact u_ret rfl rfl))

structure Crt (bs : List D) (F : Nat → Prop) (j : Nat) (c : Cod) (l : List Akt) (q : List (Nat × List Nat)) (sa sf : D) (fs : List (Int × D)) : Prop where
 acts : ActsAt bs j c l sa sf
 files : SlOf bs 115 2 fcs sf fs
 len : fs.length = q.length
 case : ∀ (k p : Nat) (idx : List Nat), q[k]? = some (p, idx) → ∃ s, fs[k]? = some (↑p, s) ∧ SlOf bs 3 1 ncs s idx
 inj : ∀ (k k' : Nat) (f f' : Int × D) (i : Nat), fs[k]? = some f → fs[k']? = some f' → D.sid f.2 = some i → D.sid f'.2 = some i → k = k'
 fj : F j
 fa : ∀ i, sa.sid = some i → F i
 ff : ∀ i, sf.sid = some i → F i
 fc : ∀ (k : Nat) (f : Int × D) (i : Nat), fs[k]? = some f → D.sid f.2 = some i → F i
 lt : ∀ k, F k → k < bs.length

theorem Crt.keep {bs' : List D} {F : Nat → Prop} {q : List (Nat × List Nat)} (h : Crt bs F j c l q sa sf fs) (hl : bs.length ≤ bs'.length) (hk : ∀ k, F k → bs'[k]? = bs[k]?) : Crt bs' F j c l q sa sf fs where
 acts := ⟨by rw [hk _ h.fj]; exact h.acts.1, h.acts.2.keep fun i hi => hk _ (h.fa i hi)⟩
 files := h.files.keep fun i hi => hk _ (h.ff i hi)
 len := h.len
 case := fun k p idx hq => by
  obtain ⟨s, h1, h2⟩ := h.case k p idx hq
  exact ⟨s, h1, h2.keep fun i hi => hk _ (h.fc k _ i h1 hi)⟩
 inj := h.inj
 fj := h.fj
 fa := h.fa
 ff := h.ff
 fc := h.fc
 lt := fun k hk' => Nat.lt_of_lt_of_le (h.lt k hk') hl

theorem Crt.more {F : Nat → Prop} {q : List (Nat × List Nat)} (h : Crt bs F j c l q sa sf fs) (r : List D) : Crt (bs ++ r) F j c l q sa sf fs :=
 h.keep (by simp) fun k hk => List.getElem?_append_left (h.lt k hk)

def proR (c : Cod) (l : List Akt) (a : Akt) : Int :=
 if pubAt l a.paper < 0 ∨ ver c.arts a.article a.at_ c.arts.length < 0 then 5 else if c.window < a.minute - pubAt l a.paper then 8 else if a.paid ≠ c.fee then 7 else 0

theorem c65n {F : Nat → Prop} {q : List (Nat × List Nat)} (h : Crt bs F j c l q sa sf fs) (hc : c.arts.length ≤ 1000) (hL : l.length ≤ 1000000) (a : Akt) (hpm : -1 ≤ pubAt l a.paper ∧ pubAt l a.paper ≤ 10000000) (ham : inR a.minute 0 10000000 = true) (hr : proR c l a ≠ 0) :
  FSpecWO Try.prog 65 (.st bs) [.loc j 0, a.d] (.pan (refusal (proR c l a))) (.st bs) := by
 refine ku65.writeO rfl ?_
 unfold u65
 simp only [ups_cons, ups_nil, List.cons_append, List.nil_append]
 have h97 := c97 h.acts hL a.paper
 have h81 := c81 (bs := bs) c a.article a.at_ hc
 have ham' : 0 ≤ a.minute ∧ a.minute ≤ 10000000 := by unfold inR at ham; simpa using ham
 unfold proR at hr ⊢
 by_cases h1 : pubAt l a.paper < 0 ∨ ver c.arts a.article a.at_ c.arts.length < 0
 ·simp only [if_pos h1]
  repeat' (first | ((with_reducible apply nrm); (· simp only [sbe]; rfl)) | ((with_reducible apply u_chk); (· rfl)) | ((with_reducible apply u_ld); (· rfl); (· rfl); (· exact ldN_blk h.acts.1 (Nat.le_of_ble_eq_true rfl)); (· simp only [sbe]; rfl)) | ((with_reducible apply u_ev); (· rfl); (· simp only [sbe]; rfl)) | ((with_reducible apply u_call); (· rfl); (· rfl); (· first | exact h97 | exact h81); (· rfl); (· simp only [sbe]; rfl)) | ((with_reducible apply u_pcallP); (· rfl); (· rfl); (· exact c96y (by simpa using h1) _); (· rfl); (· exact ⟨_, _, rfl⟩)) | ((with_reducible apply u_or); (· rfl)) | (with_reducible exact u_ret rfl rfl) | ((with_reducible intro hz); (try simp only [sbs] at hz)))
 ·simp only [if_neg h1] at hr ⊢
  have h1' : (decide (pubAt l a.paper < 0) || !decide (0 ≤ ver c.arts a.article a.at_ c.arts.length)) = false := by simpa using h1
  by_cases h2 : c.window < a.minute - pubAt l a.paper
  ·simp only [if_pos h2]
   repeat' (first | ((with_reducible apply nrm); (· simp only [sbe]; rfl)) | ((with_reducible apply u_chk); (· rfl)) | ((with_reducible apply u_ld); (· rfl); (· rfl); (· first | exact ldN_blk h.acts.1 (Nat.le_of_ble_eq_true rfl) | exact ld_blk h.acts.1 rfl); (· simp only [sbe]; rfl)) | ((with_reducible apply u_sub); (· rfl); (· rfl); (· omega); (· simp only [sbe]; rfl)) | ((with_reducible apply u_ev); (· rfl); (· simp only [sbe]; rfl)) | ((with_reducible apply u_call); (· rfl); (· rfl); (· first | exact h97 | exact h81); (· rfl); (· simp only [sbe]; rfl)) | ((with_reducible apply u_pcallR); (· rfl); (· rfl); (· exact c96n h1' _); (· rfl); (· simp only [sbe]; rfl)) | ((with_reducible apply u_pcallP); (· rfl); (· rfl); (· exact c96y (decide_eq_true h2) _); (· rfl); (· exact ⟨_, _, rfl⟩)) | ((with_reducible apply u_or); (· rfl)) | (with_reducible exact u_ret rfl rfl) | ((with_reducible intro hz); (try simp only [sbs] at hz)))
  ·simp only [if_neg h2] at hr ⊢
   by_cases h3 : a.paid ≠ c.fee
   ·simp only [if_pos h3]
    repeat' (first | ((with_reducible apply nrm); (· simp only [sbe]; rfl)) | ((with_reducible apply u_chk); (· rfl)) | ((with_reducible apply u_ld); (· rfl); (· rfl); (· first | exact ldN_blk h.acts.1 (Nat.le_of_ble_eq_true rfl) | exact ld_blk h.acts.1 rfl); (· simp only [sbe]; rfl)) | ((with_reducible apply u_sub); (· rfl); (· rfl); (· omega); (· simp only [sbe]; rfl)) | ((with_reducible apply u_ev); (· rfl); (· simp only [sbe]; rfl)) | ((with_reducible apply u_call); (· rfl); (· rfl); (· first | exact h97 | exact h81); (· rfl); (· simp only [sbe]; rfl)) | ((with_reducible apply u_pcallR); (· rfl); (· rfl); (· first | exact c96n h1' _ | exact c96n (decide_eq_false h2) _); (· rfl); (· simp only [sbe]; rfl)) | ((with_reducible apply u_pcallP); (· rfl); (· rfl); (· exact c96y (by simpa using h3) _); (· rfl); (· exact ⟨_, _, rfl⟩)) | ((with_reducible apply u_or); (· rfl)) | (with_reducible exact u_ret rfl rfl) | ((with_reducible intro hz); (try simp only [sbs] at hz)))
   ·simp [h3] at hr

theorem c65y {F : Nat → Prop} {q : List (Nat × List Nat)} (h : Crt bs F j c l q sa sf fs) (hc : c.arts.length ≤ 1000) (hL : l.length ≤ 1000000) (hq : q.length ≤ 1000000) (a : Akt) (hpm : -1 ≤ pubAt l a.paper ∧ pubAt l a.paper ≤ 10000000) (ham : inR a.minute 0 10000000 = true) (hr : proR c l a = 0) :
  ∃ bs' F', FSpecWO Try.prog 65 (.st bs) [.loc j 0, a.d] (.ret (I q.length)) (.st bs') ∧ Stp bs F bs' F' ∧ Crt bs' F' j c l (q ++ [(l.length, [])]) sa (.sl bs.length 0 (fs.length + 1)) (fs ++ [((l.length : Int), .snil)]) := by
 have h97 := c97 h.acts hL a.paper
 have h81 := c81 (bs := bs) c a.article a.at_ hc
 have ham' : 0 ≤ a.minute ∧ a.minute ≤ 10000000 := by unfold inR at ham; simpa using ham
 unfold proR at hr
 have h1 : ¬ (pubAt l a.paper < 0 ∨ ver c.arts a.article a.at_ c.arts.length < 0) := fun hh => by simp [hh] at hr
 simp only [if_neg h1] at hr
 have h2 : ¬ c.window < a.minute - pubAt l a.paper := fun hh => by simp [hh] at hr
 simp only [if_neg h2] at hr
 have h3 : ¬ a.paid ≠ c.fee := fun hh => by simp [hh] at hr
 have h1' : (decide (pubAt l a.paper < 0) || !decide (0 ≤ ver c.arts a.article a.at_ c.arts.length)) = false := by simpa using h1
 have hfl := h.len
 obtain ⟨bs1, ga, gs, gn, gl, go⟩ := h.files.append (bytes := 32) (x := ((l.length : Int), D.snil)) (y := .agg [I l.length, .snil]) (fun _ => rfl) rfl rfl (by omega) (by unfold maxLen; omega)
 have hj1 : bs1[j]? = some (.blk 99 9 (crtCells c sa sf)) := by
  rw [go j (h.lt j h.fj) (fun hs => ?_)]
  ·exact h.acts.1
  ·rcases h.files with ⟨_, e⟩ | ⟨i, e, hi⟩
   ·rw [e] at hs; cases hs
   ·rw [e] at hs; cases hs
    rw [h.acts.1] at hi
    cases hi
 have g2 := sto_blk (k := 8) hj1 (by simp [crtCells]) (d := .sl bs.length 0 (fs.length + 1)) rfl
 have hjlt : j < bs1.length := (List.getElem?_eq_some_iff.1 hj1).1
 have hjb : j < bs.length := h.lt j h.fj
 have hj2 : (bs1.set j (.blk 99 9 ((crtCells c sa sf).set 8 (.sl bs.length 0 (fs.length + 1)))))[j]? = some (.blk 99 9 (crtCells c sa (.sl bs.length 0 (fs.length + 1)))) := by rw [set_get hjlt]; rfl
 refine ⟨bs1.set j (.blk 99 9 ((crtCells c sa sf).set 8 (.sl bs.length 0 (fs.length + 1)))), fun k => F k ∨ k = bs.length, ?_, ⟨by simp [gl], fun k hk hF => ?_, fun k hk => hk.elim .inl fun e => .inr (by omega)⟩, ?_⟩
 ·refine ku65.writeO rfl ?_
  unfold u65
  simp only [ups_cons, ups_nil, List.cons_append, List.nil_append]
  repeat' (first | ((with_reducible apply nrm); (· simp only [sbe]; rfl)) | ((with_reducible apply u_chk); (· rfl)) | ((with_reducible apply u_stoa); (· rfl); (· rfl); (· rfl); (· rfl); (· rfl); (· exact gs); (· exact g2); (· simp only [sbe]; rfl)) | ((with_reducible apply u_ld); (· rfl); (· rfl); (· first | exact ldN_blk h.acts.1 (Nat.le_of_ble_eq_true rfl) | exact ld_blk h.acts.1 rfl | exact ld_blk hj2 rfl); (· simp only [sbe]; rfl)) | ((with_reducible apply u_lenL); (· rfl); (· exact h.acts.2.len); (· simp only [sbe]; rfl)) | ((with_reducible apply u_apph); (· rfl); (· rfl); (· rfl); (· exact ga); (· simp only [sbe]; rfl)) | ((with_reducible apply u_pred); (· rfl); (· omega); (· simp only [sbe]; rfl)) | ((with_reducible apply u_sub); (· rfl); (· rfl); (· omega); (· simp only [sbe]; rfl)) | ((with_reducible apply u_ev); (· rfl); (· simp only [sbe]; rfl)) | ((with_reducible apply u_call); (· rfl); (· rfl); (· first | exact h97 | exact h81); (· rfl); (· simp only [sbe]; rfl)) | ((with_reducible apply u_pcallR); (· rfl); (· rfl); (· first | exact c96n h1' _ | exact c96n (decide_eq_false h2) _ | exact c96n (by simpa using h3) _); (· rfl); (· simp only [sbe]; rfl)) | ((with_reducible apply u_or); (· rfl)) | (with_reducible exact u_ret rfl rfl) | ((with_reducible apply u_ret); (· rfl); first | exact rfl | (refine retB ?_) | (refine retI ?_) | (refine retD ?_)) | ((with_reducible intro hz); (try simp only [sbs] at hz)))
  simp [hfl]
 ·rw [set_get_ne (fun e => hF (by rw [← e]; exact h.fj)), go k hk (fun hs => hF (h.ff k hs))]
 ·have hkeep : ∀ k, k < bs.length → k ≠ j → sf.sid ≠ some k → (bs1.set j (.blk 99 9 ((crtCells c sa sf).set 8 (.sl bs.length 0 (fs.length + 1)))))[k]? = bs[k]? := fun k h1 h2 h3 => by rw [set_get_ne (Ne.symm h2), go k h1 h3]
  have old : ∀ {α : Type} {e : TypeId} {sz : Nat} {enc : α → List D} {s : D} {xs : List α}, SlOf bs e sz enc s xs → e ≠ 99 → e ≠ 115 → SlOf (bs1.set j (.blk 99 9 ((crtCells c sa sf).set 8 (.sl bs.length 0 (fs.length + 1))))) e sz enc s xs := fun hs h1 h2 => hs.keep fun i hi => hkeep i (hs.lt hi) (hs.ne hi h.acts.1 h1) fun hf => hs.ne hi (h.files.blk hf) h2 rfl
  refine ⟨⟨hj2, old h.acts.2 (by decide) (by decide)⟩, .inr ⟨bs.length, by simp, by rw [set_get_ne (by omega)]; exact gn⟩, by simp [hfl], fun k p idx hq => ?_, fun k k' f f' i h1 h2 h3 h4 => ?_, .inl h.fj, fun i hi => .inl (h.fa i hi), fun i hi => .inr (by cases hi; rfl), fun k f i h1 h2 => ?_, fun k hk => ?_⟩
  ·rcases Nat.lt_or_ge k q.length with hk | hk
   ·rw [List.getElem?_append_left hk] at hq
    obtain ⟨s, g1, g2⟩ := h.case k p idx hq
    exact ⟨s, by rw [List.getElem?_append_left (by omega)]; exact g1, old g2 (by decide) (by decide)⟩
   ·rw [List.getElem?_append_right hk] at hq
    have e : k - q.length = 0 := by
     rcases Nat.eq_zero_or_pos (k - q.length) with e | e
     ·exact e
     ·rw [List.getElem?_eq_none (by simp; omega)] at hq; cases hq
    rw [e] at hq
    cases hq
    exact ⟨.snil, by rw [List.getElem?_append_right (by omega), show k - fs.length = 0 by omega]; rfl, SlOf.nil⟩
  ·have lo : ∀ {k : Nat} {f : Int × D} {i : Nat}, (fs ++ [((l.length : Int), D.snil)])[k]? = some f → D.sid f.2 = some i → fs[k]? = some f := by
    intro k f i h1 h2
    rcases Nat.lt_or_ge k fs.length with hk | hk
    ·rwa [List.getElem?_append_left hk] at h1
    ·rw [List.getElem?_append_right hk] at h1
     cases hkk : k - fs.length with
     | zero => rw [hkk] at h1; cases h1; cases h2
     | succ m => rw [hkk] at h1; simp at h1
   exact h.inj k k' f f' i (lo h1 h3) (lo h2 h4) h3 h4
  ·rcases Nat.lt_or_ge k fs.length with hk | hk
   ·rw [List.getElem?_append_left hk] at h1
    exact .inl (h.fc k f i h1 h2)
   ·rw [List.getElem?_append_right hk] at h1
    cases hkk : k - fs.length with
    | zero => rw [hkk] at h1; cases h1; cases h2
    | succ m => rw [hkk] at h1; simp at h1
  ·rw [List.length_set, gl]
   rcases hk with hk | hk
   ·have := h.lt k hk; omega
   ·omega

theorem Crt.other {F : Nat → Prop} {q : List (Nat × List Nat)} (h : Crt bs F j c l q sa sf fs) {n : Nat} (hn : ¬ F n) (x : D) : Crt (bs.set n x) F j c l q sa sf fs :=
 h.keep (by simp) fun k hk => set_get_ne (fun e => hn (e ▸ hk))

theorem Crt.fileAppend {F : Nat → Prop} {q : List (Nat × List Nat)} (h : Crt bs F j c l q sa sf fs) {k p : Nat} {idx : List Nat} (hk : q[k]? = some (p, idx)) (hL : idx.length ≤ 1000000) (n : Nat) :
  ∃ bs1 bs2 F' b s, sf = .sl b 0 fs.length ∧ bs[b]? = some (.blk 115 2 (fs.flatMap fcs)) ∧ fs[k]? = some (↑p, s) ∧ D.apph 3 1 8 (.st bs) s (.lst [I n]) = some (.st bs1) ∧ D.apps (.st bs) s (.lst [I n]) = some (.sl bs.length 0 (idx.length + 1)) ∧
   D.sto 1 (.st bs1) (.loc b (k * 2 + 1)) (.sl bs.length 0 (idx.length + 1)) = some (.st bs2) ∧ (∀ i, i < bs.length → (¬ F i ∨ i = j) → bs1[i]? = bs[i]?) ∧ Stp bs F bs2 F' ∧ Crt bs2 F' j c l (q.set k (p, idx ++ [n])) sa sf (fs.set k (↑p, .sl bs.length 0 (idx.length + 1))) := by
 obtain ⟨s, hs, hsl⟩ := h.case k p idx hk
 have hkf := (List.getElem?_eq_some_iff.1 hs).1
 have hkq := (List.getElem?_eq_some_iff.1 hk).1
 obtain ⟨b, hb, hbb⟩ := h.files.get hkf
 obtain ⟨bs1, ga, gs, gn, gl, go⟩ := hsl.append (bytes := 8) (x := n) (y := I n) (fun _ => rfl) rfl rfl (by omega) (by unfold maxLen; omega)
 have hblt : b < bs.length := (List.getElem?_eq_some_iff.1 hbb).1
 have hb1 : bs1[b]? = some (.blk 115 2 (fs.flatMap fcs)) := by
  rw [go b hblt (fun e => hsl.ne e hbb (by decide) rfl)]
  exact hbb
 have g2 := sto_el (xs := fs) (enc := fcs) (o := 1) (d := .sl bs.length 0 (idx.length + 1)) (x' := (↑p, .sl bs.length 0 (idx.length + 1))) hb1 (fun _ => rfl) hs (by omega) rfl rfl
 have hb1lt : b < bs1.length := by omega
 have hFb : F b := h.ff b (by rw [hb]; rfl)
 refine ⟨bs1, bs1.set b (.blk 115 2 ((fs.set k (↑p, .sl bs.length 0 (idx.length + 1))).flatMap fcs)), fun i => F i ∨ i = bs.length, b, s, hb, hbb, hs, ga, gs, g2, fun i hi hF => go i hi fun e => hF.elim (fun hF => hF (h.fc k _ i hs e)) (fun e' => hsl.ne e h.acts.1 (by decide) e'), ⟨by simp [gl], fun i hi hF => ?_, fun i hi => hi.elim .inl fun e => .inr (by omega)⟩, ?_⟩
 ·rw [set_get_ne (fun (e : b = i) => hF (by rw [← e]; exact hFb)), go i hi (fun e => hF (h.fc k _ i hs e))]
 have keep : ∀ i, i < bs.length → i ≠ b → s.sid ≠ some i → (bs1.set b (.blk 115 2 ((fs.set k (↑p, .sl bs.length 0 (idx.length + 1))).flatMap fcs)))[i]? = bs[i]? := fun i h1 h2 h3 => by rw [set_get_ne (Ne.symm h2), go i h1 h3]
 have hjb : j ≠ b := fun e => by
  have := h.acts.1
  rw [e, hbb] at this
  cases this
 have hjs : s.sid ≠ some j := fun e => hsl.ne e h.acts.1 (by decide) rfl
 have get : ∀ i f, (fs.set k ((p : Int), D.sl bs.length 0 (idx.length + 1)))[i]? = some f → (i = k ∧ f = (↑p, .sl bs.length 0 (idx.length + 1))) ∨ (i ≠ k ∧ fs[i]? = some f) := fun i f hi => by
  by_cases e : i = k
  ·subst e
   rw [List.getElem?_set_self hkf] at hi
   cases hi
   exact .inl ⟨rfl, rfl⟩
  ·rw [List.getElem?_set_ne (Ne.symm e)] at hi
   exact .inr ⟨e, hi⟩
 refine ⟨⟨by rw [keep j (h.lt j h.fj) hjb hjs]; exact h.acts.1, h.acts.2.keep fun i hi => keep i (h.acts.2.lt hi) (h.acts.2.ne hi hbb (by decide)) fun e => hsl.ne e (h.acts.2.blk hi) (by decide) rfl⟩, .inr ⟨b, by rw [hb]; simp, set_get hb1lt⟩, by simp [h.len], fun i p' idx' hi => ?_, fun i i' f f' m h1 h2 h3 h4 => ?_, .inl h.fj, fun i hi => .inl (h.fa i hi), fun i hi => .inl (h.ff i hi), fun i f m h1 h2 => ?_, fun i hi => ?_⟩
 ·by_cases e : i = k
  ·subst e
   rw [List.getElem?_set_self hkq] at hi
   cases hi
   exact ⟨_, List.getElem?_set_self hkf, .inr ⟨bs.length, by simp, by rw [set_get_ne (by omega)]; exact gn⟩⟩
  ·rw [List.getElem?_set_ne (Ne.symm e)] at hi
   obtain ⟨s', h1, h2⟩ := h.case i p' idx' hi
   exact ⟨s', by rw [List.getElem?_set_ne (Ne.symm e)]; exact h1, h2.keep fun m hm => keep m (h2.lt hm) (h2.ne hm hbb (by decide)) fun e' => e (h.inj i k _ _ m h1 hs hm e')⟩
 ·rcases get i f h1 with ⟨rfl, rfl⟩ | ⟨e1, g1⟩ <;> rcases get i' f' h2 with ⟨rfl, rfl⟩ | ⟨e2, g2'⟩
  ·rfl
  ·cases h3
   exact absurd (h.lt _ (h.fc i' f' _ g2' h4)) (Nat.lt_irrefl _)
  ·cases h4
   exact absurd (h.lt _ (h.fc i f _ g1 h3)) (Nat.lt_irrefl _)
  ·exact h.inj i i' f f' m g1 g2' h3 h4
 ·rcases get i f h1 with ⟨rfl, rfl⟩ | ⟨e1, g1⟩
  ·cases h2
   exact .inr rfl
  ·exact .inl (h.fc i f m g1 h2)
 ·rw [List.length_set, gl]
  rcases hi with hi | hi
  ·have := h.lt i hi; omega
  ·omega

theorem Crt.actsAppend {F : Nat → Prop} {q : List (Nat × List Nat)} (h : Crt bs F j c l q sa sf fs) (hL : l.length ≤ 1000000) (a : Akt) :
  ∃ bs1 bs2 F', D.apph 43 12 112 (.st bs) sa (.lst [a.d]) = some (.st bs1) ∧ D.apps (.st bs) sa (.lst [a.d]) = some (.sl bs.length 0 (l.length + 1)) ∧
   D.sto 1 (.st bs1) (.loc j 7) (.sl bs.length 0 (l.length + 1)) = some (.st bs2) ∧ Stp bs F bs2 F' ∧ Crt bs2 F' j c (l ++ [a]) q (.sl bs.length 0 (l.length + 1)) sf fs := by
 obtain ⟨bs1, ga, gs, gn, gl, go⟩ := h.acts.2.append (bytes := 112) (x := a) (y := a.d) (fun _ => rfl) rfl rfl (by omega) (by unfold maxLen; omega)
 have hjlt := h.lt j h.fj
 have hj1 : bs1[j]? = some (.blk 99 9 (crtCells c sa sf)) := by
  rw [go j hjlt (fun e => h.acts.2.ne e h.acts.1 (by decide) rfl)]
  exact h.acts.1
 have g2 := sto_blk (k := 7) hj1 (by simp [crtCells]) (d := .sl bs.length 0 (l.length + 1)) rfl
 have hj1lt : j < bs1.length := by omega
 refine ⟨bs1, _, fun i => F i ∨ i = bs.length, ga, gs, g2, ⟨by simp [gl], fun i hi hF => ?_, fun i hi => hi.elim .inl fun e => .inr (by omega)⟩, ?_⟩
 ·rw [set_get_ne (fun (e : j = i) => hF (by rw [← e]; exact h.fj)), go i hi (fun e => hF (h.fa i e))]
 have keep : ∀ i, i < bs.length → i ≠ j → sa.sid ≠ some i → (bs1.set j (.blk 99 9 ((crtCells c sa sf).set 7 (.sl bs.length 0 (l.length + 1)))))[i]? = bs[i]? := fun i h1 h2 h3 => by rw [set_get_ne (Ne.symm h2), go i h1 h3]
 have old : ∀ {α : Type} {e : TypeId} {sz : Nat} {enc : α → List D} {s : D} {xs : List α}, SlOf bs e sz enc s xs → e ≠ 99 → e ≠ 43 → SlOf (bs1.set j (.blk 99 9 ((crtCells c sa sf).set 7 (.sl bs.length 0 (l.length + 1))))) e sz enc s xs := fun hs h1 h2 => hs.keep fun i hi => keep i (hs.lt hi) (hs.ne hi h.acts.1 h1) fun hf => hs.ne hi (h.acts.2.blk hf) h2 rfl
 refine ⟨⟨by rw [set_get hj1lt]; rfl, .inr ⟨bs.length, by simp, by rw [set_get_ne (by omega)]; exact gn⟩⟩, old h.files (by decide) (by decide), h.len, fun k p idx hq => ?_, h.inj, .inl h.fj, fun i hi => .inr (by cases hi; rfl), fun i hi => .inl (h.ff i hi), fun k f i h1 h2 => .inl (h.fc k f i h1 h2), fun k hk => ?_⟩
 ·obtain ⟨s, g1, g2⟩ := h.case k p idx hq
  exact ⟨s, g1, old g2 (by decide) (by decide)⟩
 ·rw [List.length_set, gl]
  rcases hk with hk | hk
  ·have := h.lt k hk; omega
  ·omega

theorem c70 (xs : List Int) (hl : xs.length ≤ 1000000) : FSpecR Try.prog 70 (.st bs) [Is xs] (Is xs) := by
 refine ku70.R rfl rfl ?_
 unfold u70
 simp only [ups_cons, ups_nil, List.cons_append, List.nil_append]
 refine u_nilq rfl fun b hb => ?_
 have h1 := app_lst (xs := []) (ys := xs) (enc := I) (sz := 1) (bytes := 8) (by simp; omega) (by simp [maxLen]; omega) (fun _ => rfl)
 repeat' (first | ((with_reducible apply nrm); (· simp only [sbe]; rfl)) | ((with_reducible apply u_app); (· rfl); (· rfl); (· exact h1); (· simp only [sbe]; rfl)) | ((with_reducible apply u_ite); (· rfl); all_goals (intro hz; (try simp only [sbs] at hz); first | (exact absurd hz (by decide)) | (exfalso; omega) | skip)) | (with_reducible exact u_ret rfl rfl) | ((with_reducible apply u_ret); (· rfl); first | exact rfl | (refine retB ?_) | (refine retI ?_) | (refine retD ?_)))
 simp_all

end Go.Am.Ct

/-
 Do.
-/
namespace Go.Am.Ct
set_option maxRecDepth 100000
set_option maxHeartbeats 4000000
open Go.Proofs Go.Am.Ap

variable {bs : List D} {j : Nat} {c : Cod} {l : List Akt} {sa sf : D} {fs : List (Int × D)} {F : Nat → Prop} {q : List (Nat × List Nat)}

attribute [local irreducible] inR

theorem e_pair {env : List D} {x y z : E} {d1 d2 d3 : D} (hx : x.eval env = some d1) (hy : y.eval env = some d2) (hz : z.eval env = some d3) : (E.tcons (.tcons x (.tcons y .tnil)) (.tcons z .tnil)).eval env = some (.tup [.tup [d1, d2], d3]) := by
 simp only [E.eval, hx, hy, hz, Option.bind_some, D.tcons]

def res0 (bs : List D) : List D := bs ++ [.blk 3 1 [I 0]] ++ [.blk 24 1 [I 0]]

theorem res_n0 : (res0 bs)[bs.length]? = some (.blk 3 1 [I 0]) := by simp [res0]
theorem res_n1 : (res0 bs)[(bs ++ [D.blk 3 1 [I 0]]).length]? = some (.blk 24 1 [I 0]) := by simp [res0]

theorem Crt.res (h : Crt bs F j c l q sa sf fs) : Crt (res0 bs) F j c l q sa sf fs := (h.more _).more _

def res1 (B : List D) (n : Nat) (x e : Int) : List D := (B.set n (.blk 3 1 [I x])).set (n + 1) (.blk 24 1 [I e])

theorem res1_n0 {B : List D} {n : Nat} {x e : Int} (h : n < B.length) : (res1 B n x e)[n]? = some (.blk 3 1 [I x]) := by
 unfold res1
 rw [set_get_ne (by omega), set_get h]
theorem res1_n1 {B : List D} {n : Nat} {x e : Int} (h : n + 1 < B.length) : (res1 B n x e)[n + 1]? = some (.blk 24 1 [I e]) := by
 unfold res1
 rw [set_get (by simpa using h)]
theorem res1_len {B : List D} {n : Nat} {x e : Int} : (res1 B n x e).length = B.length := by simp [res1]
theorem res1_old {B : List D} {n k : Nat} {x e : Int} (h : k < n) : (res1 B n x e)[k]? = B[k]? := by
 unfold res1
 rw [set_get_ne (by omega), set_get_ne (by omega)]

def early (l : List Akt) (a : Akt) : Bool := decide (0 < (l.length : Int)) && decide (a.minute < (nth l (l.length - 1)).minute)

theorem last_at (h : Crt bs F j c l q sa sf fs) : ∃ b, 0 < l.length → D.eaddr 12 sa (I (l.length - 1 : Nat)) = some (.loc b ((l.length - 1) * 12)) ∧ D.ld false 1 (.st bs) (.loc b ((l.length - 1) * 12 + 1)) = some (I (nth l (l.length - 1)).minute) := by
 by_cases hl : 0 < l.length
 ·obtain ⟨b, rfl, hb⟩ := h.acts.2.get hl
  refine ⟨b, fun _ => ⟨eaddr_sl (by omega), ?_⟩⟩
  have hx := List.getElem?_eq_getElem (show l.length - 1 < l.length by omega)
  have := ld_elc (k := 1) hb (fun _ => rfl) hx rfl
  rw [this]
  simp [nth, hx]
 ·exact ⟨0, fun h => absurd h hl⟩

theorem noneDone (h : Crt bs F j c l q sa sf fs) (e : Int) :
  D.sto 1 (.st (res0 bs)) (.loc bs.length 0) (I 0) = some (.st ((res0 bs).set bs.length (.blk 3 1 [I 0]))) ∧
  D.sto 1 (.st ((res0 bs).set bs.length (.blk 3 1 [I 0]))) (.loc (bs ++ [D.blk 3 1 [I 0]]).length 0) (I e) = some (.st (res1 (res0 bs) bs.length 0 e)) ∧
  D.ld false 1 (.st (res1 (res0 bs) bs.length 0 e)) (.loc bs.length 0) = some (I 0) ∧
  D.ld false 1 (.st (res1 (res0 bs) bs.length 0 e)) (.loc (bs ++ [D.blk 3 1 [I 0]]).length 0) = some (I e) ∧
  Stp bs F (res1 (res0 bs) bs.length 0 e) F ∧ Crt (res1 (res0 bs) bs.length 0 e) F j c l q sa sf fs := by
 have e2 : (bs ++ [D.blk 3 1 [I 0]]).length = bs.length + 1 := by simp
 refine ⟨sto_blk (k := 0) (res_n0 (bs := bs)) (by simp) rfl, ?_, ld_blk (k := 0) (res1_n0 (by simp [res0])) rfl, ?_, ⟨by rw [res1_len]; simp [res0], fun k hk _ => ?_, fun k hk => .inl hk⟩, h.res.keep (by rw [res1_len]; exact Nat.le_refl _) fun k hk => res1_old (h.lt k hk)⟩
 ·rw [sto_blk (e := 24) (sz := 1) (cs := [I 0]) (k := 0) (by rw [set_get_ne (by simp)]; exact res_n1) (by simp) rfl, e2]
  rfl
 ·rw [e2]
  exact ld_blk (k := 0) (res1_n1 (by simp [res0])) rfl
 ·rw [res1_old hk]
  simp only [res0, List.append_assoc]
  rw [List.getElem?_append_left hk]


theorem c26arg (h : Crt bs F j c l q sa sf fs) (hL : l.length ≤ 1000000) (a : Akt) (ha : a.facts.length ≤ 1000000) (hbad : (!actOk c.cars a || early l a) = true) :
  ∃ bs', FSpecWO Try.prog 26 (.st bs) [.loc j 0, a.d] (.ret (.tup [I 0, I 2])) (.st bs') ∧ Stp bs F bs' F ∧ Crt bs' F j c l q sa sf fs := by
 obtain ⟨s1, s2, g1, g2, k1, k2⟩ := noneDone h 2
 refine ⟨_, ?_, k1, k2⟩
 refine ku26.deferO rfl ?_
 unfold u26
 have hr := h.res
 have h61 := c61 hr.acts
 have h62 := c62 hr.acts a ha
 obtain ⟨b0, hb0⟩ := last_at hr
 unfold early at *
 simp only [ups_cons, ups_nil, List.cons_append, List.nil_append]
 repeat' (first | ((with_reducible apply nrm); (· simp only [sbe]; rfl)) | (exact u_ret (e_pair (e_ld rfl rfl g1) (e_ld rfl rfl g2) rfl) rfl) | ((with_reducible apply u_iteT); (· rfl); (· exact hbad)) | ((with_reducible apply u_iteF); (· rfl); (· exact rfl)) | ((with_reducible apply u_chk); (· rfl)) | ((with_reducible apply u_ld); (· rfl); (· rfl); (· first | exact ld_blk hr.acts.1 rfl | exact (hb0 (by omega)).2); (· simp only [sbe]; rfl)) | ((with_reducible apply u_eaddr); (· rfl); (· rfl); (· exact (hb0 (by omega)).1); (· simp only [sbe]; rfl)) | ((with_reducible apply u_lenL); (· rfl); (· exact hr.acts.2.len); (· simp only [sbe]; rfl)) | ((with_reducible apply u_sto); (· rfl); (· rfl); (· rfl); (· first | exact s1 | exact s2); (· simp only [sbe]; rfl)) | ((with_reducible apply u_pred); (· rfl); (· omega); (· simp only [sbe]; rfl)) | ((with_reducible apply u_ev); (· rfl); (· simp only [sbe]; rfl)) | ((with_reducible apply u_call); (· rfl); (· rfl); (· first | exact h61 | exact h62); (· rfl); (· simp only [sbe]; rfl)) | ((with_reducible apply u_or); (· rfl)) | ((with_reducible apply u_and); (· rfl)) | (with_reducible exact u_ret rfl rfl) | ((with_reducible intro hz); (try simp only [sbs] at hz)))

theorem c26long (h : Crt bs F j c l q sa sf fs) (hL : l.length ≤ 1000000) (a : Akt) (ha : a.facts.length ≤ 1000000) (hok : (!actOk c.cars a || early l a) = false) (hm : 2000 ≤ l.length) :
  ∃ bs', FSpecWO Try.prog 26 (.st bs) [.loc j 0, a.d] (.ret (.tup [I 0, I 4])) (.st bs') ∧ Stp bs F bs' F ∧ Crt bs' F j c l q sa sf fs := by
 obtain ⟨s1, s2, g1, g2, k1, k2⟩ := noneDone h 4
 refine ⟨_, ?_, k1, k2⟩
 refine ku26.deferO rfl ?_
 unfold u26
 have hr := h.res
 have h61 := c61 hr.acts
 have h62 := c62 hr.acts a ha
 obtain ⟨b0, hb0⟩ := last_at hr
 unfold early at *
 simp only [ups_cons, ups_nil, List.cons_append, List.nil_append]
 have hm' : decide ((l.length : Int) ≥ 2000) = true := by simp; omega
 repeat' (first | ((with_reducible apply nrm); (· simp only [sbe]; rfl)) | (exact u_ret (e_pair (e_ld rfl rfl g1) (e_ld rfl rfl g2) rfl) rfl) | ((with_reducible apply u_iteT); (· rfl); (· exact hm')) | ((with_reducible apply u_iteF); (· rfl); (· first | exact rfl | exact hok)) | ((with_reducible apply u_chk); (· rfl)) | ((with_reducible apply u_ld); (· rfl); (· rfl); (· first | exact ld_blk hr.acts.1 rfl | exact (hb0 (by omega)).2); (· simp only [sbe]; rfl)) | ((with_reducible apply u_eaddr); (· rfl); (· rfl); (· exact (hb0 (by omega)).1); (· simp only [sbe]; rfl)) | ((with_reducible apply u_lenL); (· rfl); (· exact hr.acts.2.len); (· simp only [sbe]; rfl)) | ((with_reducible apply u_sto); (· rfl); (· rfl); (· rfl); (· first | exact s1 | exact s2); (· simp only [sbe]; rfl)) | ((with_reducible apply u_pred); (· rfl); (· omega); (· simp only [sbe]; rfl)) | ((with_reducible apply u_ev); (· rfl); (· simp only [sbe]; rfl)) | ((with_reducible apply u_call); (· rfl); (· rfl); (· first | exact h61 | exact h62); (· rfl); (· simp only [sbe]; rfl)) | ((with_reducible apply u_or); (· rfl)) | ((with_reducible apply u_and); (· rfl)) | (with_reducible exact u_ret rfl rfl) | ((with_reducible intro hz); (try simp only [sbs] at hz)))

end Go.Am.Ct

/-
 Do: the acts.
-/
namespace Go.Am.Ct
set_option maxRecDepth 100000
set_option maxHeartbeats 4000000
open Go.Proofs Go.Am.Ap

variable {bs : List D} {j : Nat} {c : Cod} {l : List Akt} {sa sf : D} {fs : List (Int × D)} {F : Nat → Prop} {q : List (Nat × List Nat)}

attribute [local irreducible] inR

theorem e_two {env : List D} {x y : E} {d1 d2 : D} (hx : x.eval env = some d1) (hy : y.eval env = some d2) : (E.tcons x (.tcons y .tnil)).eval env = some (.tup [d1, d2]) := by
 simp only [E.eval, hx, hy, Option.bind_some, D.tcons]

def kents (j : Nat) : List D := [.tup [I 1, .fn 64 [.loc j 0] []], .tup [I 2, .fn 65 [.loc j 0] []], .tup [I 3, .fn 66 [.loc j 0] []], .tup [I 4, .fn 67 [.loc j 0] []], .tup [I 5, .fn 68 [.loc j 0] []], .tup [I 6, .fn 69 [.loc j 0] []]]

def mid (bs : List D) (j : Nat) : List D := res0 bs ++ [.mblk (kents j)]

theorem mid_n0 : (mid bs j)[bs.length]? = some (.blk 3 1 [I 0]) := by
 unfold mid
 rw [List.getElem?_append_left (by simp [res0])]
 exact res_n0
theorem mid_n1 : (mid bs j)[bs.length + 1]? = some (.blk 24 1 [I 0]) := by
 unfold mid
 rw [List.getElem?_append_left (by simp [res0])]
 have := res_n1 (bs := bs)
 simpa using this
theorem mid_len : (mid bs j).length = bs.length + 3 := by simp [mid, res0]
theorem mid_old {k : Nat} (h : k < bs.length) : (mid bs j)[k]? = bs[k]? := by
 simp only [mid, res0, List.append_assoc]
 rw [List.getElem?_append_left h]
theorem Crt.mid (h : Crt bs F j c l q sa sf fs) : Crt (mid bs j) F j c l q sa sf fs := h.res.more _

theorem c26pan (h : Crt bs F j c l q sa sf fs) (hL : l.length ≤ 1000000) (a : Akt) (ha : a.facts.length ≤ 1000000) (hok : (!actOk c.cars a || early l a) = false) (hm : l.length < 2000) {f i : Nat} (hg : D.mlook .int (I a.kind) (kents j) = some (some (i, .fn f [.loc j 0] []))) (hf : callable Try.prog f = true)
  {e : Int} (hp : FSpecWO Try.prog f (.st (mid bs j)) [.loc j 0, a.d] (.pan (refusal e)) (.st (mid bs j))) :
  ∃ bs', FSpecWO Try.prog 26 (.st bs) [.loc j 0, a.d] (.ret (.tup [I 0, I e])) (.st bs') ∧ Stp bs F bs' F ∧ Crt bs' F j c l q sa sf fs := by
 have e2 : (bs ++ [D.blk 3 1 [I 0]]).length = bs.length + 1 := by simp
 have g1 := ld_blk (k := 0) (res1_n0 (B := mid bs j) (n := bs.length) (x := 0) (e := e) (by rw [mid_len]; omega)) rfl
 have g2 := ld_blk (k := 0) (res1_n1 (B := mid bs j) (n := bs.length) (x := 0) (e := e) (by rw [mid_len]; omega)) rfl
 have h63 := c63p (e := e) (mid_n0 (bs := bs) (j := j)) mid_n1 (by omega)
 refine ⟨res1 (mid bs j) bs.length 0 e, ?_, ⟨by rw [res1_len, mid_len]; omega, fun k hk _ => by rw [res1_old hk, mid_old hk], fun k hk => .inl hk⟩, h.mid.keep (by rw [res1_len]; exact Nat.le_refl _) fun k hk => res1_old (h.lt k hk)⟩
 refine ku26.deferO rfl ?_
 unfold u26
 have hr := h.res
 have h61 := c61 hr.acts
 have h62 := c62 hr.acts a ha
 obtain ⟨b0, hb0⟩ := last_at hr
 unfold early at *
 simp only [ups_cons, ups_nil, List.cons_append, List.nil_append]
 have hm' : decide ((l.length : Int) ≥ 2000) = false := by simp; omega
 repeat' (first | ((with_reducible apply nrm); (· simp only [sbe]; rfl)) | ((with_reducible apply u_iteF); (· rfl); (· first | exact rfl | exact hok | exact hm')) | ((with_reducible apply u_chk); (· rfl)) | ((with_reducible apply u_ld); (· rfl); (· rfl); (· first | exact ld_blk hr.acts.1 rfl | exact (hb0 (by omega)).2); (· simp only [sbe]; rfl)) | ((with_reducible apply u_eaddr); (· rfl); (· rfl); (· exact (hb0 (by omega)).1); (· simp only [sbe]; rfl)) | ((with_reducible apply u_lenL); (· rfl); (· exact hr.acts.2.len); (· simp only [sbe]; rfl)) | ((with_reducible apply u_m4); (· rfl); (· rfl); (· rfl); (· rfl); (· first | exact m4_put rfl | exact m4_get hg rfl); (· simp only [sbe]; rfl)) | ((with_reducible apply u_pred); (· rfl); (· omega); (· simp only [sbe]; rfl)) | ((with_reducible apply u_ev); (· rfl); (· simp only [sbe]; rfl)) | ((with_reducible apply u_call); (· rfl); (· rfl); (· first | exact h61 | exact h62); (· rfl); (· simp only [sbe]; rfl)) | ((with_reducible apply u_or); (· rfl)) | ((with_reducible apply u_and); (· rfl)) | ((with_reducible apply u_dfr); (· rfl); (· rfl)) | (with_reducible exact u_ret rfl rfl) | ((with_reducible intro hz); (try simp only [sbs] at hz)))
 refine u_wpcallvP rfl hf rfl rfl hp rfl ⟨rfl, .st (res1 (mid bs j) bs.length 0 e), .tup [I 0, I e], ?_, ?_, rfl⟩
 ·show FSpecD Try.prog 63 (.st (mid bs j)) [.loc bs.length 0, .loc (bs ++ [D.blk 3 1 [I 0]]).length 0] (some (refusal e)) (.st (res1 (mid bs j) bs.length 0 e))
  rw [e2]
  exact h63
 ·refine e_two (e_ld rfl rfl g1) (e_ld rfl rfl ?_)
  rw [← e2] at g2
  exact g2

structure Done (bs : List D) (F : Nat → Prop) (j : Nat) (c : Cod) (l : List Akt) (a : Akt) (f : FuncId) (n : Int) (C : List D) (F4 : Nat → Prop) (q4 : List (Nat × List Nat)) (sf4 : D) (fs4 : List (Int × D)) (sa : D) : Prop where
 hp : FSpecWO Try.prog f (.st (mid bs j)) [.loc j 0, a.d] (.ret (I n)) (.st C)
 st : Stp (mid bs j) F C F4
 crt : Crt C F4 j c l q4 sa sf4 fs4



theorem c26pub (h : Crt bs F j c l q sa sf fs) (hL : l.length ≤ 1000000) (a : Akt) (ha : a.facts.length ≤ 1000000) (hok : (!actOk c.cars a || early l a) = false) (hm : l.length < 2000) {f i : Nat} (hg : D.mlook .int (I a.kind) (kents j) = some (some (i, .fn f [.loc j 0] []))) (hf : callable Try.prog f = true)
  {C : List D} {F4 : Nat → Prop} {q4 : List (Nat × List Nat)} {sf4 : D} {fs4 : List (Int × D)} {n : Int} (hn : n = -1) (hd : Done bs F j c l a f n C F4 q4 sf4 fs4 sa) :
  ∃ bs' F' sa' , FSpecWO Try.prog 26 (.st bs) [.loc j 0, a.d] (.ret (.tup [I n, I 0])) (.st bs') ∧ Stp bs F bs' F' ∧ Crt bs' F' j c (l ++ [a]) q4 sa' sf4 fs4 := by
 have e2 : (bs ++ [D.blk 3 1 [I 0]]).length = bs.length + 1 := by simp
 have hC := hd.st.len
 rw [mid_len] at hC
 have nF4 : ∀ k, bs.length ≤ k → k < bs.length + 3 → ¬ F4 k := fun k h1 h2 h3 => by
  rcases hd.st.new k h3 with h4 | h4
  ·have := h.lt k h4; omega
  ·rw [mid_len] at h4; omega
 have nF : ∀ k, bs.length ≤ k → ¬ F k := fun k h1 h2 => by have := h.lt k h2; omega
 have hC0 : C[bs.length]? = some (.blk 3 1 [I 0]) := by rw [hd.st.old _ (by rw [mid_len]; omega) (nF _ (Nat.le_refl _))]; exact mid_n0
 have hC1 : C[bs.length + 1]? = some (.blk 24 1 [I 0]) := by rw [hd.st.old _ (by rw [mid_len]; omega) (nF _ (by omega))]; exact mid_n1
 have s1 := sto_blk (k := 0) hC0 (by simp) (d := I n) rfl
 have hc1 := hd.crt.other (nF4 bs.length (Nat.le_refl _) (by omega)) (.blk 3 1 [I n])
 have l1 : (C.set bs.length (.blk 3 1 [I n])).length = C.length := by simp
 have v0 : (C.set bs.length (.blk 3 1 [I n]))[bs.length]? = some (.blk 3 1 [I n]) := set_get (by omega)
 have v1 : (C.set bs.length (.blk 3 1 [I n]))[bs.length + 1]? = some (.blk 24 1 [I 0]) := by rw [set_get_ne (by omega)]; exact hC1
 have vo : ∀ k, k < bs.length → ¬ F k → (C.set bs.length (.blk 3 1 [I n]))[k]? = bs[k]? := fun k hk hF => by rw [set_get_ne (by omega), hd.st.old k (by rw [mid_len]; omega) hF, mid_old hk]
 have nFo : ∀ k, k < bs.length → ¬ F k → ¬ F4 k := fun k hk hF h4 => (hd.st.new k h4).elim hF fun h5 => by rw [mid_len] at h5; omega
 obtain ⟨bs4, bs5, F5, ga, gs, gt, g5, g6⟩ := hc1.actsAppend hL a
 have h5l := g5.len
 have hn' : decide (n ≥ 0) = false := by rw [hn]; rfl
 have w0 : bs5[bs.length]? = some (.blk 3 1 [I n]) := by rw [g5.old bs.length (by omega) (nF4 bs.length (Nat.le_refl _) (by omega))]; exact v0
 have w1 : bs5[bs.length + 1]? = some (.blk 24 1 [I 0]) := by rw [g5.old (bs.length + 1) (by omega) (nF4 (bs.length + 1) (by omega) (by omega))]; exact v1
 have t1 := sto_blk (k := 0) w0 (by simp) (d := I n) rfl
 have t2 : D.sto 1 (.st (bs5.set bs.length (.blk 3 1 ([I n].set 0 (I n))))) (.loc (bs ++ [D.blk 3 1 [I 0]]).length 0) (I 0) = some (.st (res1 bs5 bs.length n 0)) := by
  rw [e2]
  exact sto_blk (bs := bs5.set bs.length (.blk 3 1 ([I n].set 0 (I n)))) (i := bs.length + 1) (k := 0) (by rw [set_get_ne (by omega)]; exact w1) (by simp) (d := I 0) rfl
 have r1 := ld_blk (k := 0) (res1_n0 (B := bs5) (n := bs.length) (x := n) (e := 0) (by omega)) rfl
 have r2 := ld_blk (k := 0) (res1_n1 (B := bs5) (n := bs.length) (x := n) (e := 0) (by omega)) rfl
 have nF5 : ∀ k, bs.length ≤ k → k < bs.length + 3 → ¬ F5 k := fun k h1 h2 h3 => (g5.new k h3).elim (nF4 k h1 h2) fun h4 => by omega
 refine ⟨res1 bs5 bs.length n 0, F5, _, ?_, ⟨by rw [res1_len]; omega, fun k hk hF => ?_, fun k hk => ?_⟩, (g6.other (nF5 bs.length (Nat.le_refl _) (by omega)) _).other (nF5 (bs.length + 1) (by omega) (by omega)) _⟩
 ·refine ku26.deferO rfl ?_
  unfold u26
  have hr := h.res
  have h61 := c61 hr.acts
  have h62 := c62 hr.acts a ha
  obtain ⟨b0, hb0⟩ := last_at hr
  unfold early at *
  simp only [ups_cons, ups_nil, List.cons_append, List.nil_append]
  have hm' : decide ((l.length : Int) ≥ 2000) = false := by simp; omega
  repeat' (first | ((with_reducible apply nrm); (· simp only [sbe]; rfl)) | ((with_reducible apply u_iteF); (· rfl); (· first | exact rfl | exact hok | exact hm')) | ((with_reducible apply u_chk); (· rfl)) | ((with_reducible apply u_ld); (· rfl); (· rfl); (· first | exact ld_blk hr.acts.1 rfl | exact (hb0 (by omega)).2); (· simp only [sbe]; rfl)) | ((with_reducible apply u_eaddr); (· rfl); (· rfl); (· exact (hb0 (by omega)).1); (· simp only [sbe]; rfl)) | ((with_reducible apply u_lenL); (· rfl); (· exact hr.acts.2.len); (· simp only [sbe]; rfl)) | ((with_reducible apply u_m4); (· rfl); (· rfl); (· rfl); (· rfl); (· first | exact m4_put rfl | exact m4_get hg rfl); (· simp only [sbe]; rfl)) | ((with_reducible apply u_pred); (· rfl); (· omega); (· simp only [sbe]; rfl)) | ((with_reducible apply u_ev); (· rfl); (· simp only [sbe]; rfl)) | ((with_reducible apply u_call); (· rfl); (· rfl); (· first | exact h61 | exact h62); (· rfl); (· simp only [sbe]; rfl)) | ((with_reducible apply u_or); (· rfl)) | ((with_reducible apply u_and); (· rfl)) | ((with_reducible apply u_dfr); (· rfl); (· rfl)) | (with_reducible exact u_ret rfl rfl) | ((with_reducible intro hz); (try simp only [sbs] at hz)))
  refine u_wpcallvR rfl hf rfl rfl hd.hp rfl (by simp only [List.cons_append, List.nil_append]; rfl) ?_
  have h70 := c70 (bs := C.set bs.length (.blk 3 1 [I n])) a.facts ha
  repeat' (first | ((with_reducible apply nrm); (· simp only [sbe]; rfl)) | ((with_reducible apply u_iteF); (· rfl); (· exact hn')) | ((with_reducible apply u_chk); (· rfl)) | ((with_reducible apply u_stoa); (· rfl); (· rfl); (· rfl); (· rfl); (· rfl); (· exact gs); (· exact gt); (· simp only [sbe]; rfl)) | ((with_reducible apply u_ld); (· rfl); (· rfl); (· first | exact ld_blk v0 rfl | exact ld_blk hc1.acts.1 rfl | exact ld_blk w0 rfl); (· simp only [sbe]; rfl)) | ((with_reducible apply u_sto); (· rfl); (· rfl); (· rfl); (· first | exact s1 | exact t1 | exact t2); (· simp only [sbe]; rfl)) | ((with_reducible apply u_apph); (· rfl); (· rfl); (· rfl); (· exact ga); (· simp only [sbe]; rfl)) | ((with_reducible apply u_ev); (· rfl); (· simp only [sbe]; rfl)) | ((with_reducible apply u_call); (· rfl); (· rfl); (· exact h70); (· rfl); (· simp only [sbe]; rfl)) | (with_reducible refine u_join ?_) | ((with_reducible apply u_jump); (· rfl); (· rfl)) | (with_reducible refine at_jump ?_) | (with_reducible refine kj rfl ?_))
  refine u_ret rfl ⟨.st (res1 bs5 bs.length n 0), .tup [I n, I 0], c63n, e_two (e_ld rfl rfl r1) (e_ld rfl rfl ?_), rfl⟩
  rw [← e2] at r2
  exact r2
 ·rw [res1_old hk, g5.old k (by omega) (nFo k hk hF), vo k hk hF]
 ·rcases g5.new k hk with h1 | h1
  ·rcases hd.st.new k h1 with h2 | h2
   ·exact .inl h2
   ·rw [mid_len] at h2; exact .inr (by omega)
  ·exact .inr (by omega)

theorem c26upd (h : Crt bs F j c l q sa sf fs) (hL : l.length ≤ 1000000) (a : Akt) (ha : a.facts.length ≤ 1000000) (hok : (!actOk c.cars a || early l a) = false) (hm : l.length < 2000) {f i : Nat} (hg : D.mlook .int (I a.kind) (kents j) = some (some (i, .fn f [.loc j 0] []))) (hf : callable Try.prog f = true)
  {C : List D} {F4 : Nat → Prop} {q4 : List (Nat × List Nat)} {sf4 : D} {fs4 : List (Int × D)} {n : Int} {k p : Nat} {idx : List Nat} (hn : n = k) (hk : q4[k]? = some (p, idx)) (hx : idx.length ≤ 1000000) (hd : Done bs F j c l a f n C F4 q4 sf4 fs4 sa) :
  ∃ bs' F' sa' fs', FSpecWO Try.prog 26 (.st bs) [.loc j 0, a.d] (.ret (.tup [I n, I 0])) (.st bs') ∧ Stp bs F bs' F' ∧ Crt bs' F' j c (l ++ [a]) (q4.set k (p, idx ++ [l.length])) sa' sf4 fs' := by
 have e2 : (bs ++ [D.blk 3 1 [I 0]]).length = bs.length + 1 := by simp
 have hC := hd.st.len
 rw [mid_len] at hC
 have nF4 : ∀ k, bs.length ≤ k → k < bs.length + 3 → ¬ F4 k := fun k h1 h2 h3 => by
  rcases hd.st.new k h3 with h4 | h4
  ·have := h.lt k h4; omega
  ·rw [mid_len] at h4; omega
 have nF : ∀ k, bs.length ≤ k → ¬ F k := fun k h1 h2 => by have := h.lt k h2; omega
 have hC0 : C[bs.length]? = some (.blk 3 1 [I 0]) := by rw [hd.st.old _ (by rw [mid_len]; omega) (nF _ (Nat.le_refl _))]; exact mid_n0
 have hC1 : C[bs.length + 1]? = some (.blk 24 1 [I 0]) := by rw [hd.st.old _ (by rw [mid_len]; omega) (nF _ (by omega))]; exact mid_n1
 have s1 := sto_blk (k := 0) hC0 (by simp) (d := I n) rfl
 have hc1 := hd.crt.other (nF4 bs.length (Nat.le_refl _) (by omega)) (.blk 3 1 [I n])
 have l1 : (C.set bs.length (.blk 3 1 [I n])).length = C.length := by simp
 have v0 : (C.set bs.length (.blk 3 1 [I n]))[bs.length]? = some (.blk 3 1 [I n]) := set_get (by omega)
 have v1 : (C.set bs.length (.blk 3 1 [I n]))[bs.length + 1]? = some (.blk 24 1 [I 0]) := by rw [set_get_ne (by omega)]; exact hC1
 have vo : ∀ k, k < bs.length → ¬ F k → (C.set bs.length (.blk 3 1 [I n]))[k]? = bs[k]? := fun k hk hF => by rw [set_get_ne (by omega), hd.st.old k (by rw [mid_len]; omega) hF, mid_old hk]
 have nFo : ∀ k, k < bs.length → ¬ F k → ¬ F4 k := fun k hk hF h4 => (hd.st.new k h4).elim hF fun h5 => by rw [mid_len] at h5; omega
 obtain ⟨bs2, bs3, F3, b, s, hsf, hsb, hfk, fa, fgs, fgt, fo, g3, hc3⟩ := hc1.fileAppend hk hx l.length
 obtain ⟨bs4, bs5, F5, ga, gs, gt, g5, g6⟩ := hc3.actsAppend hL a
 have h5l := g5.len
 have h3l := g3.len
 have hn' : decide (n ≥ 0) = true := by rw [hn]; simp
 have hkl := (List.getElem?_eq_some_iff.1 hfk).1
 have nF3 : ∀ k, bs.length ≤ k → k < bs.length + 3 → ¬ F3 k := fun k h1 h2 h3 => (g3.new k h3).elim (nF4 k h1 h2) fun h4 => by omega
 have nFo3 : ∀ k, k < bs.length → ¬ F k → ¬ F3 k := fun k hk hF h4 => (g3.new k h4).elim (nFo k hk hF) fun h5 => by omega
 have u0 : bs3[bs.length]? = some (.blk 3 1 [I n]) := by rw [g3.old bs.length (by omega) (nF4 bs.length (Nat.le_refl _) (by omega))]; exact v0
 have u1 : bs3[bs.length + 1]? = some (.blk 24 1 [I 0]) := by rw [g3.old (bs.length + 1) (by omega) (nF4 (bs.length + 1) (by omega) (by omega))]; exact v1
 have hjb := h.lt j h.fj
 have y0 : bs2[bs.length]? = some (.blk 3 1 [I n]) := by rw [fo bs.length (by omega) (.inl (nF4 bs.length (Nat.le_refl _) (by omega)))]; exact v0
 have y1 : bs2[j]? = some (.blk 99 9 (crtCells c sa sf4)) := by rw [fo j (by omega) (.inr rfl)]; exact hc1.acts.1
 subst hsf
 have le : D.eaddr 2 (.sl b 0 fs4.length) (I n) = some (.loc b (k * 2)) := by rw [hn]; exact eaddr_sl hkl
 have lc := ld_elc (k := 1) hsb (fun _ => rfl) hfk rfl
 have fx : D.sto 1 (.st bs2) (.loc b (k * 2 + 1)) (.sl (C.set bs.length (.blk 3 1 [I n])).length 0 (idx.length + 1)) = some (.st bs3) := fgt
 have w0 : bs5[bs.length]? = some (.blk 3 1 [I n]) := by rw [g5.old bs.length (by omega) (nF3 bs.length (Nat.le_refl _) (by omega))]; exact u0
 have w1 : bs5[bs.length + 1]? = some (.blk 24 1 [I 0]) := by rw [g5.old (bs.length + 1) (by omega) (nF3 (bs.length + 1) (by omega) (by omega))]; exact u1
 have t1 := sto_blk (k := 0) w0 (by simp) (d := I n) rfl
 have t2 : D.sto 1 (.st (bs5.set bs.length (.blk 3 1 ([I n].set 0 (I n))))) (.loc (bs ++ [D.blk 3 1 [I 0]]).length 0) (I 0) = some (.st (res1 bs5 bs.length n 0)) := by
  rw [e2]
  exact sto_blk (bs := bs5.set bs.length (.blk 3 1 ([I n].set 0 (I n)))) (i := bs.length + 1) (k := 0) (by rw [set_get_ne (by omega)]; exact w1) (by simp) (d := I 0) rfl
 have r1 := ld_blk (k := 0) (res1_n0 (B := bs5) (n := bs.length) (x := n) (e := 0) (by omega)) rfl
 have r2 := ld_blk (k := 0) (res1_n1 (B := bs5) (n := bs.length) (x := n) (e := 0) (by omega)) rfl
 have nF5 : ∀ k, bs.length ≤ k → k < bs.length + 3 → ¬ F5 k := fun k h1 h2 h3 => (g5.new k h3).elim (nF3 k h1 h2) fun h4 => by omega
 refine ⟨res1 bs5 bs.length n 0, F5, _, _, ?_, ⟨by rw [res1_len]; omega, fun k hk hF => ?_, fun k hk => ?_⟩, (g6.other (nF5 bs.length (Nat.le_refl _) (by omega)) _).other (nF5 (bs.length + 1) (by omega) (by omega)) _⟩
 ·refine ku26.deferO rfl ?_
  unfold u26
  have hr := h.res
  have h61 := c61 hr.acts
  have h62 := c62 hr.acts a ha
  obtain ⟨b0, hb0⟩ := last_at hr
  unfold early at *
  simp only [ups_cons, ups_nil, List.cons_append, List.nil_append]
  have hm' : decide ((l.length : Int) ≥ 2000) = false := by simp; omega
  repeat' (first | ((with_reducible apply nrm); (· simp only [sbe]; rfl)) | ((with_reducible apply u_iteF); (· rfl); (· first | exact rfl | exact hok | exact hm')) | ((with_reducible apply u_chk); (· rfl)) | ((with_reducible apply u_ld); (· rfl); (· rfl); (· first | exact ld_blk hr.acts.1 rfl | exact (hb0 (by omega)).2); (· simp only [sbe]; rfl)) | ((with_reducible apply u_eaddr); (· rfl); (· rfl); (· exact (hb0 (by omega)).1); (· simp only [sbe]; rfl)) | ((with_reducible apply u_lenL); (· rfl); (· exact hr.acts.2.len); (· simp only [sbe]; rfl)) | ((with_reducible apply u_m4); (· rfl); (· rfl); (· rfl); (· rfl); (· first | exact m4_put rfl | exact m4_get hg rfl); (· simp only [sbe]; rfl)) | ((with_reducible apply u_pred); (· rfl); (· omega); (· simp only [sbe]; rfl)) | ((with_reducible apply u_ev); (· rfl); (· simp only [sbe]; rfl)) | ((with_reducible apply u_call); (· rfl); (· rfl); (· first | exact h61 | exact h62); (· rfl); (· simp only [sbe]; rfl)) | ((with_reducible apply u_or); (· rfl)) | ((with_reducible apply u_and); (· rfl)) | ((with_reducible apply u_dfr); (· rfl); (· rfl)) | (with_reducible exact u_ret rfl rfl) | ((with_reducible intro hz); (try simp only [sbs] at hz)))
  refine u_wpcallvR rfl hf rfl rfl hd.hp rfl (by simp only [List.cons_append, List.nil_append]; rfl) ?_
  have h70 := c70 (bs := C.set bs.length (.blk 3 1 [I n])) a.facts ha
  repeat' (first | ((with_reducible apply nrm); (· simp only [sbe]; rfl)) | ((with_reducible apply u_iteT); (· rfl); (· exact hn')) | ((with_reducible apply u_chk); (· rfl)) | ((with_reducible apply u_stoa); (· rfl); (· rfl); (· rfl); (· rfl); (· rfl); (· first | exact fgs | exact gs); (· first | exact fx | exact gt); (· simp only [sbe]; rfl)) | ((with_reducible apply u_same); (· first | exact e_ld rfl rfl (ld_blk hc1.acts.1 rfl) | exact e_ld rfl rfl (ld_blk v0 rfl)); (· first | exact e_ld rfl rfl (ld_blk y1 rfl) | exact e_ld rfl rfl (ld_blk y0 rfl)); (· simp [D.same, Value.same]); (· simp only [sbe]; rfl)) | ((with_reducible apply u_ld); (· rfl); (· rfl); (· first | exact ld_blk v0 rfl | exact ld_blk hc1.acts.1 rfl | exact lc | exact ld_blk hc3.acts.1 rfl | exact ld_blk w0 rfl); (· simp only [sbe]; rfl)) | ((with_reducible apply u_eaddr); (· rfl); (· rfl); (· exact le); (· simp only [sbe]; rfl)) | ((with_reducible apply u_lenL); (· rfl); (· exact hc1.acts.2.len); (· simp only [sbe]; rfl)) | ((with_reducible apply u_sto); (· rfl); (· rfl); (· rfl); (· first | exact s1 | exact t1 | exact t2); (· simp only [sbe]; rfl)) | ((with_reducible apply u_apph); (· rfl); (· rfl); (· rfl); (· first | exact fa | exact ga); (· simp only [sbe]; rfl)) | ((with_reducible apply u_ev); (· rfl); (· simp only [sbe]; rfl)) | ((with_reducible apply u_call); (· rfl); (· rfl); (· exact h70); (· rfl); (· simp only [sbe]; rfl)) | (with_reducible refine u_join ?_) | ((with_reducible apply u_jump); (· rfl); (· rfl)) | (with_reducible refine at_jump ?_) | (with_reducible refine kj rfl ?_))
  refine u_ret rfl ⟨.st (res1 bs5 bs.length n 0), .tup [I n, I 0], c63n, e_two (e_ld rfl rfl r1) (e_ld rfl rfl ?_), rfl⟩
  rw [← e2] at r2
  exact r2
 ·rw [res1_old hk, g5.old k (by omega) (nFo3 k hk hF), g3.old k (by omega) (nFo k hk hF), vo k hk hF]
 ·rcases g5.new k hk with h1 | h1
  ·rcases g3.new k h1 with h1 | h1
   ·rcases hd.st.new k h1 with h2 | h2
    ·exact .inl h2
    ·rw [mid_len] at h2; exact .inr (by omega)
   ·exact .inr (by omega)
  ·exact .inr (by omega)

end Go.Am.Ct
