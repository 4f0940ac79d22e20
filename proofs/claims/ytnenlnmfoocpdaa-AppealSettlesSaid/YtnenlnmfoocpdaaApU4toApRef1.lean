/-
  Several texts, one behind the other.
-/
import Derived.Test.YtnenlnmfoocpdaaAmEvaltoAmSt2
import Derived.Test.YtnenlnmfoocpdaaAmSeqtoAmLaw
import Derived.Test.YtnenlnmfoocpdaaApTab
set_option linter.unusedSimpArgs false
set_option linter.unusedVariables false
/-
 Sorting, splitting, grounds: as texts.
-/
namespace Go.Am.Ap
open Go.Proofs

noncomputable def u128 : U := (ups [.ev (.bin .add .int y1 (ki 1)),
 .join 0 1 (.loop 1 [y5, y4] (ups [.ev (.bin .lss .int y6 y2)]
 (.ite y8 (ups [.join 2 1 (ups [.join 3 6 (.loop 4 [y6, y7] (ups [.ev (.bin .gtr .int y9 y1),
 .chain false y11 (ups [.ev (.eaddr 1 y0 y9),
 .ev (.ld false 1 y10 y12),
 .ev (.bin .sub .int y9 (ki 1)),
 .ev (.eaddr 1 y0 y14),
 .ev (.ld false 1 y10 y15),
 .callv y3 y10 [y13, y16] [true],
 .ev (.bin .lss .int y17 (ki 0))]
 (.ret y18))]
 (.ite y12 (ups [.join 5 1 (ups [.ev (.bin .sub .int y9 (ki 1)),
 .ev (.bin .sub .int y9 (ki 1)),
 .ev (.eaddr 1 y0 y14),
 .ev (.ld false 1 y10 y15),
 .ev (.eaddr 1 y0 y9),
 .ev (.ld false 1 y10 y17),
 .ev (.eaddr 1 y0 y9),
 .ev (.sto 1 y10 y19 y16),
 .ev (.eaddr 1 y0 y13),
 .ev (.sto 1 y20 y21 y18)]
 (.jump 5 [y22] [])),
 .ev (.bin .sub .int y9 (ki 1))]
 (.jump 4 [y14, y13] [])) (.jump 3 [y9, y9, y11, y11, y12, y10] []))))]
 (.jump 2 [y14] [])),
 .ev (.bin .add .int y6 (ki 1))]
 (.jump 1 [y10, y9] [])) (.jump 0 [y7] []))))]
 (.ret (.tcons .tnil (.tcons y6 .tnil))))
theorem ku128 : UOk Try.prog 128 .plain (autoCfg false WRS PAN [] [] Try.f128) [true, true, true, true] u128 := UOk.plain Try.func128 (by kernel_rfl) (by kernel_rfl)

noncomputable def u129 : U := (ups [.ev (.bin .sub .int y2 y1),
 .ev (.bin .eql .int y6 (ki 1))]
 (.ite y7 (ups [.join 0 1 (.loop 1 [y2, y3] (ups [.ev (.bin .lss .int y8 y9)]
 (.ite y10 (ups [.join 2 2 (ups [.ev (.bin .add .int y8 y9),
 .ev (.conv .u64 y11),
 .ev (.bin .shr .int y12 (.const (.v (.int .u64 1)))),
 .ev (.conv .i64 y13),
 .ev (.eaddr 1 y0 y14),
 .ev (.ld false 1 y5 y15),
 .ev (.eaddr 1 y0 y1),
 .ev (.ld false 1 y5 y17),
 .callv y4 y5 [y16, y18] [true],
 .ev (.bin .lss .int y19 (ki 0)),
 .join 3 2 (.ite y20 (ups [.ev (.bin .add .int y14 (ki 1))]
 (.jump 3 [y21, y9] [])) (.jump 3 [y8, y14] []))]
 (.jump 2 [y21, y22] []))]
 (.jump 1 [y11, y12] [])) (.jump 0 [y8] [])))),
 .join 0 1 (.loop 1 [y1, y5] (ups [.ev (.bin .sub .int y8 (ki 1)),
 .ev (.bin .lss .int y9 y11)]
 (.ite y12 (ups [.join 2 1 (ups [.ev (.bin .add .int y9 (ki 1)),
 .ev (.bin .add .int y9 (ki 1)),
 .ev (.eaddr 1 y0 y14),
 .ev (.ld false 1 y10 y15),
 .ev (.eaddr 1 y0 y9),
 .ev (.ld false 1 y10 y17),
 .ev (.eaddr 1 y0 y9),
 .ev (.sto 1 y10 y19 y16),
 .ev (.eaddr 1 y0 y13),
 .ev (.sto 1 y20 y21 y18)]
 (.jump 2 [y22] [])),
 .ev (.bin .add .int y9 (ki 1))]
 (.jump 1 [y14, y13] [])) (.jump 0 [y10] []))))]
 (.ret (.tcons .tnil (.tcons y9 .tnil)))) (ups [.ev (.bin .sub .int y3 y2),
 .ev (.bin .eql .int y8 (ki 1))]
 (.ite y9 (ups [.join 0 1 (.loop 1 [y1, y2] (ups [.ev (.bin .lss .int y10 y11)]
 (.ite y12 (ups [.join 2 2 (ups [.ev (.bin .add .int y10 y11),
 .ev (.conv .u64 y13),
 .ev (.bin .shr .int y14 (.const (.v (.int .u64 1)))),
 .ev (.conv .i64 y15),
 .ev (.eaddr 1 y0 y2),
 .ev (.ld false 1 y5 y17),
 .ev (.eaddr 1 y0 y16),
 .ev (.ld false 1 y5 y19),
 .callv y4 y5 [y18, y20] [true],
 .ev (.bin .lss .int y21 (ki 0)),
 .ev (.un .not y22),
 .join 3 2 (.ite y23 (ups [.ev (.bin .add .int y16 (ki 1))]
 (.jump 3 [y24, y11] [])) (.jump 3 [y10, y16] []))]
 (.jump 2 [y24, y25] []))]
 (.jump 1 [y13, y14] [])) (.jump 0 [y10] [])))),
 .join 0 1 (.loop 1 [y2, y5] (ups [.ev (.bin .gtr .int y11 y10)]
 (.ite y13 (ups [.join 2 1 (ups [.ev (.bin .sub .int y11 (ki 1)),
 .ev (.bin .sub .int y11 (ki 1)),
 .ev (.eaddr 1 y0 y15),
 .ev (.ld false 1 y12 y16),
 .ev (.eaddr 1 y0 y11),
 .ev (.ld false 1 y12 y18),
 .ev (.eaddr 1 y0 y11),
 .ev (.sto 1 y12 y20 y17),
 .ev (.eaddr 1 y0 y14),
 .ev (.sto 1 y21 y22 y19)]
 (.jump 2 [y23] [])),
 .ev (.bin .sub .int y11 (ki 1))]
 (.jump 1 [y15, y14] [])) (.jump 0 [y12] []))))]
 (.ret (.tcons .tnil (.tcons y11 .tnil)))) (ups [.ev (.bin .add .int y1 y3),
 .ev (.conv .u64 y10),
 .ev (.bin .shr .int y11 (.const (.v (.int .u64 1)))),
 .ev (.conv .i64 y12),
 .ev (.bin .add .int y13 y2),
 .ev (.bin .gtr .int y2 y13),
 .join 0 2 (.ite y15 (ups [.ev (.bin .sub .int y14 y3)]
 (.jump 0 [y16, y13] [])) (.jump 0 [y1, y2] [])),
 .ev (.bin .sub .int y14 (ki 1)),
 .join 0 1 (.loop 1 [y16, y17] (ups [.ev (.bin .lss .int y19 y20)]
 (.ite y21 (ups [.join 2 2 (ups [.ev (.bin .add .int y19 y20),
 .ev (.conv .u64 y22),
 .ev (.bin .shr .int y23 (.const (.v (.int .u64 1)))),
 .ev (.conv .i64 y24),
 .ev (.bin .sub .int y18 y25),
 .ev (.eaddr 1 y0 y26),
 .ev (.ld false 1 y5 y27),
 .ev (.eaddr 1 y0 y25),
 .ev (.ld false 1 y5 y29),
 .callv y4 y5 [y28, y30] [true],
 .ev (.bin .lss .int y31 (ki 0)),
 .ev (.un .not y32),
 .join 3 2 (.ite y33 (ups [.ev (.bin .add .int y25 (ki 1))]
 (.jump 3 [y34, y20] [])) (.jump 3 [y19, y25] []))]
 (.jump 2 [y34, y35] []))]
 (.jump 1 [y22, y23] [])) (.jump 0 [y19] [])))),
 .ev (.bin .sub .int y14 y19),
 .ev (.bin .lss .int y19 y2),
 .chain false y21 (ups [.ev (.bin .lss .int y2 y20)]
 (.ret y22)),
 .join 0 1 (.ite y22 (ups [.wcall 131 y5 [y0, y19, y2, y20, y4] []]
 (.jump 0 [y24] [])) (.jump 0 [y5] [])),
 .ev (.bin .lss .int y1 y19),
 .chain false y24 (ups [.ev (.bin .lss .int y19 y13)]
 (.ret y25)),
 .join 0 1 (.ite y25 (ups [.wcall 129 y23 [y0, y1, y19, y13, y4] []]
 (.jump 0 [y27] [])) (.jump 0 [y23] [])),
 .ev (.bin .lss .int y13 y20),
 .chain false y27 (ups [.ev (.bin .lss .int y20 y3)]
 (.ret y28)),
 .join 0 1 (.ite y28 (ups [.wcall 129 y26 [y0, y13, y20, y3, y4] []]
 (.jump 0 [y30] [])) (.jump 0 [y26] []))]
 (.ret (.tcons .tnil (.tcons y29 .tnil))))))))
theorem ku129 : UOk Try.prog 129 .plain (autoCfg false WRS PAN [] [] Try.f129) [true, true, true, true, true] u129 := UOk.plain Try.func129 (by kernel_rfl) (by kernel_rfl)

noncomputable def u131 : U := (ups [.ev (.bin .sub .int y2 y1),
 .ev (.bin .sub .int y3 y2),
 .join 0 2 (.loop 1 [y6, y7, y5] (ups [.ev (.bin .neq .int y8 y9)]
 (.ite y11 (ups [.join 2 3 (ups [.ev (.bin .gtr .int y8 y9),
 .join 3 3 (.ite y12 (ups [.ev (.bin .sub .int y2 y8),
 .wcall 132 y10 [y0, y13, y2, y9, y4] [],
 .ev (.bin .sub .int y8 y9)]
 (.jump 3 [y16, y9, y15] [])) (ups [.ev (.bin .sub .int y2 y8),
 .ev (.bin .add .int y2 y9),
 .ev (.bin .sub .int y14 y8),
 .wcall 132 y10 [y0, y13, y15, y8, y4] [],
 .ev (.bin .sub .int y9 y8)]
 (.jump 3 [y8, y18, y17] [])))]
 (.jump 2 [y13, y14, y15] []))]
 (.jump 1 [y12, y13, y14] [])) (.jump 0 [y8, y10] [])))),
 .ev (.bin .sub .int y2 y8),
 .wcall 132 y9 [y0, y10, y2, y8, y4] []]
 (.ret (.tcons .tnil (.tcons y12 .tnil))))
theorem ku131 : UOk Try.prog 131 .plain (autoCfg false WRS PAN [] [] Try.f131) [true, true, true, true, true] u131 := UOk.plain Try.func131 (by kernel_rfl) (by kernel_rfl)

noncomputable def u132 : U := (ups [.join 0 1 (.loop 1 [(ki 0), y5] (ups [.ev (.bin .lss .int y6 y3)]
 (.ite y8 (ups [.join 2 1 (ups [.ev (.bin .add .int y1 y6),
 .ev (.bin .add .int y2 y6),
 .ev (.bin .add .int y2 y6),
 .ev (.eaddr 1 y0 y11),
 .ev (.ld false 1 y7 y12),
 .ev (.bin .add .int y1 y6),
 .ev (.eaddr 1 y0 y14),
 .ev (.ld false 1 y7 y15),
 .ev (.eaddr 1 y0 y9),
 .ev (.sto 1 y7 y17 y13),
 .ev (.eaddr 1 y0 y10),
 .ev (.sto 1 y18 y19 y16)]
 (.jump 2 [y20] [])),
 .ev (.bin .add .int y6 (ki 1))]
 (.jump 1 [y10, y9] [])) (.jump 0 [y7] []))))]
 (.ret (.tcons .tnil (.tcons y6 .tnil))))
theorem ku132 : UOk Try.prog 132 .plain (autoCfg false WRS PAN [] [] Try.f132) [true, true, true, true, true] u132 := UOk.plain Try.func132 (by kernel_rfl) (by kernel_rfl)

noncomputable def u122 : U := (ups [.join 0 3 (.loop 1 [(ki 0), (ki 20), y3] (ups [.ev (.bin .leq .int y5 y1)]
 (.ite y7 (ups [.join 2 2 (ups [.wcall 128 y6 [y0, y4, y5, y2] [],
 .ev (.bin .add .int y5 (ki 20))]
 (.jump 2 [y10, y9] []))]
 (.jump 1 [y5, y8, y9] [])) (.jump 0 [y4, y5, y6] [])))),
 .wcall 128 y6 [y0, y4, y1, y2] [],
 .join 0 1 (.loop 1 [(ki 20), y4, y5, y8] (ups [.ev (.bin .lss .int y9 y1)]
 (.ite y13 (ups [.join 2 4 (ups [.ev (.bin .mul .int (ki 2) y9),
 .join 3 5 (.loop 4 [(ki 0), y14, y12] (ups [.ev (.bin .leq .int y16 y1)]
 (.ite y18 (ups [.join 5 2 (ups [.ev (.bin .add .int y15 y9),
 .wcall 129 y17 [y0, y15, y19, y16, y2] [],
 .ev (.bin .mul .int (ki 2) y9),
 .ev (.bin .add .int y16 y22)]
 (.jump 5 [y23, y21] []))]
 (.jump 4 [y16, y19, y20] [])) (.jump 3 [y15, y16, y16, y18, y17] [])))),
 .ev (.bin .add .int y15 y9),
 .ev (.bin .lss .int y20 y1),
 .join 3 1 (.ite y21 (ups [.wcall 129 y19 [y0, y15, y20, y1, y2] []]
 (.jump 3 [y23] [])) (.jump 3 [y19] [])),
 .ev (.bin .mul .int y9 (ki 2))]
 (.jump 2 [y23, y15, y16, y22] []))]
 (.jump 1 [y14, y15, y16, y17] [])) (.jump 0 [y12] []))))]
 (.ret (.tcons .tnil (.tcons y9 .tnil))))
theorem ku122 : UOk Try.prog 122 .plain (autoCfg false WRS PAN [] [] Try.f122) [true, true, true] u122 := UOk.plain Try.func122 (by kernel_rfl) (by kernel_rfl)

noncomputable def u108 : U := (ups [.ev (.lenL y0),
 .wcall 122 y2 [y0, y3, y1] []]
 (.ret (.tcons .tnil (.tcons y5 .tnil))))
theorem ku108 : UOk Try.prog 108 .plain (autoCfg false WRS PAN [] [] Try.f108) [true, true] u108 := UOk.plain Try.func108 (by kernel_rfl) (by kernel_rfl)

noncomputable def u92 : U := (ups [.ev (.mkptr (.cons (.scal y0) .nil)),
 .ev (.mkptr (.cons (.scal y1) .nil)),
 .ev (.ld false 1 y2 y3),
 .ev (.lenL y5),
 .ev (.newv 3 1 y2 (.rep 8 y6 (.v (.int .i64 0)))),
 .ev (.lenL (.fstsl y2 (.rep 8 y6 (.v (.int .i64 0))))),
 .join 0 1 (.loop 1 [(ki 0), y7] (ups [.ev (.bin .lss .int y9 y8)]
 (.ite y11 (ups [.join 2 1 (ups [.ev (.eaddr 1 (.fstsl y2 (.rep 8 y6 (.v (.int .i64 0)))) y9),
 .ev (.sto 1 y10 y12 y9)]
 (.jump 2 [y13] [])),
 .ev (.bin .add .int y9 (ki 1))]
 (.jump 1 [y13, y12] [])) (.jump 0 [y10] [])))),
 .ev (.mkfn 109 .tnil (.tcons y4 (.tcons y3 .tnil))),
 .wcall 108 y9 [(.fstsl y2 (.rep 8 y6 (.v (.int .i64 0)))), y10] []]
 (.ret (.tcons (.fstsl y2 (.rep 8 y6 (.v (.int .i64 0)))) (.tcons y12 .tnil))))
theorem ku92 : UOk Try.prog 92 .plain (autoCfg false WRS PAN [9] [] Try.f92) [true, true] u92 := UOk.plain Try.func92 (by kernel_rfl) (by kernel_rfl)

noncomputable def u54 : U := (ups [.ev (.lenL y1),
 .join 0 1 (.loop 1 [(ki 0), (ki 0)] (ups [.ev (.bin .lss .int y5 y3)]
 (.ite y6 (ups [.join 2 1 (ups [.ev (.eaddr 1 y1 y5),
 .ev (.ld false 1 y2 y7),
 .ev (.bin .add .int y4 y8)]
 (.jump 2 [y9] [])),
 .ev (.bin .add .int y5 (ki 1))]
 (.jump 1 [y7, y8] [])) (.jump 0 [y4] [])))),
 .ev (.lenL y1),
 .ev (.rep 8 y5 (.v (.int .i64 0))),
 .ev (.lenL y1),
 .ev (.rep 8 y7 (.v (.int .i64 0))),
 .ev (.lenL y1),
 .join 0 3 (.loop 1 [y0, (ki 0), y6, y8] (ups [.ev (.bin .lss .int y11 y9)]
 (.ite y14 (ups [.join 2 3 (ups [.ev (.eaddr 1 y1 y11),
 .ev (.ld false 1 y2 y15),
 .ev (.bin .mul .int y0 y16),
 .ev (.bin .quo .int y17 y4),
 .ev (.bin .mul .int y0 y16),
 .ev (.bin .rem .int y19 y4),
 .ev (.idx y12 y11),
 .ev (.set y12 y11 0 y18),
 .ev (.idx y13 y11),
 .ev (.set y13 y11 0 y20),
 .ev (.idx y22 y11),
 .ev (.cell 0 (.idx y22 y11)),
 .ev (.bin .sub .int y10 y26)]
 (.jump 2 [y27, y22, y24] [])),
 .ev (.bin .add .int y11 (ki 1))]
 (.jump 1 [y15, y18, y16, y17] [])) (.jump 0 [y10, y12, y13] [])))),
 .wcall 92 y2 [y12, (.const (.fn 93 [] []))] [true],
 .ev (.sub 1 y13 (ki 0) y10),
 .ev (.lenL y15),
 .join 0 1 (.loop 1 [(ki 0), y11] (ups [.ev (.bin .lss .int y17 y16)]
 (.ite y19 (ups [.join 2 1 (ups [.ev (.eaddr 1 y15 y17),
 .ev (.ld false 1 y14 y20),
 .ev (.idx y18 y21),
 .ev (.cell 0 (.idx y18 y21)),
 .ev (.bin .add .int y23 (ki 1)),
 .ev (.idx y18 y21),
 .ev (.set y18 y21 0 y24)]
 (.jump 2 [y26] [])),
 .ev (.bin .add .int y17 (ki 1))]
 (.jump 1 [y21, y20] [])) (.jump 0 [y18] []))))]
 (.ret (.tcons y17 (.tcons y14 .tnil))))
theorem ku54 : UOk Try.prog 54 .plain (autoCfg false WRS PAN [] [(15,30)] Try.f54) [true, true] u54 := UOk.plain Try.func54 (by kernel_rfl) (by kernel_rfl)

noncomputable def u109 : U := (ups [.ev (.ld false 1 y4 y2),
 .ev (.ld false 1 y4 y3),
 .ev (.eaddr 1 y6 y0),
 .ev (.ld false 1 y4 y7),
 .ev (.ld false 1 y4 y3),
 .ev (.eaddr 1 y9 y1),
 .ev (.ld false 1 y4 y10),
 .callv y5 y4 [y8, y11] [true]]
 (.ret (.tcons y12 (.tcons y4 .tnil))))
theorem ku109 : UOk Try.prog 109 .plain (autoCfg true WRA PAN [] [] Try.f109) [true, true, true, true] u109 := UOk.plain Try.func109 (by kernel_rfl) (by kernel_rfl)

noncomputable def u93 : U := (ups [.call 83 y2 [y1, y0] [true]]
 (.ret (.tcons y3 (.tcons y2 .tnil))))
theorem ku93 : UOk Try.prog 93 .plain (autoCfg true WRA PAN [] [] Try.f93) [true, true] u93 := UOk.plain Try.func93 (by kernel_rfl) (by kernel_rfl)

noncomputable def u17 : U := (ups [.call 52 y2 [y0, (ki 0), (ki 1000000000000)] [true],
 .ev (.un .not y3),
 .chain true y4 (ups [.call 53 y2 [y1] [true],
 .ev (.un .not y5)]
 (.ret y6))]
 (.ite y5 (.ret (.tcons (.tcons (.const (.lst [])) (.tcons (ki 2) .tnil)) (.tcons y2 .tnil))) (ups [.call 54 y2 [y0, y1] [true]]
 (.ret (.tcons (.tcons y6 (.tcons (ki 0) .tnil)) (.tcons y2 .tnil))))))
theorem ku17 : UOk Try.prog 17 .plain (autoCfg true WRA PAN [] [] Try.f17) [true, true] u17 := UOk.plain Try.func17 (by kernel_rfl) (by kernel_rfl)

noncomputable def u36 : U := (ups [.chk (.aggN 3 y0),
 .call 52 y2 [(.cell 0 y0), (ki 0), (ki 1000000000)] [true],
 .ev (.un .not y3),
 .chain true y4 (ups [.chk (.cell 1 y0),
 .call 52 y2 [(.cell 1 y0), (ki 0), (ki 1000000000000)] [true],
 .ev (.un .not y5)]
 (.ret y6)),
 .chain true y5 (ups [.chk (.cell 2 y0),
 .call 53 y2 [(.cell 2 y0)] [true],
 .ev (.un .not y6)]
 (.ret y7)),
 .chain true y6 (ups [.ev (.lenL y1),
 .ev (.bin .gtr .int y7 (ki 1000))]
 (.ret y8)),
 .chain true y7 (ups [.call 79 y2 [y1, (.const (.fn 80 [] []))] [true]]
 (.ret y8))]
 (.ite y8 (.ret (.tcons (.tcons (.const (.lst [])) (.tcons (.const (.lst [])) (.tcons (ki 2) .tnil))) (.tcons y2 .tnil))) (ups [.ev (.lenL y1),
 .join 0 2 (.loop 1 [(.const (.lst [])), (.cell 1 y0), (ki 0)] (ups [.ev (.bin .lss .int y12 y9)]
 (.ite y13 (ups [.join 2 2 (ups [.ev (.eaddr 1 y1 y12),
 .ev (.ld false 1 y2 y14),
 .ev (.bin .sub .int y15 (.cell 0 y0)),
 .ev (.mm true (ki 0) y16),
 .ev (.mm false y11 y17),
 .ev (.lcons (.scal y18) (.const (.lst []))),
 .ev (.app 1 8 y10 y19),
 .ev (.bin .sub .int y11 y18)]
 (.jump 2 [y20, y21] [])),
 .ev (.bin .add .int y12 (ki 1))]
 (.jump 1 [y14, y15, y16] [])) (.jump 0 [y10, y11] [])))),
 .ev (.bin .sub .int (.cell 1 y0) y11),
 .call 54 y2 [y12, (.cell 2 y0)] [true]]
 (.ret (.tcons (.tcons y10 (.tcons y13 (.tcons (ki 0) .tnil))) (.tcons y2 .tnil))))))
theorem ku36 : UOk Try.prog 36 .plain (autoCfg true WRA PAN [] [] Try.f36) [false, true] u36 := UOk.plain Try.func36 (by kernel_rfl) (by kernel_rfl)

noncomputable def u53 : U := (ups [.ev (.lenL y0),
 .call 52 y1 [y2, (ki 1), (ki 100)] [true],
 .chain false y3 (ups [.call 79 y1 [y0, (.const (.fn 90 [] []))] [true],
 .ev (.un .not y4)]
 (.ret y5)),
 .chain false y4 (ups [.call 91 y1 [y0] [true],
 .ev (.bin .gtr .int y5 (ki 0))]
 (.ret y6))]
 (.ret (.tcons y5 (.tcons y1 .tnil))))
theorem ku53 : UOk Try.prog 53 .plain (autoCfg true WRA PAN [] [] Try.f53) [true] u53 := UOk.plain Try.func53 (by kernel_rfl) (by kernel_rfl)

noncomputable def u90 : U := (ups [.call 52 y1 [y0, (ki 0), (ki 1000000)] [true],
 .ev (.un .not y2)]
 (.ret (.tcons y3 (.tcons y1 .tnil))))
theorem ku90 : UOk Try.prog 90 .plain (autoCfg true WRA PAN [] [] Try.f90) [true] u90 := UOk.plain Try.func90 (by kernel_rfl) (by kernel_rfl)

noncomputable def u91 : U := (ups [.ev (.lenL y0),
 .ev (.bin .lss .int y2 (ki 1)),
 .join 0 0 (.ite y3 (.pan (.m4 .isifc (.ifc 9 (.const (.v (.string ⟨#[115, 108, 105, 99, 101, 115, 46, 77, 97, 120, 58, 32, 101, 109, 112, 116, 121, 32, 108, 105, 115, 116]⟩)))) .nil .nil .nil) y1 [] []) (.jump 0 [] [])),
 .ev (.eaddr 1 y0 (ki 0)),
 .ev (.ld false 1 y1 y4),
 .join 0 1 (.loop 1 [y5, (ki 1)] (ups [.ev (.lenL y0),
 .ev (.bin .lss .int y7 y8)]
 (.ite y9 (ups [.join 2 1 (ups [.ev (.eaddr 1 y0 y7),
 .ev (.ld false 1 y1 y10),
 .ev (.mm true y6 y11)]
 (.jump 2 [y12] [])),
 .ev (.bin .add .int y7 (ki 1))]
 (.jump 1 [y10, y11] [])) (.jump 0 [y6] []))))]
 (.ret (.tcons y6 (.tcons y1 .tnil))))
theorem ku91 : UOk Try.prog 91 .plain (autoCfg true WRA PAN [] [] Try.f91) [true] u91 := UOk.plain Try.func91 (by kernel_rfl) (by kernel_rfl)

noncomputable def u79 : U := (ups [.call 103 y2 [y0, y1] [true],
 .ev (.bin .geq .int y3 (ki 0))]
 (.ret (.tcons y4 (.tcons y2 .tnil))))
theorem ku79 : UOk Try.prog 79 .plain (autoCfg true WRA PAN [] [] Try.f79) [true, true] u79 := UOk.plain Try.func79 (by kernel_rfl) (by kernel_rfl)

noncomputable def u103 : U := (ups [.ev (.lenL y0),
 .join 0 0 (.loop 1 [(ki 0)] (ups [.ev (.bin .lss .int y4 y3)]
 (.ite y5 (ups [.join 2 0 (ups [.ev (.eaddr 1 y0 y4),
 .ev (.ld false 1 y2 y6),
 .callv y1 y2 [y7] [true]]
 (.ite y8 (.ret (.tcons y4 (.tcons y2 .tnil))) (.jump 2 [] []))),
 .ev (.bin .add .int y4 (ki 1))]
 (.jump 1 [y6] [])) (.jump 0 [] []))))]
 (.ret (.tcons (ki (-1)) (.tcons y2 .tnil))))
theorem ku103 : UOk Try.prog 103 .plain (autoCfg true WRA PAN [] [] Try.f103) [true, true] u103 := UOk.plain Try.func103 (by kernel_rfl) (by kernel_rfl)

noncomputable def u80 : U := (ups [.call 52 y1 [y0, (ki 0), (ki 1000000000)] [true],
 .ev (.un .not y2)]
 (.ret (.tcons y3 (.tcons y1 .tnil))))
theorem ku80 : UOk Try.prog 80 .plain (autoCfg true WRA PAN [] [] Try.f80) [true] u80 := UOk.plain Try.func80 (by kernel_rfl) (by kernel_rfl)

noncomputable def u3 : U := (ups [.ev (.lenL y1),
 .ev (.bin .gtr .int y3 (ki 110))]
 (.ite y4 (ups [.call 16 y2 [] [true]]
 (.ret (.tcons y5 (.tcons y2 .tnil)))) (ups [.call 17 y2 [y0, y1] [true, true],
 .ev (.bin .lss .int y0 (ki 0)),
 .chain true y6 (ups [.ev (.bin .gtr .int y0 (ki 1000000000000))]
 (.ret y7)),
 .chain true y7 (ups [.call 18 y2 [y1] [true],
 .ev (.un .not y8)]
 (.ret y9))]
 (.ite y8 (ups [.ev (.bin .eql .int (.tget 1 y5) (ki 2)),
 .chain false y9 (ups [.chk (.tget 0 y5),
 .ev (.lenL (.tget 0 y5)),
 .ev (.bin .eql .int y10 (ki 0))]
 (.ret y11)),
 .chain false y10 (ups [.call 16 y2 [] [true]]
 (.ret y11))]
 (.ret (.tcons y11 (.tcons y2 .tnil)))) (ups [.ev (.bin .neq .int (.tget 1 y5) (ki 0)),
 .chain true y9 (ups [.chk (.tget 0 y5),
 .call 20 y2 [y0, y1] [true],
 .call 19 y2 [(.tget 0 y5), y10] [true],
 .ev (.un .not y11)]
 (.ret y12))]
 (.ite y10 (.ret (.tcons (kb false) (.tcons y2 .tnil))) (ups [.join 0 2 (.loop 1 [(ki 0), (ki 0), (ki 0)] (ups [.ev (.lenL (.tget 0 y5)),
 .ev (.bin .lss .int y13 y14)]
 (.ite y15 (ups [.join 2 2 (ups [.ev (.eaddr 1 (.tget 0 y5) y13),
 .ev (.ld false 1 y2 y16),
 .ev (.bin .add .int y11 y17),
 .ev (.eaddr 1 y1 y13),
 .ev (.ld false 1 y2 y19),
 .ev (.bin .add .int y12 y20)]
 (.jump 2 [y18, y21] [])),
 .ev (.bin .add .int y13 (ki 1))]
 (.jump 1 [y16, y17, y18] [])) (.jump 0 [y11, y12] [])))),
 .join 0 0 (.loop 1 [(ki 0)] (ups [.ev (.lenL (.tget 0 y5)),
 .ev (.bin .lss .int y13 y14),
 .chain false y15 (ups [.ev (.bin .leq .int y0 (ki 1000000))]
 (.ret y16))]
 (.ite y16 (ups [.join 2 0 (ups [.ev (.eaddr 1 (.tget 0 y5) y13),
 .ev (.ld false 1 y2 y17),
 .ev (.bin .sub .int y18 (ki 1)),
 .ev (.bin .mul .int y19 y12),
 .ev (.eaddr 1 y1 y13),
 .ev (.ld false 1 y2 y21),
 .ev (.bin .mul .int y0 y22),
 .ev (.bin .geq .int y20 y23),
 .chain true y24 (ups [.chk (.tget 0 y5),
 .ev (.eaddr 1 (.tget 0 y5) y13),
 .ev (.ld false 1 y2 y25),
 .ev (.bin .add .int y26 (ki 1)),
 .ev (.bin .mul .int y27 y12),
 .ev (.eaddr 1 y1 y13),
 .ev (.ld false 1 y2 y29),
 .ev (.bin .mul .int y0 y30),
 .ev (.bin .leq .int y28 y31)]
 (.ret y32))]
 (.ite y25 (.ret (.tcons (kb false) (.tcons y2 .tnil))) (.jump 2 [] []))),
 .ev (.bin .add .int y13 (ki 1))]
 (.jump 1 [y17] [])) (.jump 0 [] [])))),
 .ev (.bin .eql .int y11 y0),
 .chain false y13 (ups [.call 16 y2 [] [true]]
 (.ret y14))]
 (.ret (.tcons y14 (.tcons y2 .tnil))))))))))
theorem ku3 : UOk Try.prog 3 .plain (autoCfg true WRA PAN [] [] Try.f3) [true, true] u3 := UOk.plain Try.func3 (by kernel_rfl) (by kernel_rfl)

noncomputable def u6 : U := (ups [.chk (.aggN 3 y0),
 .ev (.lenL y1),
 .ev (.bin .gtr .int y3 (ki 30)),
 .chain false y4 (ups [.ev (.lenL y1),
 .ev (.bin .leq .int y5 (ki 1000))]
 (.ret y6)),
 .chain true y5 (ups [.ev (.lenL y1),
 .ev (.bin .gtr .int y6 (ki 1100))]
 (.ret y7)),
 .chain true y6 (ups [.chk (.cell 2 y0),
 .ev (.lenL (.cell 2 y0)),
 .ev (.bin .gtr .int y7 (ki 110))]
 (.ret y8))]
 (.ite y7 (ups [.call 16 y2 [] [true]]
 (.ret (.tcons y8 (.tcons y2 .tnil)))) (ups [.call 36 y2 [(agc 3 y0), y1] [true, true, true],
 .call 37 y2 [(agc 3 y0)] [true],
 .chain false y9 (ups [.ev (.lenL y1),
 .ev (.bin .leq .int y10 (ki 1000))]
 (.ret y11)),
 .join 0 1 (.loop 1 [y10, (ki 0)] (ups [.ev (.lenL y1),
 .ev (.bin .lss .int y12 y13)]
 (.ite y14 (ups [.join 2 1 (ups [.chain false y11 (ups [.ev (.eaddr 1 y1 y12),
 .ev (.ld false 1 y2 y15),
 .ev (.bin .geq .int y16 (ki 0))]
 (.ret y17)),
 .chain false y15 (ups [.ev (.eaddr 1 y1 y12),
 .ev (.ld false 1 y2 y16),
 .ev (.bin .leq .int y17 (ki 1000000000))]
 (.ret y18))]
 (.jump 2 [y16] [])),
 .ev (.bin .add .int y12 (ki 1))]
 (.jump 1 [y15, y16] [])) (.jump 0 [y11] [])))),
 .ev (.un .not y11)]
 (.ite y12 (ups [.ev (.bin .eql .int (.tget 2 y8) (ki 2)),
 .chain false y13 (ups [.chk (.tget 0 y8),
 .ev (.lenL (.tget 0 y8)),
 .chk (.tget 1 y8),
 .ev (.lenL (.tget 1 y8)),
 .ev (.bin .add .int y14 y15),
 .ev (.bin .eql .int y16 (ki 0))]
 (.ret y17)),
 .chain false y14 (ups [.call 16 y2 [] [true]]
 (.ret y15))]
 (.ret (.tcons y15 (.tcons y2 .tnil)))) (ups [.call 38 y2 [(agc 3 y0), y1] [true, true],
 .ev (.bin .neq .int (.tget 2 y8) (ki 0)),
 .chain true y14 (ups [.chk (.tget 0 y8),
 .chk (.tget 0 y13),
 .call 19 y2 [(.tget 0 y8), (.tget 0 y13)] [true],
 .ev (.un .not y15)]
 (.ret y16)),
 .chain true y15 (ups [.chk (.tget 1 y8),
 .chk (.tget 1 y13),
 .call 19 y2 [(.tget 1 y8), (.tget 1 y13)] [true],
 .ev (.un .not y16)]
 (.ret y17))]
 (.ite y16 (.ret (.tcons (kb false) (.tcons y2 .tnil))) (ups [.join 0 1 (.loop 1 [(ki 0), (ki 0)] (ups [.ev (.lenL (.tget 0 y8)),
 .ev (.bin .lss .int y18 y19)]
 (.ite y20 (ups [.join 2 1 (ups [.ev (.eaddr 1 (.tget 0 y8) y18),
 .ev (.ld false 1 y2 y21),
 .ev (.bin .add .int y17 y22),
 .ev (.eaddr 1 (.tget 0 y8) y18),
 .ev (.ld false 1 y2 y24),
 .ev (.bin .lss .int y25 (ki 0)),
 .chain true y26 (ups [.chk (.tget 0 y8),
 .ev (.eaddr 1 (.tget 0 y8) y18),
 .ev (.ld false 1 y2 y27),
 .ev (.eaddr 1 y1 y18),
 .ev (.ld false 1 y2 y29),
 .ev (.bin .gtr .int y28 y30)]
 (.ret y31))]
 (.ite y27 (.ret (.tcons (kb false) (.tcons y2 .tnil))) (.jump 2 [y23] []))),
 .ev (.bin .add .int y18 (ki 1))]
 (.jump 1 [y21, y22] [])) (.jump 0 [y17] [])))),
 .join 0 1 (.loop 1 [y17, (ki 0)] (ups [.ev (.lenL (.tget 1 y8)),
 .ev (.bin .lss .int y19 y20)]
 (.ite y21 (ups [.join 2 1 (ups [.ev (.eaddr 1 (.tget 1 y8) y19),
 .ev (.ld false 1 y2 y22),
 .ev (.bin .sub .int y18 y23)]
 (.jump 2 [y24] [])),
 .ev (.bin .add .int y19 (ki 1))]
 (.jump 1 [y22, y23] [])) (.jump 0 [y18] [])))),
 .ev (.bin .eql .int y18 (ki 0)),
 .chain false y19 (ups [.call 16 y2 [] [true]]
 (.ret y20))]
 (.ret (.tcons y20 (.tcons y2 .tnil))))))))))
theorem ku6 : UOk Try.prog 6 .plain (autoCfg true WRA PAN [] [] Try.f6) [false, true] u6 := UOk.plain Try.func6 (by kernel_rfl) (by kernel_rfl)

end Go.Am.Ap

/-
 The specification's functions, as texts.
-/
namespace Go.Am.Ap
open Go.Proofs

noncomputable def u18 : U := (ups [.join 0 1 (.loop 1 [(ki 0), (ki 0)] (ups [.ev (.lenL y0),
 .ev (.bin .lss .int y3 y4)]
 (.ite y5 (ups [.join 2 1 (ups [.ev (.eaddr 1 y0 y3),
 .ev (.ld false 1 y1 y6),
 .call 55 y1 [y7, (ki 0), (ki 1000000)] [true],
 .ev (.un .not y8)]
 (.ite y9 (.ret (.tcons (kb false) (.tcons y1 .tnil))) (ups [.ev (.eaddr 1 y0 y3),
 .ev (.ld false 1 y1 y10),
 .ev (.bin .add .int y2 y11)]
 (.jump 2 [y12] [])))),
 .ev (.bin .add .int y3 (ki 1))]
 (.jump 1 [y6, y7] [])) (.jump 0 [y2] [])))),
 .ev (.lenL y0),
 .call 55 y1 [y3, (ki 1), (ki 100)] [true],
 .chain false y4 (ups [.ev (.bin .gtr .int y2 (ki 0))]
 (.ret y5))]
 (.ret (.tcons y5 (.tcons y1 .tnil))))
theorem ku18 : UOk Try.prog 18 .plain (autoCfg true WRA PAN [] [] Try.f18) [true] u18 := UOk.plain Try.func18 (by kernel_rfl) (by kernel_rfl)

noncomputable def u19 : U := (ups [.ev (.lenL y0),
 .ev (.lenL y1),
 .ev (.bin .neq .int y3 y4)]
 (.ite y5 (.ret (.tcons (kb false) (.tcons y2 .tnil))) (ups [.join 0 0 (.loop 1 [(ki 0)] (ups [.ev (.lenL y0),
 .ev (.bin .lss .int y6 y7)]
 (.ite y8 (ups [.join 2 0 (ups [.ev (.eaddr 1 y0 y6),
 .ev (.ld false 1 y2 y9),
 .ev (.eaddr 1 y1 y6),
 .ev (.ld false 1 y2 y11),
 .ev (.bin .neq .int y10 y12)]
 (.ite y13 (.ret (.tcons (kb false) (.tcons y2 .tnil))) (.jump 2 [] []))),
 .ev (.bin .add .int y6 (ki 1))]
 (.jump 1 [y9] [])) (.jump 0 [] []))))]
 (.ret (.tcons (kb true) (.tcons y2 .tnil))))))
theorem ku19 : UOk Try.prog 19 .plain (autoCfg true WRA PAN [] [] Try.f19) [true, true] u19 := UOk.plain Try.func19 (by kernel_rfl) (by kernel_rfl)

noncomputable def u20 : U := (ups [.join 0 1 (.loop 1 [(ki 0), (ki 0)] (ups [.ev (.lenL y1),
 .ev (.bin .lss .int y4 y5)]
 (.ite y6 (ups [.join 2 1 (ups [.ev (.eaddr 1 y1 y4),
 .ev (.ld false 1 y2 y7),
 .ev (.bin .add .int y3 y8)]
 (.jump 2 [y9] [])),
 .ev (.bin .add .int y4 (ki 1))]
 (.jump 1 [y7, y8] [])) (.jump 0 [y3] [])))),
 .ev (.lenL y1),
 .ev (.rep 8 y4 (.v (.int .i64 0))),
 .ev (.lenL y1),
 .ev (.rep 8 y6 (.v (.int .i64 0))),
 .join 0 3 (.loop 1 [y0, (ki 0), y5, y7] (ups [.ev (.lenL y1),
 .ev (.bin .lss .int y9 y12)]
 (.ite y13 (ups [.join 2 3 (ups [.ev (.bin .quo .int y0 y3),
 .ev (.eaddr 1 y1 y9),
 .ev (.ld false 1 y2 y15),
 .ev (.bin .mul .int y14 y16),
 .ev (.bin .rem .int y0 y3),
 .ev (.eaddr 1 y1 y9),
 .ev (.ld false 1 y2 y19),
 .ev (.bin .mul .int y18 y20),
 .ev (.bin .quo .int y21 y3),
 .ev (.bin .add .int y17 y22),
 .ev (.idx y10 y9),
 .ev (.set y10 y9 0 y23),
 .ev (.bin .rem .int y0 y3),
 .ev (.eaddr 1 y1 y9),
 .ev (.ld false 1 y2 y27),
 .ev (.bin .mul .int y26 y28),
 .ev (.bin .rem .int y29 y3),
 .ev (.idx y11 y9),
 .ev (.set y11 y9 0 y30),
 .ev (.idx y25 y9),
 .ev (.cell 0 (.idx y25 y9)),
 .ev (.bin .sub .int y8 y34)]
 (.jump 2 [y35, y25, y32] [])),
 .ev (.bin .add .int y9 (ki 1))]
 (.jump 1 [y14, y17, y15, y16] [])) (.jump 0 [y8, y10, y11] [])))),
 .join 0 1 (.loop 1 [y8, y9, y10] (ups [.ev (.bin .gtr .int y11 (ki 0))]
 (.ite y14 (ups [.join 2 3 (ups [.join 3 5 (.loop 4 [(ki 0), (ki 1)] (ups [.ev (.lenL y1),
 .ev (.bin .lss .int y16 y17)]
 (.ite y18 (ups [.join 5 1 (ups [.ev (.idx y13 y16),
 .ev (.cell 0 (.idx y13 y16)),
 .ev (.idx y13 y15),
 .ev (.cell 0 (.idx y13 y15)),
 .ev (.bin .gtr .int y20 y22),
 .phi y23 [y16] [y15]]
 (.jump 5 [y24] [])),
 .ev (.bin .add .int y16 (ki 1))]
 (.jump 4 [y19, y20] [])) (.jump 3 [y15, y16, y16, y17, y18] [])))),
 .ev (.idx y12 y15),
 .ev (.cell 0 (.idx y12 y15)),
 .ev (.bin .add .int y21 (ki 1)),
 .ev (.idx y12 y15),
 .ev (.set y12 y15 0 y22),
 .ev (.idx y13 y15),
 .ev (.set y13 y15 0 (ki (-1))),
 .ev (.bin .sub .int y11 (ki 1))]
 (.jump 2 [y27, y24, y26] []))]
 (.jump 1 [y15, y16, y17] [])) (.jump 0 [y12] []))))]
 (.ret (.tcons y11 (.tcons y2 .tnil))))
theorem ku20 : UOk Try.prog 20 .plain (autoCfg true WRA PAN [] [] Try.f20) [true, true] u20 := UOk.plain Try.func20 (by kernel_rfl) (by kernel_rfl)

noncomputable def u37 : U := (ups [.chk (.aggN 3 y0),
 .call 55 y1 [(.cell 0 y0), (ki 0), (ki 1000000000)] [true],
 .chain false y2 (ups [.chk (.cell 1 y0),
 .call 55 y1 [(.cell 1 y0), (ki 0), (ki 1000000000000)] [true]]
 (.ret y3)),
 .chain false y3 (ups [.chk (.cell 2 y0),
 .call 18 y1 [(.cell 2 y0)] [true]]
 (.ret y4))]
 (.ret (.tcons y4 (.tcons y1 .tnil))))
theorem ku37 : UOk Try.prog 37 .plain (autoCfg true WRA PAN [] [] Try.f37) [false] u37 := UOk.plain Try.func37 (by kernel_rfl) (by kernel_rfl)

noncomputable def u38 : U := (ups [.chk (.aggN 3 y0),
 .join 0 2 (.loop 1 [(.const (.lst [])), (.cell 1 y0), (ki 0)] (ups [.ev (.lenL y1),
 .ev (.bin .lss .int y5 y6)]
 (.ite y7 (ups [.join 2 2 (ups [.ev (.eaddr 1 y1 y5),
 .ev (.ld false 1 y2 y8),
 .ev (.bin .sub .int y9 (.cell 0 y0)),
 .ev (.mm true (ki 0) y10),
 .ev (.mm false y4 y11),
 .ev (.lcons (.scal y12) (.const (.lst []))),
 .ev (.app 1 8 y3 y13),
 .ev (.bin .sub .int y4 y12)]
 (.jump 2 [y14, y15] [])),
 .ev (.bin .add .int y5 (ki 1))]
 (.jump 1 [y8, y9, y10] [])) (.jump 0 [y3, y4] [])))),
 .ev (.bin .sub .int (.cell 1 y0) y4),
 .call 20 y2 [y5, (.cell 2 y0)] [true]]
 (.ret (.tcons (.tcons y3 (.tcons y6 .tnil)) (.tcons y2 .tnil))))
theorem ku38 : UOk Try.prog 38 .plain (autoCfg true WRA PAN [] [] Try.f38) [false, true] u38 := UOk.plain Try.func38 (by kernel_rfl) (by kernel_rfl)

end Go.Am.Ap

/-
 The court's functions, as texts.
-/
namespace Go.Am.Ap
open Go.Proofs

end Go.Am.Ap

/-
 More functions as texts: the law AppealCodes.
-/
namespace Go.Am.Ap
open Go.Proofs

noncomputable def t55 : T := (wrapBinds [(.ev (.bin .geq .int y0 y1)),
 (.ev (.guard y4 true (.bin .leq .int y0 y2))),
 (.ev (.ite y4 y5 (kb false)))]
 (.ret (.tcons y6 (.tcons y3 .tnil))))
noncomputable def e55 : Entry := { f := 55, kn := .plain, cf := (autoCfg true WRA PAN [] [] Try.f55), own := false, ones := [true, true, true], t := t55 }
theorem ok55 : EntOk Try.prog e55 := EntOk.ofPlain Try.func55 (by kernel_rfl) (by kernel_rfl)

end Go.Am.Ap

/-
 The statements' examples answer as they say.
-/
namespace Go.Am.Ap
open Go.Proofs

theorem known_spec (bs : List D) : FSpecO Try.prog 16 (.st bs) [] (.ret (.v (.bool true))) :=
 (runOrc_ok (n := 200) tabKnown_ok 14).R 16 (.st bs) [] _ (by kernel_rfl)

end Go.Am.Ap

/-
 What the functions of the law AppealCodes answer.
-/
namespace Go.Am.Ap
open Go.Proofs

abbrev I (n : Int) : D := .v (.int .i64 n)
abbrev B (b : Bool) : D := .v (.bool b)

def inR (x lo hi : Int) : Bool := decide (lo ≤ x) && decide (x ≤ hi)

structure Art where
 n : Int
 f : Int
 l : Int
 m : Int

def Art.d (a : Art) : D := .agg [I a.n, I a.f, I a.l, I a.m]

structure Cod where
 cars : Int
 arts : List Art
 window : Int
 second : Int
 fee : Int
 price : Int

def Cod.d (c : Cod) : D := .agg [I c.cars, .lst (c.arts.map Art.d), I c.window, I c.second, I c.fee, I c.price]

def artBad (a : Art) : Bool := !(inR a.n 1 10000) || !(inR a.f 0 10000000) || !(inR a.l 0 a.m) || decide (36000000 < a.m)
def pairBad (b a : Art) : Bool := decide (a.n < b.n) || (decide (a.n = b.n) && decide (a.f ≤ b.f))
def okAt (xs : List Art) (i : Nat) : Bool := match xs[i]? with
 | some a => !artBad a && (match i with | 0 => true | j + 1 => match xs[j]? with | some b => !pairBad b a | none => true)
 | none => true
def headBad (c : Cod) : Bool := !(inR c.cars 1 200) || !(inR c.arts.length 1 500) || !(inR c.window 0 10000) || !(inR c.second 0 10000) || !(inR c.fee 0 1000000000) || !(inR c.price 0 1000000000)
def okCode (c : Cod) : Bool := !headBad c && (List.range c.arts.length).all (okAt c.arts)

variable {bs : List D}

theorem c55 (x lo hi : Int) : FSpecR Try.prog 55 (.st bs) [I x, I lo, I hi] (B (inR x lo hi)) := by
 refine ok55.specR rfl (by kernel_rfl) rfl ?_
 unfold inR
 refine st_ev rfl rfl ?_
 refine st_guard rfl rfl (fun h => ?_) (fun h => ?_) <;> rw [h]
 ·refine st_ev rfl rfl (st_ev rfl rfl (st_nil (st_ret rfl ?_)))
  simp_all
 ·refine st_ev rfl rfl (st_nil (st_ret rfl ?_))
  simp_all

theorem c52 (x lo hi : Int) : FSpecR Try.prog 52 (.st bs) [I x, I lo, I hi] (B (inR x lo hi)) := by
 refine ok52.specR rfl (by kernel_rfl) rfl ?_
 unfold inR
 refine st_ev rfl rfl ?_
 refine st_guard rfl rfl (fun h => ?_) (fun h => ?_) <;> rw [h]
 ·refine st_ev rfl rfl (st_ev rfl rfl (st_nil (st_ret rfl ?_)))
  simp_all
 ·refine st_ev rfl rfl (st_nil (st_ret rfl ?_))
  simp_all

theorem eaddr_at {xs : List Art} {i : Nat} {a : Art} (h : xs[i]? = some a) : D.eaddr 4 (.lst (xs.map Art.d)) (I i) = some (.ptr [I a.n, I a.f, I a.l, I a.m]) := by
 simp [D.eaddr, h, Art.d, D.cells]

theorem add_one {i : Nat} (h : i ≤ 1000000000) : D.bin .add .int (I i) (I 1) = some (I (i + 1 : Nat)) := by
 have : IntKind.i64.wrap ((i : Int) + 1) = (i : Int) + 1 := by simp [IntKind.wrap, IntKind.bits, IntKind.signed]; omega
 simp [D.bin, cmpI, arI, this]

theorem sub_one {i : Nat} (h : i + 1 ≤ 1000000000) : D.bin .sub .int (I (i + 1 : Nat)) (I 1) = some (I i) := by
 have : IntKind.i64.wrap (((i + 1 : Nat) : Int) - 1) = (i : Int) := by simp [IntKind.wrap, IntKind.bits, IntKind.signed]; omega
 simp only [D.bin, cmpI, arI, if_pos]
 simp only [this]
 rfl

theorem c104 (x : Int) : FSpecR Try.prog 104 (.st bs) [I x] (B false) := by
 refine ok104.specR rfl (by kernel_rfl) rfl ?_
 refine st_ev rfl rfl (st_nil (st_ret rfl ?_))
 simp

def cmpD (x y : Int) : Int := if x < y then -1 else if y < x then 1 else 0

theorem c83 (x y : Int) : FSpecR Try.prog 83 (.st bs) [I x, I y] (I (cmpD x y)) := by
 refine ok83.specR rfl (by kernel_rfl) rfl ?_
 unfold Entry.t e83 t83
 simp only [List.cons_append, List.nil_append]
 repeat' (first | ((with_reducible apply st_ev); (· rfl); (· simp only [sbe]; rfl)) | ((with_reducible apply st_call); (· rfl); (· rfl); (· exact c104 _); (· rfl); (· simp only [sbe]; rfl)) | (with_reducible refine st_nil ?_) | ((with_reducible apply st_ite); (· rfl); all_goals (intro h; (try simp only [Bool.not_true, Bool.not_false] at h); first | (cases h; done) | (exact absurd h (by decide)) | (exfalso; simp [IntKind.wrap, IntKind.bits, IntKind.signed] at h; done) | (exfalso; simp only [decide_eq_false_iff_not, decide_eq_true_eq] at h; omega) | (cases h) | skip)))
 all_goals (refine st_ret rfl ?_; simp_all [cmpD]; try omega)

def orD (x y : Int) : Int := if x = 0 then y else x

theorem okCode_no {c : Cod} {i : Nat} (h : i < c.arts.length) (hb : okAt c.arts i = false) : okCode c = false := by
 unfold okCode
 rw [Bool.and_eq_false_iff]
 right
 rw [List.all_eq_false]
 exact ⟨i, by simpa using h, by simp [hb]⟩

theorem okCode_yes {c : Cod} (hh : headBad c = false) (h : ∀ j, j < c.arts.length → okAt c.arts j = true) : okCode c = true := by
 unfold okCode
 rw [hh]
 simpa using h

theorem okAt_bad {xs : List Art} {i : Nat} {a : Art} (ha : xs[i]? = some a) (hb : artBad a = true) : okAt xs i = false := by simp [okAt, ha, hb]

theorem bad_at {xs : List Art} {j : Nat} {a b : Art} (ha : xs[j + 1]? = some a) (hb : xs[j]? = some b) (h : artBad a = true ∨ pairBad b a = true) : okAt xs (j + 1) = false := by
 unfold okAt
 rw [ha]
 simp only [hb]
 rcases h with h | h <;> simp [h]

theorem okAt_zero {xs : List Art} {a : Art} (ha : xs[0]? = some a) (hb : artBad a = false) : okAt xs 0 = true := by unfold okAt; rw [ha]; simp [hb]

theorem okAt_succ {xs : List Art} {j : Nat} {a b : Art} (ha : xs[j + 1]? = some a) (hb : xs[j]? = some b) (hA : artBad a = false) : okAt xs (j + 1) = !pairBad b a := by unfold okAt; rw [ha]; simp only [hb, hA]; simp

theorem pair_eq (b a : Art) : pairBad b a = decide (0 ≤ orD (cmpD b.n a.n) (cmpD b.f a.f)) := by
 unfold pairBad orD cmpD
 rw [Bool.eq_iff_iff]
 simp only [Bool.or_eq_true, Bool.and_eq_true, decide_eq_true_eq]
 split <;> split <;> first | omega | (split <;> omega) | (split <;> split <;> omega)

theorem st_sub {P : Program} {t : T} {bs : List Bind} {env env2 : List D} {Q : Sig → Prop} {y z : E} {i : Nat} (hy : y.eval env = some (I (i + 1 : Nat))) (hz : z.eval env = some (I 1)) (hi : i + 1 ≤ 1000000000) (he : env ++ [I i] = env2) (k : den P (wrapBinds bs t) env2 Q) : den P (wrapBinds (.ev (.bin .sub .int y z) :: bs) t) env Q := by
 subst he
 exact ⟨_, by simp only [E.eval, hy, hz, Option.bind_some]; exact sub_one hi, k⟩

theorem st_eaddr {P : Program} {t : T} {bs : List Bind} {env env2 : List D} {Q : Sig → Prop} {y z : E} {i : Nat} {xs : List Art} {a : Art} (hy : y.eval env = some (.lst (xs.map Art.d))) (hz : z.eval env = some (I i)) (ha : xs[i]? = some a) (he : env ++ [.ptr [I a.n, I a.f, I a.l, I a.m]] = env2) (k : den P (wrapBinds bs t) env2 Q) : den P (wrapBinds (.ev (.eaddr 4 y z) :: bs) t) env Q := by
 subst he
 exact ⟨_, by simp only [E.eval, hy, hz, Option.bind_some]; exact eaddr_at ha, k⟩

attribute [local irreducible] inR

def hit (n m : Int) (a : Art) : Bool := decide (a.n = n) && decide (a.f ≤ m)

def ver (xs : List Art) (n m : Int) : Nat → Int
 | 0 => -1
 | i + 1 => match xs[i]? with
  | some a => if hit n m a then (i : Int) else ver xs n m i
  | none => ver xs n m i

def verArt (xs : List Art) (n m : Int) : Nat → Option Art
 | 0 => none
 | i + 1 => match xs[i]? with
  | some a => if hit n m a then some a else verArt xs n m i
  | none => verArt xs n m i

theorem ver_spec (xs : List Art) (n m : Int) : ∀ i, (ver xs n m i = -1 ∧ verArt xs n m i = none) ∨ ∃ (j : Nat) (a : Art), ver xs n m i = j ∧ xs[j]? = some a ∧ verArt xs n m i = some a
 | 0 => .inl ⟨rfl, rfl⟩
 | i + 1 => by
  simp only [ver, verArt]
  cases h : xs[i]? with
  | none => exact ver_spec xs n m i
  | some a =>
   simp only
   split
   ·exact .inr ⟨i, a, rfl, h, rfl⟩
   ·exact ver_spec xs n m i

def Art.zero : Art := ⟨0, 0, 0, 0⟩

def verRes (c : Cod) (n m : Int) : Art × Int :=
 if okCode c && inR n 1 10000 && inR m 0 10000000 then (match verArt c.arts n m c.arts.length with
  | some a => (a, 0)
  | none => (.zero, 5)) else (.zero, 2)

end Go.Am.Ap

/-
 The law AppealCodes.
-/
namespace Go.Am.Ap
open Go.Proofs

variable {bs : List D}

theorem app_ok {xs : List Art} (hl : xs.length ≤ 1000) : D.app 4 32 (.lst []) (.lst (xs.map Art.d)) = some (.lst (xs.map Art.d)) := by
 have h1 : allCells 4 (xs.map Art.d) = true := by simp [allCells, Art.d, D.cells]
 have h2 : allCells 4 [] = true := rfl
 simp only [D.app, h1, h2]
 rw [if_pos]
 ·rfl
 ·simp [maxLen]; omega

def court (c : Cod) : D := .blk 99 9 [I c.cars, .lst (c.arts.map Art.d), I c.window, I c.second, I c.fee, I c.price, B true, .snil, .snil]

end Go.Am.Ap

/-
 Acts as data.
-/
namespace Go.Am.Ap
open Go.Proofs

structure Akt where
 kind : Int
 minute : Int
 paper : Int
 cse : Int
 by_ : Int
 against : Int
 article : Int
 at_ : Int
 facts : List Int
 paid : Int
 upheld : Bool
 penalty : Int

abbrev Is (l : List Int) : D := .lst (l.map I)

def Akt.cs (a : Akt) : List D := [I a.kind, I a.minute, I a.paper, I a.cse, I a.by_, I a.against, I a.article, I a.at_, Is a.facts, I a.paid, B a.upheld, I a.penalty]
def Akt.d (a : Akt) : D := .agg a.cs

def i64 (n : Int) : Prop := -9223372036854775808 ≤ n ∧ n < 9223372036854775808


theorem ofI {ds : List D} (h : OfSh (.int .i64) ds) : ∃ n, ds = [I n] ∧ i64 n := by
 simp only [OfSh] at h
 obtain ⟨n, h, h1, h2⟩ := h
 refine ⟨n, h, ?_⟩
 simp [IntKind.min, IntKind.max, IntKind.bits, IntKind.signed] at h1 h2
 exact ⟨h1, by omega⟩

theorem ofIs : ∀ {es : List D}, (∀ x, x ∈ es → OfSh (.int .i64) [x]) → ∃ xs : List Int, es = xs.map I ∧ ∀ x, x ∈ xs → i64 x
 | [], _ => ⟨[], rfl, by simp⟩
 | e :: es, h => by
  obtain ⟨n, hn, hb⟩ := ofI (h e (by simp))
  cases hn
  obtain ⟨xs, rfl, hx⟩ := ofIs (es := es) fun x hx => h x (by simp [hx])
  exact ⟨n :: xs, rfl, by simpa using ⟨hb, hx⟩⟩

theorem ofSl {ds : List D} (h : OfSh (.sl (.int .i64)) ds) : ∃ xs : List Int, ds = [Is xs] ∧ (∀ x, x ∈ xs → i64 x) ∧ xs.length ≤ maxLen := by
 simp only [OfSh] at h
 obtain ⟨es, rfl, hl, hes⟩ := h
 obtain ⟨xs, rfl, hx⟩ := ofIs fun x hx => by
  have := (hes x hx).2 rfl
  simpa only [OfSh] using this
 exact ⟨xs, rfl, hx, by simpa using hl⟩

def Art.Ok (a : Art) : Prop := i64 a.n ∧ Ap.i64 a.f ∧ Ap.i64 a.l ∧ Ap.i64 a.m

def Cod.Ok (c : Cod) : Prop := Ap.i64 c.cars ∧ Ap.i64 c.window ∧ Ap.i64 c.second ∧ Ap.i64 c.fee ∧ Ap.i64 c.price ∧ (∀ a, a ∈ c.arts → a.Ok) ∧ c.arts.length ≤ maxLen

structure Akt.Ok (a : Akt) : Prop where
 kind : i64 a.kind
 minute : i64 a.minute
 paper : i64 a.paper
 cse : i64 a.cse
 by_ : i64 a.by_
 against : i64 a.against
 article : i64 a.article
 at_ : i64 a.at_
 facts : ∀ x, x ∈ a.facts → i64 x
 len : a.facts.length ≤ maxLen
 paid : i64 a.paid
 penalty : i64 a.penalty

end Go.Am.Ap

/-
 What the court's functions answer that only read.
-/
namespace Go.Am.Ct
set_option maxRecDepth 100000
set_option maxHeartbeats 4000000
open Go.Proofs Go.Am.Ap

def fcs (f : Int × D) : List D := [I f.1, f.2]
def ncs (i : Nat) : List D := [I i]

def crtCells (c : Cod) (sa sf : D) : List D := [I c.cars, .lst (c.arts.map Art.d), I c.window, I c.second, I c.fee, I c.price, B true, sa, sf]

def ActsAt (bs : List D) (j : Nat) (c : Cod) (l : List Akt) (sa sf : D) : Prop := bs[j]? = some (.blk 99 9 (crtCells c sa sf)) ∧ SlOf bs 43 12 Akt.cs sa l

variable {bs : List D} {j : Nat} {c : Cod} {l : List Akt} {sa sf : D}

def only (a : Akt) : Akt :=
 if a.kind = 1 then ⟨a.kind, a.minute, a.paper, 0, 0, 0, 0, 0, a.facts, 0, false, 0⟩
 else if a.kind = 2 then ⟨a.kind, a.minute, a.paper, 0, a.by_, a.against, a.article, a.at_, a.facts, a.paid, false, 0⟩
 else if a.kind = 3 ∨ a.kind = 5 then ⟨a.kind, a.minute, 0, a.cse, 0, 0, 0, 0, a.facts, 0, a.upheld, a.penalty⟩
 else if a.kind = 4 then ⟨a.kind, a.minute, 0, a.cse, a.by_, 0, 0, 0, a.facts, a.paid, false, 0⟩
 else ⟨a.kind, a.minute, 0, a.cse, a.by_, 0, 0, 0, a.facts, 0, false, 0⟩

attribute [local irreducible] inR

def Akt.zero : Akt := ⟨0, 0, 0, 0, 0, 0, 0, 0, [], 0, false, 0⟩
def nth (l : List Akt) (i : Nat) : Akt := l.getD i Akt.zero

theorem nth_get {l : List Akt} {i : Nat} (h : i < l.length) : nth l i = l[i] := by simp [nth, h]

end Go.Am.Ct

/-
 What the court does with acts: the parts that only read.
-/
namespace Go.Am.Ct
set_option maxRecDepth 100000
set_option maxHeartbeats 4000000
open Go.Proofs Go.Am.Ap

variable {bs : List D} {j : Nat} {c : Cod} {l : List Akt} {sa sf : D} {fs : List (Int × D)}

attribute [local irreducible] inR

structure CaseAt (bs : List D) (c : Cod) (l : List Akt) (fs : List (Int × D)) (k p : Nat) (s : D) (idx : List Nat) : Prop where
 fk : fs[k]? = some (↑p, s)
 sl : SlOf bs 3 1 ncs s idx
 lt : ∀ i, i ∈ idx → i < l.length
 pl : p < l.length
 ne : idx ≠ []
 len : idx.length ≤ 1000000
 ver : 0 ≤ ver c.arts (nth l p).article (nth l p).at_ c.arts.length

theorem CaseAt.hk {k p : Nat} {s : D} {idx : List Nat} (h : CaseAt bs c l fs k p s idx) : k < fs.length := (List.getElem?_eq_some_iff.1 h.fk).1
theorem CaseAt.get {k p : Nat} {s : D} {idx : List Nat} (h : CaseAt bs c l fs k p s idx) : fs[k]'h.hk = (↑p, s) := (List.getElem?_eq_some_iff.1 h.fk).2

end Go.Am.Ct

/-
 What the specification's functions answer.
-/
namespace Go.Am.Ct
set_option maxRecDepth 100000
set_option maxHeartbeats 4000000
open Go.Proofs Go.Am.Ap

variable {bs : List D} {c : Cod} {l : List Akt}

abbrev Rec (l : List Akt) : D := .lst (l.map Akt.d)
abbrev In (i : Nat) : D := I (i : Int)
abbrev Ix (l : List Nat) : D := .lst (l.map In)

attribute [local irreducible] inR

theorem c19 (xs ys : List Int) (hx : xs.length ≤ 1000000000) : FSpecR Try.prog 19 (.st bs) [Is xs, Is ys] (B (decide (xs = ys))) := by
 refine ku19.R rfl rfl ?_
 unfold u19
 simp only [ups_cons, ups_nil, List.cons_append, List.nil_append]
 repeat' (first | ((with_reducible apply u_lenL); (· rfl); (· exact lenL_map); (· simp only [sbe]; rfl)) | ((with_reducible apply u_ev); (· rfl); (· simp only [sbe]; rfl)) | (with_reducible refine u_join ?_) | ((with_reducible apply u_ite); (· rfl); all_goals (intro hz; (try simp only [sbs] at hz); first | (exact absurd hz (by decide)) | (exfalso; omega) | skip)) | ((with_reducible apply u_ret); (· rfl); first | exact rfl | (refine retB ?_) | (refine retI ?_) | (refine retD ?_)))
 ·symm
  simp
  intro e
  rw [e] at hz
  simp at hz
 ·have hz : xs.length = ys.length := by omega
  refine u_range (fun i => [I i]) (fun i => ∀ k, k < i → xs[k]? = ys[k]?) xs.length rfl (fun _ => rfl) (fun k h => absurd h (Nat.not_lt_zero _)) (fun i hi hJ R hR => ?_) (fun hJ R => ?_)
  ·have hi' : i < ys.length := by omega
   repeat' (first | ((with_reducible apply nrm); (· simp only [sbe]; rfl)) | ((with_reducible apply u_eaddr); (· rfl); (· rfl); (· first | exact eaddr_get hi rfl | exact eaddr_get hi' rfl); (· simp only [sbe]; rfl)) | ((with_reducible apply u_lenL); (· rfl); (· exact lenL_map); (· simp only [sbe]; rfl)) | ((with_reducible apply u_inc); (· rfl); (· omega); (· simp only [sbe]; rfl)) | ((with_reducible apply u_ev); (· rfl); (· simp only [sbe]; rfl)) | (with_reducible refine u_join ?_) | ((with_reducible apply u_jump); (· rfl); (· rfl)) | (with_reducible refine at_jump ?_) | (with_reducible refine kj rfl ?_) | ((with_reducible apply u_ite); (· rfl); all_goals (intro hz; (try simp only [sbs] at hz); first | (exact absurd hz (by decide)) | (exfalso; omega) | skip)) | ((with_reducible apply u_ret); (· rfl); first | exact rfl | (refine retB ?_) | (refine retI ?_) | (refine retD ?_)))
   ·symm
    simp
    intro e
    subst e
    exact hz rfl
   ·refine hR fun k hk => ?_
    rcases Nat.lt_or_ge k i with h3 | h3
    ·exact hJ k h3
    ·have e : k = i := by omega
     subst e
     rw [List.getElem?_eq_getElem hi, List.getElem?_eq_getElem hi', hz]
  ·repeat' (first | ((with_reducible apply nrm); (· simp only [sbe]; rfl)) | ((with_reducible apply u_lenL); (· rfl); (· exact lenL_map); (· simp only [sbe]; rfl)) | ((with_reducible apply u_ev); (· rfl); (· simp only [sbe]; rfl)) | ((with_reducible apply u_jump); (· rfl); (· rfl)) | (with_reducible refine at_jump ?_) | (with_reducible refine over_jump (by decide) ?_) | (with_reducible refine kj rfl ?_) | ((with_reducible apply u_ite); (· rfl); all_goals (intro hz; (try simp only [sbs] at hz); first | (exact absurd hz (by decide)) | (exfalso; omega) | skip)) | ((with_reducible apply u_ret); (· rfl); first | exact rfl | (refine retB ?_) | (refine retI ?_) | (refine retD ?_)))
   symm
   simp
   refine List.ext_getElem? fun k => ?_
   rcases Nat.lt_or_ge k xs.length with h | h
   ·exact hJ k h
   ·rw [List.getElem?_eq_none h, List.getElem?_eq_none (by omega)]

def Mins (l : List Akt) : Prop := ∀ a, a ∈ l → inR a.minute 0 10000000 = true

theorem Mins.nth (h : Mins l) (i : Nat) : 0 ≤ (nth l i).minute ∧ (Ct.nth l i).minute ≤ 10000000 := by
 rcases Nat.lt_or_ge i l.length with hi | hi
 ·rw [nth_get hi]
  have := h _ (List.getElem_mem hi)
  unfold inR at this
  simpa using this
 ·simp [Ct.nth, hi, Akt.zero]

end Go.Am.Ct
