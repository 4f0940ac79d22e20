/-
  Several texts, one behind the other.
-/
import Derived.Test.YtdljkokeieeafaaGreatDoorRaBasetoRaC6
set_option linter.unusedSimpArgs false
set_option linter.unusedVariables false
/-
 Functions that the chapter's examples reach,as texts.
-/
namespace Go.Am.Ra
open Go.Proofs
set_option maxRecDepth 100000

noncomputable def t24:T:=W' [v' (.bin .neq .ptr y0 (.const (.v (.pointer none)))),g' y2 (.nn y0),g' y2 (p' 30 y3),g' y2 (l' y1 y4),g' y2 (.bin .neq .ptr y5 (.const (.v (.pointer none)))),v' (.ite y2 y6 (kb false))] (R' y7 y1)
noncomputable def e24:=e' 24 Tryz.f24 true false [] [] [] [true] t24
theorem ok24:EntOk Tryz.prog e24:=EntOk.ofPlain Tryz.func24 (by kernel_rfl) (by kernel_rfl)

noncomputable def t92:T:=W' [w' 172 y2 [y0,y1,ki 0] [true]] (R' (s' y3) (t' y3))
noncomputable def e92:=e' 92 Tryz.f92 false false [172] [] [] [true,true] t92
theorem ok92:EntOk Tryz.prog e92:=EntOk.ofPlain Tryz.func92 (by kernel_rfl) (by kernel_rfl)

noncomputable def t101:T:=W' [c' 183 y2 [y0,y1] [true],v' (X' .geq y3 (ki 0))] (R' y4 y2)
noncomputable def e101:=e' 101 Tryz.f101 true false [] [] [] [true,true] t101
theorem ok101:EntOk Tryz.prog e101:=EntOk.ofPlain Tryz.func101 (by kernel_rfl) (by kernel_rfl)

noncomputable def t106:T:=W' [v' (.aggN 5 y0),v' (N' (q' 3 y4)),g' y5 (q' 4 y4),g' y5 (N' y6),v' (.ite y5 y7 (kb false)),g' y8 (q' 2 y4),g' y8 (l' y3 y1),g' y8 (.nn y10),g' y8 (p' 0 y11),g' y8 (p' 0 y12),g' y8 (l' y3 y13),g' y8 (M' y14 (ki 1)),g' y8 (X' .lss y9 y15),v' (.ite y8 y16 (kb false)),g' y17 (l' y3 y2),g' y17 (q' 1 y4),g' y17 (M' y18 y19),g' y17 (l' y3 y1),g' y17 (.nn y21),g' y17 (p' 0 y22),g' y17 (p' 4 y23),g' y17 (l' y3 y24),g' y17 (X' .gtr y20 y25),v' (.ite y17 y26 (kb false))] (R' y27 y3)
noncomputable def e106:=e' 106 Tryz.f106 true false [] [] [] [false,true,true] t106
theorem ok106:EntOk Tryz.prog e106:=EntOk.ofPlain Tryz.func106 (by kernel_rfl) (by kernel_rfl)

noncomputable def t109:T:=W' [v' (.aggN 5 y0)] (R' (q' 0 y2) y1)
noncomputable def e109:=e' 109 Tryz.f109 true false [] [] [] [false] t109
theorem ok109:EntOk Tryz.prog e109:=EntOk.ofPlain Tryz.func109 (by kernel_rfl) (by kernel_rfl)

noncomputable def t117:T:=W' [v' (.mkptr (j' (z' y0) .nil)),v' (.mkptr (j' (z' y1) .nil)),v' (.mkfn 189 .tnil (C' y3 y4))] (R' y5 y2)
noncomputable def e117:=e' 117 Tryz.f117 true false [] [] [] [true,true] t117
theorem ok117:EntOk Tryz.prog e117:=EntOk.ofPlain Tryz.func117 (by kernel_rfl) (by kernel_rfl)

noncomputable def t135:T:=.ite (kb false) (W' [v' (.conv .u32 y0),c' 206 y1 [y2] [true]] (R' y3 y1)) (W' [c' 207 y1 [y0] [true]] (R' y2 y1))
noncomputable def e135:=e' 135 Tryz.f135 true false [] [] [] [true] t135
theorem ok135:EntOk Tryz.prog e135:=EntOk.ofPlain Tryz.func135 (by kernel_rfl) (by kernel_rfl)

noncomputable def t147:T:=W' [c' 210 y2 [y0,y1] [true,true,true]] (R' (D' (s' y3) (t' y3) (.tget 2 y3)) y2)
noncomputable def e147:=e' 147 Tryz.f147 true false [] [] [] [true,true] t147
theorem ok147:EntOk Tryz.prog e147:=EntOk.ofPlain Tryz.func147 (by kernel_rfl) (by kernel_rfl)

noncomputable def t163:T:=W' [v' (.bin .eql .str y0 (Z' #[]))] (.ite y4 (R' (C' (k' 0) (.ifc 326 (ki 2))) y3) (W' [v' (Q' y1 (ki 0))] (.join 0 6 (W' [v' (X' .leq (ki 2) y1),g' y6 (X' .leq y1 (ki 36)),v' (.ite y6 y7 (kb false))] (.join 1 2 (.ite y8 (J' 1 [y0,y1]) (W' [v' (Q' y1 (ki 0))] (.ite y9 (W' [v' (n' .sidx y0 (ki 0)),v' (Q' y10 (K' 48))] (.join 2 2 (.ite y11 (.join 3 7 (W' [v' (.lenS y0),v' (X' .geq y12 (ki 3)),g' y13 (n' .sidx y0 (ki 1)),.call [(y13,true)] 224 y3 [y14] [true],g' y13 (Q' y15 (K' 98)),v' (.ite y13 y16 (kb false))] (.join 4 2 (.ite y17 (W' [v' (o' .ssub y0 (ki 2) (.lenS y0))] (J' 4 [y18,ki 2])) (W' [v' (.lenS y0),v' (X' .geq y18 (ki 3)),g' y19 (n' .sidx y0 (ki 1)),.call [(y19,true)] 224 y3 [y20] [true],g' y19 (Q' y21 (K' 111)),v' (.ite y19 y22 (kb false))] (.join 5 2 (.ite y23 (W' [v' (o' .ssub y0 (ki 2) (.lenS y0))] (J' 5 [y24,ki 8])) (W' [v' (.lenS y0),v' (X' .geq y24 (ki 3)),g' y25 (n' .sidx y0 (ki 1)),.call [(y25,true)] 224 y3 [y26] [true],g' y25 (Q' y27 (K' 120)),v' (.ite y25 y28 (kb false))] (.join 6 2 (.ite y29 (W' [v' (o' .ssub y0 (ki 2) (.lenS y0))] (J' 6 [y30,ki 16])) (W' [v' (o' .ssub y0 (ki 1) (.lenS y0))] (J' 6 [y30,ki 8]))) (J' 5 [y30,y31])))) (J' 4 [y24,y25])))) (J' 3 [y18,y19,y17,y12,y13,y13,y17]))) (J' 2 [y12,y13])) (J' 2 [y0,ki 10])) (J' 1 [y12,y13]))) (R' (C' (k' 0) (.ifc 326 (ki 3))) y3)))) (J' 0 [y9,y10,y8,y6,y6,y8]))) (W' [v' (Q' y2 (ki 0))] (.join 0 1 (.ite y12 (J' 0 [ki 64]) (W' [v' (X' .lss y2 (ki 0)),f' y13 (X' .gtr y2 (ki 64)),v' (.ite y13 (kb true) y14)] (.ite y15 (R' (C' (k' 0) (.ifc 326 (ki 4))) y3) (J' 0 [y2])))) (.join 0 3 (W' [v' (Q' y7 (ki 10))] (.join 1 1 (.ite y14 (J' 1 [k' 1844674407370955162]) (W' [v' (Q' y7 (ki 16))] (.join 2 1 (.ite y15 (J' 2 [k' 1152921504606846976]) (W' [v' (.conv .u64 y7),v' (X' .quo (k' 18446744073709551615) y16),v' (P' y17 (k' 1))] (J' 2 [y18]))) (J' 1 [y16])))) (J' 0 [y15,y14,y14]))) (W' [v' (.conv .u64 y13),v' (X' .shl (k' 1) y17),v' (M' y18 (k' 1)),v' (m' .sbytes y6),v' (.lenL y20)] (.join 0 4 (.loop 1 [kb false,k' 0,ki 0] (W' [v' (X' .lss y24 y21)] (.ite y25 (.join 2 11 (W' [v' (.eaddr 1 y20 y24),v' (l' y3 y26)] (.join 3 9 (W' [v' (Q' y27 (K' 95)),v' (.ite y28 y5 (kb false))] (.ite y29 (J' 2 [kb true,y23,y27,K' 0,y26,y27,y29,y27,y28,y28,y29]) (W' [v' (X' .leq (K' 48) y27),g' y30 (X' .leq y27 (K' 57)),v' (.ite y30 y31 (kb false))] (.join 4 1 (.ite y32 (W' [v' (M' y27 (K' 48))] (J' 4 [y33])) (W' [c' 224 y3 [y27] [true],v' (X' .leq (K' 97) y33),.call [(y34,true)] 224 y3 [y27] [true],g' y34 (X' .leq y35 (K' 122)),v' (.ite y34 y36 (kb false))] (.ite y37 (W' [c' 224 y3 [y27] [true],v' (M' y38 (K' 97)),v' (P' y39 (K' 10))] (J' 4 [y40])) (R' (C' (k' 0) (.ifc 326 (ki 2))) y3)))) (J' 3 [y33,y29,y28,y28,y29,y32,y30,y30,y32]))))) (W' [v' (.conv .u8 y7),v' (X' .geq y28 y37)] (.ite y38 (R' (C' (k' 0) (.ifc 326 (ki 2))) y3) (W' [v' (X' .geq y23 y14)] (.ite y39 (R' (C' y19 (.ifc 326 (ki 1))) y3) (W' [v' (.conv .u64 y7),v' (X' .mul y23 y40),v' (.conv .u64 y28),v' (P' y41 y42),v' (X' .lss y43 y41),f' y44 (X' .gtr y43 y19),v' (.ite y44 (kb true) y45)] (.ite y46 (R' (C' y19 (.ifc 326 (ki 1))) y3) (J' 2 [y22,y43,y27,y28,y26,y27,y29,y27,y30,y31,y32]))))))))) (W' [v' (P' y24 (ki 1))] (J' 1 [y26,y27,y37]))) (J' 0 [y22,y23,y24,y25])))) (W' [.call [(y22,true)] 225 y3 [y0] [true],g' y22 (N' y26),v' (.ite y22 y27 (kb false))] (.ite y28 (R' (C' (k' 0) (.ifc 326 (ki 2))) y3) (R' (C' y23 (.const (.v .nilIface))) y3)))))))))))
noncomputable def e163:=e' 163 Tryz.f163 true false [] [] [] [true,true,true] t163
theorem ok163:EntOk Tryz.prog e163:=EntOk.ofPlain Tryz.func163 (by kernel_rfl) (by kernel_rfl)

noncomputable def t173:T:=W' [v' (.nn y0),v' (p' 0 y2),v' (l' y1 y3),v' (.bin .eql .ptr y4 (.const (.v (.pointer none))))] (.join 0 1 (.ite y5 (W' [v' (n' (.uptr 202 2) y1 y0),v' (n' (.uptr 202 2) y1 y6),v' (.nn y0),v' (p' 0 y8),v' (.sto 1 y1 y9 y7)] (J' 0 [y10])) (W' [v' (.nn y0),v' (p' 0 y6),v' (l' y1 y7),v' (n' (.peq true) y8 y0)] (.ite y9 (.ret (.deref .nil)) (J' 0 [y1])))) (R' .tnil y6))
noncomputable def e173:=e' 173 Tryz.f173 false false [] [9,11] [] [true] t173
theorem ok173:EntOk Tryz.prog e173:=EntOk.ofPlain Tryz.func173 (by kernel_rfl) (by kernel_rfl)

noncomputable def t184:T:=W' [v' (.aggN 5 y0),g' (q' 0 y3) (l' y2 y1),.callv [((q' 0 y3),true)] y4 y2 [agc 5 y3] [true],v' (.ite (q' 0 y3) y5 (kb false))] (R' y6 y2)
noncomputable def e184:=e' 184 Tryz.f184 true false [] [] [] [false,true] t184
theorem ok184:EntOk Tryz.prog e184:=EntOk.ofPlain Tryz.func184 (by kernel_rfl) (by kernel_rfl)

noncomputable def t185:T:=W' [v' (.lenL y0)] (.join 0 2 (.loop 1 [ki 0] (W' [v' (X' .lss y4 y3)] (.ite y5 (.join 2 3 (W' [v' (.eaddr 5 y0 y4),v' (.ld true 5 y2 y6),.callv [] y1 y2 [y7] [true]] (.ite y8 (R' y4 y2) (J' 2 [y6,y7,y8]))) (W' [v' (P' y4 (ki 1))] (J' 1 [y9]))) (J' 0 [y4,y5])))) (R' (ki (-1)) y2))
noncomputable def e185:=e' 185 Tryz.f185 true false [] [] [] [true,true] t185
theorem ok185:EntOk Tryz.prog e185:=EntOk.ofPlain Tryz.func185 (by kernel_rfl) (by kernel_rfl)

noncomputable def t187:T:=W' [v' (.aggN 7 y0),v' (.aggN 7 y1),c' 67 y2 [q' 0 y3,q' 0 y4] [true],c' 67 y2 [q' 1 y3,q' 1 y4] [true],c' 247 y2 [q' 2 y3,q' 2 y4] [true],c' 67 y2 [q' 3 y3,q' 3 y4] [true],c' 67 y2 [q' 4 y3,q' 4 y4] [true],c' 67 y2 [q' 5 y3,q' 5 y4] [true],v' (.lcons (z' y5) (.lcons (z' y6) (.lcons (z' y7) (.lcons (z' y8) (.lcons (z' y9) (.lcons (z' y10) (.const (.lst [])))))))),c' 230 y2 [y11] [true]] (R' y12 y2)
noncomputable def e187:=e' 187 Tryz.f187 true false [] [] [] [false,false] t187
theorem ok187:EntOk Tryz.prog e187:=EntOk.ofPlain Tryz.func187 (by kernel_rfl) (by kernel_rfl)

noncomputable def t214:T:=W' [v' (.nn y0),v' (p' 0 y3),v' (p' 6 y4),v' (p' 0 y5),v' (l' y2 y6),c' 25 y2 [y1,ki 1,y7] [true],v' (N' y8)] (.join 0 0 (.ite y9 (.pcall 212 y2 [ki 2] [] [] [] (J' 0 [])) (J' 0 [])) (W' [v' (M' y1 (ki 1))] (R' y10 y2)))
noncomputable def e214:=e' 214 Tryz.f214 true false [] [] [] [true,true] t214
theorem ok214:EntOk Tryz.prog e214:=EntOk.ofPlain Tryz.func214 (by kernel_rfl) (by kernel_rfl)

noncomputable def t235:T:=W' [v' (.aggN 2 y0),v' (X' .lss (q' 0 y2) (ki 1)),f' y3 (q' 0 y2),f' y3 (X' .gtr y4 (ki 3)),v' (.ite y3 (kb true) y5),f' y6 (q' 1 y2),.call [(y6,false)] 111 y1 [y7,ki 0,ki 10000000] [true],f' y6 (N' y8),v' (.ite y6 (kb true) y9)] (R' y10 y1)
noncomputable def e235:=e' 235 Tryz.f235 true false [] [] [] [false] t235
theorem ok235:EntOk Tryz.prog e235:=EntOk.ofPlain Tryz.func235 (by kernel_rfl) (by kernel_rfl)

noncomputable def t268:T:=W' [v' (n' .srng y1 y0)] (.join 0 4 (.loop 1 [ki 0,y2] (W' [v' (n' .snh y4 (.fstid y1)),v' (s' (n' .snv y4 (.fstid y1)))] (.ite y6 (.join 2 14 (W' [v' (.tget 2 (n' .snv y4 (.fstid y1))),v' (X' .lss y7 (.const (.v (.int .i32 48)))),f' y8 (X' .gtr y7 (.const (.v (.int .i32 57)))),v' (.ite y8 (kb true) y9),f' y10 (X' .gtr y3 (ki 1000000000000000)),v' (.ite y10 (kb true) y11)] (.ite y12 (R' (C' (ki 0) (kb false)) y5) (W' [v' (X' .mul (ki 10) y3),v' (M' y7 (.const (.v (.int .i32 48)))),v' (.conv .i64 y14),v' (P' y13 y15)] (J' 2 [y16,y7,y7,y7,y8,y8,y10,y10,y12,y13,y7,y14,y15,y16])))) (J' 1 [y7,y5])) (J' 0 [y3,n' .snv y4 (.fstid y1),y6,y5])))) (W' [v' (.bin .neq .str y0 (Z' #[])),g' y7 (X' .leq y3 (ki 1000000000000000)),v' (.ite y7 y8 (kb false)),g' y9 (n' .sidx y0 (ki 0)),g' y9 (X' .neq y10 (K' 48)),g' y9 (F' y11 (.lenS y0)),g' y9 (F' y11 (Q' y12 (ki 1))),g' y9 (.ite y11 (kb true) y13),v' (.ite y9 y14 (kb false))] (R' (C' y3 y15) y6)))
noncomputable def e268:=e' 268 Tryz.f268 false false [] [] [] [true] t268
theorem ok268:EntOk Tryz.prog e268:=EntOk.ofPlain Tryz.func268 (by kernel_rfl) (by kernel_rfl)

noncomputable def t274:T:=W' [v' (.aggN 7 y1),v' (.nn y0),v' (p' 3 y4),v' (l' y2 y5),v' (.lenL y6),v' (M' y7 (ki 1)),c' 111 y2 [q' 0 y3,ki 0,y8] [true],v' (N' y9),f' y10 (q' 1 y3),.call [(y10,false)] 111 y2 [y11,ki 0,ki 1000000000] [true],f' y10 (N' y12),v' (.ite y10 (kb true) y13),f' y14 (q' 6 y3),.call [(y14,false)] 111 y2 [y15,ki 0,ki 1000000000000] [true],f' y14 (N' y16),v' (.ite y14 (kb true) y17)] (.ite y18 (R' (kb false) y2) (W' [v' (Q' (q' 2 y3) (ki 4))] (.ite y19 (W' [v' (M' (q' 1 y3) (ki 1)),c' 111 y2 [q' 3 y3,ki 0,y20] [true],g' y21 (q' 4 y3),g' y21 (Q' y22 (ki 0)),v' (.ite y21 y23 (kb false)),g' y24 (q' 5 y3),g' y24 (Q' y25 (ki 0)),v' (.ite y24 y26 (kb false))] (R' y27 y2)) (W' [v' (.nn y0),v' (p' 0 y20),v' (p' 0 y21),v' (l' y2 y22),c' 111 y2 [q' 3 y3,ki 1,y23] [true],v' (N' y24),f' y25 (q' 4 y3),f' y25 (.nn y0),f' y25 (p' 0 y27),f' y25 (p' 1 y28),f' y25 (l' y2 y29),f' y25 (M' y30 (ki 1)),.call [(y25,false)] 111 y2 [y26,ki 0,y31] [true],f' y25 (N' y32),v' (.ite y25 (kb true) y33)] (.ite y34 (R' (kb false) y2) (.join 0 4 (W' [v' (Q' (q' 2 y3) (ki 1))] (.join 1 1 (.ite y35 (J' 1 [y35]) (W' [v' (Q' (q' 2 y3) (ki 2))] (J' 1 [y36]))) (.ite y36 (W' [c' 111 y2 [q' 5 y3,ki 0,ki 1000000000000] [true]] (R' y37 y2)) (W' [v' (Q' (q' 2 y3) (ki 3))] (.ite y37 (W' [v' (Q' (q' 5 y3) (ki 0))] (R' y38 y2)) (J' 0 [y36,y35,y37,y37])))))) (R' (kb false) y2)))))))
noncomputable def e274:=e' 274 Tryz.f274 true false [] [] [] [true,false] t274
theorem ok274:EntOk Tryz.prog e274:=EntOk.ofPlain Tryz.func274 (by kernel_rfl) (by kernel_rfl)

noncomputable def t301:T:=W' [v' (n' .sib y0 y1)] (R' y3 y2)
noncomputable def e301:=e' 301 Tryz.f301 true false [] [] [] [true,true] t301
theorem ok301:EntOk Tryz.prog e301:=EntOk.ofPlain Tryz.func301 (by kernel_rfl) (by kernel_rfl)

noncomputable def t15:T:=W' [c' 24 y2 [y0] [true],v' (N' y3)] (.ite y4 (R' (ki 1) y2) (W' [v' (.nn y0),v' (p' 34 y5),v' (l' y2 y6),v' (.lenL y7),v' (X' .geq y8 (ki 5000))] (.ite y9 (W' [v' (.nn y0),v' (p' 0 y10),v' (.ld true 30 y2 y11),v' (.nn y0),v' (p' 34 y13),v' (l' y2 y14),c' 23 y2 [y15] [true],w' 20 y2 [y12,y16] [true,true,true],w' 33 (t' y17) [s' (s' y17),y1] [true],v' (X' .neq (s' y18) (ki 0))] (.ite y19 (R' (s' y18) (t' y18)) (R' (ki 4) (t' y18)))) (W' [w' 33 y2 [y0,y1] [true],v' (X' .neq (s' y10) (ki 0))] (.ite y11 (R' (s' y10) (t' y10)) (W' [v' (.nn y0),v' (p' 34 y12),v' (l' (t' y10) y13),v' (.nn y0),v' (p' 34 y15),v' (l' (t' y10) y16),c' 34 (t' y10) [y17,y1] [true],v' (j' (z' y1) (j' (z' y18) .nil)),v' (.lcons (.aggN 2 y19) (.const (.lst []))),v' (.apph 27 2 32 (t' y10) y14 y20),v' (.nn y0),v' (p' 34 y22),v' (.sto 1 y21 y23 (.apps (t' y10) y14 y20))] (R' (ki 0) y24)))))))
noncomputable def e15:=e' 15 Tryz.f15 false false [] [] [] [true,true] t15
theorem ok15:EntOk Tryz.prog e15:=EntOk.ofPlain Tryz.func15 (by kernel_rfl) (by kernel_rfl)

noncomputable def t217:T:=W' [v' (.nn y0),v' (p' 33 y4),v' (l' y3 y5),v' (.eaddr 3 y6 y1),v' (.ld true 3 y3 y7),w' 36 y3 [y8] [false],v' (.newb 78 3 (t' y9) (.const (.agg [.v (.int .i64 0),.snil,.snil]))),v' (.sto 3 y10 (.fstid (t' y9)) (s' y9)),.wcallv [] y2 y11 [.fstid (t' y9)] [],v' (.nn y0),v' (p' 0 y13),v' (p' 10 y14),v' (.ld true 14 (t' y12) y15),v' (.ld true 3 (t' y12) (.fstid (t' y9))),c' 122 (t' y12) [y16,y17] [true]] (.pcall 212 (t' y12) [y18] [] [] [] (W' [v' (.nn y0),v' (p' 33 y20),v' (l' (t' y12) y21),v' (.ld true 3 (t' y12) (.fstid (t' y9))),v' (.eaddr 3 y22 y1),v' (.sto 3 (t' y12) y24 y23)] (R' .tnil y25)))
noncomputable def e217:=e' 217 Tryz.f217 false false [36,1000016] [] [] [true,true,true] t217
theorem ok217:EntOk Tryz.prog e217:=EntOk.ofPlain Tryz.func217 (by kernel_rfl) (by kernel_rfl)

noncomputable def t222:T:=W' [c' 51 y4 [y0,y1,y2,y3] [true],v' (X' .neq y5 (ki 0))] (.ite y6 (R' (C' (ki 0) y5) y4) (W' [w' 52 y4 [y0,y3] [true],w' 278 (t' y7) [s' y7,y1,y2] [true],v' (X' .lss (s' y8) (ki 0))] (.ite y9 (R' (C' (ki 0) (ki 5)) (t' y8)) (R' (C' (s' y8) (ki 0)) (t' y8)))))
noncomputable def e222:=e' 222 Tryz.f222 false false [] [] [] [true,true,true,true] t222
theorem ok222:EntOk Tryz.prog e222:=EntOk.ofPlain Tryz.func222 (by kernel_rfl) (by kernel_rfl)

noncomputable def t246:T:=.loop 0 [y1,y2,y3,kb true,kb true,y5] (.join 1 26 (W' [v' (M' y7 y6),v' (X' .leq y12 (ki 12))] (.ite y13 (W' [w' 287 y11 [y0,y6,y7,y4] []] (R' .tnil (t' y14))) (W' [v' (Q' y8 (ki 0))] (.ite y14 (W' [c' 288 y11 [y0,y6,y7,y4] []] (R' .tnil y11)) (W' [v' (N' y9)] (.join 2 1 (.ite y15 (W' [c' 289 y11 [y0,y6,y7,y4] [],v' (M' y8 (ki 1))] (J' 2 [y17])) (J' 2 [y8])) (W' [c' 290 y11 [y0,y6,y7,y4] [true,true],v' (Q' (t' y17) (ki 2))] (.join 2 2 (.ite y18 (W' [c' 291 y11 [y0,y6,y7,y4] [],v' (M' y7 (ki 1)),v' (M' (s' y17) y6),v' (M' y20 y21)] (J' 2 [y22,ki 1])) (J' 2 [s' y17,t' y17])) (W' [v' (.ite y9 y10 (kb false)),g' y21 (Q' y20 (ki 1)),v' (.ite y21 y22 (kb false))] (.join 2 0 (.ite y23 (W' [c' 292 y11 [y0,y6,y7,y4] [true]] (.ite y24 (R' .tnil y11) (J' 2 []))) (J' 2 [])) (W' [v' (X' .gtr y6 (ki 0)),g' y24 (M' y6 (ki 1)),g' y24 (.eaddr 7 y0 y25),g' y24 (.ld true 7 y11 y26),g' y24 (.eaddr 7 y0 y19),g' y24 (.ld true 7 y11 y28),.callv [(y24,true)] y4 y11 [y27,y29] [true],g' y24 (X' .lss y30 (ki 0)),g' y24 (N' y31),v' (.ite y24 y32 (kb false))] (.ite y33 (W' [c' 293 y11 [y0,y6,y7,y19,y4] [true]] (J' 1 [y34,y7,y16,y9,y10,y12,y19,y20,y12,y12,y13,y14,y15,C' (s' y17) (t' y17),C' (s' y17) (t' y17),s' y17,t' y17,t' y17,y18,y21,y21,y23,y24,y24,y33,y11])) (W' [c' 294 y11 [y0,y6,y7,y19,y4] [true,true],v' (M' (s' y34) y6),v' (M' y7 (s' y34)),v' (X' .quo y12 (ki 8)),v' (X' .lss y35 y36)] (.join 2 4 (.ite y38 (W' [v' (X' .geq y35 y37),w' 246 y11 [y0,y6,s' y34,y16,y4] [],v' (P' (s' y34) (ki 1))] (J' 2 [y41,y7,y39,t' y40])) (W' [v' (X' .geq y36 y37),v' (P' (s' y34) (ki 1)),w' 246 y11 [y0,y40,y7,y16,y4] []] (J' 2 [y6,s' y34,y39,t' y41]))) (J' 1 [y39,y40,y16,y41,t' y34,y12,y19,y20,y12,y12,y13,y14,y15,C' (s' y17) (t' y17),C' (s' y17) (t' y17),s' y17,t' y17,t' y17,y18,y21,y21,y23,y24,y24,y33,y42]))))))))))))))) (J' 0 [y12,y13,y14,y15,y16,y37]))
noncomputable def e246:=e' 246 Tryz.f246 false false [] [] [] [true,true,true,true,true] t246
theorem ok246:EntOk Tryz.prog e246:=EntOk.ofPlain Tryz.func246 (by kernel_rfl) (by kernel_rfl)

noncomputable def t275:T:=W' [v' (.bin .eql .mp y0 (.const (.v (.map none))))] (.ite y2 (R' (.const (.v (.map none))) y1) (W' [v' (n' .mclh y1 (.ifc 126 y0)),v' (z' (m' (.unifc 126) (n' .mclv y1 (.ifc 126 y0))))] (R' y4 y3)))
noncomputable def e275:=e' 275 Tryz.f275 false false [] [] [] [true] t275
theorem ok275:EntOk Tryz.prog e275:=EntOk.ofPlain Tryz.func275 (by kernel_rfl) (by kernel_rfl)

noncomputable def t85:T:=.nilq y0 false (.ite y2 (R' (.const (.lst [])) y1) (W' [v' (.const (.lst [])),v' (.app 1 8 y3 y0)] (R' y4 y1)))
noncomputable def e85:=e' 85 Tryz.f85 true false [] [] [] [true] t85
theorem ok85:EntOk Tryz.prog e85:=EntOk.ofPlain Tryz.func85 (by kernel_rfl) (by kernel_rfl)

noncomputable def t33:T:=W' [v' (.newb 59 1 y2 (.const (.agg [.v (.int .i64 0)])))] (.dfr 81 [4] [.fstid y2] (l' y1 y0) (W' [v' (.lenS y1),v' (X' .gtr y4 (ki 200))] (.ite y5 (W' [v' (.sto 1 y3 (.fstid y2) (ki 4))] (R' (.tcons (.fstid y2) .tnil) y6)) (W' [v' (.newb 22 1 y3 (.const (.agg [.snil]))),w' 82 y6 [y1] [true]] (.join 0 1 (.rfor (s' y7) (t' y7) [0,1,4,5,10,11,12,13,14] [y0,y1,.fstid y2,.fstid y3,y1,y4,y5,y1,s' y7] 1 1 (.join 2 4 (W' [v' (l' y8 (.fstid y3)),v' (.lcons (z' y9) (.const (.lst []))),v' (.apph 9 1 16 y8 y10 y11),v' (.sto 1 y12 (.fstid y3) (.apps y8 y10 y11))] (J' 2 [y10,y11,.apps y8 y10 y11,y13])) (J' 1 [y13])) (J' 0 [y8])) (W' [w' 83 y8 [y0] [true],v' (l' (t' y9) (.fstid y3)),v' (.eaddr 1 y10 (ki 0)),v' (l' (t' y9) y11),v' (.m4 (.getok .str) (t' y9) (s' y9) y12 (.const (.v .nilFunc))),v' (n' .same (l' (t' y9) (.fstid y3)) (l' y8 (.fstid y3))),v' (n' .same (l' (t' y9) y11) (l' y8 y11)),v' (N' (t' y13))] (.ite y16 (W' [v' (.sto 1 (t' y9) (.fstid y2) (ki 3))] (R' (.tcons (.fstid y2) .tnil) y17)) (W' [v' (l' (t' y9) (.fstid y3)),v' (.eaddr 1 y17 (ki 0)),v' (l' (t' y9) y18),v' (l' (t' y9) (.fstid y3)),v' (.sub 1 y20 (ki 1) (.lenL y20)),v' (j' (z' y19) (j' (z' y21) .nil))] (.wpcallv (s' y13) (t' y9) [y22] [] [4] [.fstid y2] (W' [v' (.sto 1 (t' y23) (.fstid y2) (ki 0))] (R' (.tcons (.fstid y2) .tnil) y24)))))))))))
noncomputable def e33:Entry:={ f:=33,kn:=(.defers [4]),cf:={ (autoCfg false ([82]++WRY) PNY [] [] Tryz.f33) with nils:=true,stk:=true },own:=false,ones:=[true,true],t:=t33 }
theorem ok33:EntOk Tryz.prog e33:=EntOk.ofDefers Tryz.func33 (by kernel_rfl) (by kernel_rfl)

end Go.Am.Ra

/-
 Functions that the chapter's examples reach,as texts.
-/
namespace Go.Am.Ra
open Go.Proofs
set_option maxRecDepth 100000

noncomputable def t44:T:=W' [v' (.nn y0),v' (p' 12 y4),v' (l' y3 y5),c' 101 y3 [y6,.const (.fn 102 [] [])] [true]] (R' y7 y3)
noncomputable def e44:=e' 44 Tryz.f44 true false [] [] [] [true,true,true] t44
theorem ok44:EntOk Tryz.prog e44:=EntOk.ofPlain Tryz.func44 (by kernel_rfl) (by kernel_rfl)

noncomputable def t49:T:=W' [v' (.mkptr (j' (z' y0) .nil)),v' (.mkptr (j' (z' y2) .nil)),v' (l' y3 y4),v' (.mkfn 107 .tnil (C' y5 y4)),c' 104 y3 [y6,y7] [true]] (R' y8 y3)
noncomputable def e49:=e' 49 Tryz.f49 true false [] [] [] [true,true,true] t49
theorem ok49:EntOk Tryz.prog e49:=EntOk.ofPlain Tryz.func49 (by kernel_rfl) (by kernel_rfl)

noncomputable def t67:T:=W' [c' 137 y2 [y0] [true],c' 137 y2 [y1] [true]] (.ite y3 (.ite y4 (R' (ki 0) y2) (R' (ki (-1)) y2)) (.ite y4 (R' (ki 1) y2) (W' [v' (X' .lss y0 y1)] (.ite y5 (R' (ki (-1)) y2) (W' [v' (X' .gtr y0 y1)] (.ite y6 (R' (ki 1) y2) (R' (ki 0) y2)))))))
noncomputable def e67:=e' 67 Tryz.f67 true false [] [] [] [true,true] t67
theorem ok67:EntOk Tryz.prog e67:=EntOk.ofPlain Tryz.func67 (by kernel_rfl) (by kernel_rfl)

noncomputable def t21:T:=W' [v' (.lenS y1)] (.join 0 3 (.loop 1 [y0,ki 0] (W' [v' (X' .lss y5 y3)] (.ite y6 (.join 2 5 (W' [v' (n' .sidx y1 y5),v' (.conv .u64 y7),v' (X' .xor y4 y8),v' (X' .mul y9 (k' 1099511628211))] (J' 2 [y10,y7,y8,y9,y10])) (W' [v' (P' y5 (ki 1))] (J' 1 [y7,y12]))) (J' 0 [y4,y5,y6])))) (W' [v' (X' .mul y4 (k' 1099511628211))] (R' y7 y2)))
noncomputable def e21:=e' 21 Tryz.f21 true false [] [] [] [true,true] t21
theorem ok21:EntOk Tryz.prog e21:=EntOk.ofPlain Tryz.func21 (by kernel_rfl) (by kernel_rfl)

noncomputable def t84:T:=W' [c' 163 y3 [y0,y1,y2] [true,true],v' (m' (.ifnil true) (t' y4))] (.ite y5 (W' [c' 164 y3 [Z' #[80,97,114,115,101,85,105,110,116],y0,y1,y2,t' y4] [true]] (R' (C' (s' y4) y6) y3)) (R' (C' (s' y4) (.const (.v .nilIface))) y3))
noncomputable def e84:=e' 84 Tryz.f84 true false [] [] [] [true,true,true] t84
theorem ok84:EntOk Tryz.prog e84:=EntOk.ofPlain Tryz.func84 (by kernel_rfl) (by kernel_rfl)

noncomputable def t108:T:=W' [c' 185 y2 [y0,y1] [true],v' (X' .geq y3 (ki 0))] (R' y4 y2)
noncomputable def e108:=e' 108 Tryz.f108 true false [] [] [] [true,true] t108
theorem ok108:EntOk Tryz.prog e108:=EntOk.ofPlain Tryz.func108 (by kernel_rfl) (by kernel_rfl)

noncomputable def t110:T:=W' [v' (.bin .neq .ptr y0 (.const (.v (.pointer none)))),g' y2 (.nn y0),g' y2 (p' 4 y3),g' y2 (l' y1 y4),g' y2 (.bin .neq .mp y5 (.const (.v (.map none)))),v' (.ite y2 y6 (kb false))] (R' y7 y1)
noncomputable def e110:=e' 110 Tryz.f110 true false [] [] [] [true] t110
theorem ok110:EntOk Tryz.prog e110:=EntOk.ofPlain Tryz.func110 (by kernel_rfl) (by kernel_rfl)

noncomputable def t119:T:=W' [v' (.aggN 14 y0),v' (.lenL (q' 0 y2)),c' 190 y1 [y3,ki 1,ki 100] [true],v' (N' y4),f' y5 (q' 1 y2),.call [(y5,false)] 190 y1 [y6,ki 1,ki 20] [true],f' y5 (N' y7),v' (.ite y5 (kb true) y8),f' y9 (q' 0 y2),f' y9 (.eaddr 4 y10 (ki 0)),f' y9 (p' 1 y11),f' y9 (l' y1 y12),f' y9 (X' .neq y13 (ki 0)),v' (.ite y9 (kb true) y14)] (.ite y15 (R' (ki 2) y1) (W' [v' (.lenL (q' 0 y2))] (.join 0 2 (.loop 1 [ki 0] (W' [v' (X' .lss y17 y16)] (.ite y18 (.join 2 14 (W' [v' (.eaddr 4 (q' 0 y2) y17),v' (.ld true 4 y1 y19),v' (.aggN 4 y20),v' (X' .gtr y17 (ki 0)),g' y22 (q' 1 y21),g' y22 (q' 0 y2),g' y22 (M' y17 (ki 1)),g' y22 (.eaddr 4 y24 y25),g' y22 (p' 1 y26),g' y22 (l' y1 y27),g' y22 (M' y23 y28),.call [(y22,true)] 190 y1 [y29,ki 0,ki 1] [true],g' y22 (N' y30),v' (.ite y22 y31 (kb false)),f' y32 (q' 1 y21),f' y32 (X' .geq y33 (ki 6)),v' (.ite y32 (kb true) y34)] (.ite y35 (R' (ki 2) y1) (.join 3 2 (W' [v' (Q' (q' 0 y21) (ki 1))] (.join 4 0 (.ite y36 (W' [c' 190 y1 [q' 2 y21,ki 0,ki 1440] [true],v' (N' y37)] (.ite y38 (R' (ki 2) y1) (J' 4 []))) (W' [v' (Q' (q' 0 y21) (ki 2))] (.ite y37 (W' [v' (X' .neq (q' 2 y21) (ki 0)),f' y38 (q' 3 y21),v' (.ite y38 (kb true) y39)] (.ite y40 (R' (ki 2) y1) (J' 4 []))) (R' (ki 2) y1)))) (J' 3 [y36,y36]))) (J' 2 [y19,y20,y22,y22,y32,y32,y35,q' 0 y21,y36,y37,q' 0 y21,q' 1 y21,q' 2 y21,q' 3 y21])))) (W' [v' (P' y17 (ki 1))] (J' 1 [y33]))) (J' 0 [y17,y18])))) (W' [v' (.lcons (z' (q' 2 y2)) (.lcons (z' (q' 3 y2)) (.lcons (z' (q' 8 y2)) (.const (.lst []))))),c' 191 y1 [y19,ki 3,ki 3,ki 36000000] [true],v' (N' y20),f' y21 (q' 4 y2),f' y21 (q' 5 y2),f' y21 (.lcons (z' y22) (.lcons (z' y23) (.const (.lst [])))),.call [(y21,false)] 191 y1 [y24,ki 2,ki 2,ki 1440] [true],f' y21 (N' y25),v' (.ite y21 (kb true) y26),f' y27 (q' 6 y2),.call [(y27,false)] 191 y1 [y28,ki 1,ki 10,ki 36000000] [true],f' y27 (N' y29),v' (.ite y27 (kb true) y30)] (.ite y31 (R' (ki 2) y1) (W' [v' (X' .lss (q' 9 y2) (ki 1)),f' y32 (q' 9 y2),f' y32 (X' .gtr y33 (ki 4)),v' (.ite y32 (kb true) y34),f' y35 (q' 10 y2),.call [(y35,false)] 190 y1 [y36,ki 100,ki 1000] [true],f' y35 (N' y37),v' (.ite y35 (kb true) y38),f' y39 (q' 12 y2),.call [(y39,false)] 191 y1 [y40,ki 0,ki 60,ki 1000] [true],f' y39 (N' y41),v' (.ite y39 (kb true) y42),f' y43 (q' 13 y2),.call [(y43,false)] 191 y1 [y44,ki 0,ki 60,ki 1000] [true],f' y43 (N' y45),v' (.ite y43 (kb true) y46)] (.ite y47 (R' (ki 2) y1) (W' [v' (.lenL (q' 0 y2)),v' (M' y48 (ki 1)),c' 190 y1 [q' 11 y2,ki (-1),y49] [true],v' (N' y50),f' y51 (q' 11 y2),f' y51 (X' .geq y52 (ki 0)),f' y51 (G' y53 (q' 0 y2)),f' y51 (G' y53 (q' 11 y2)),f' y51 (G' y53 (.eaddr 4 y54 y55)),f' y51 (G' y53 (p' 0 y56)),f' y51 (G' y53 (l' y1 y57)),f' y51 (G' y53 (X' .neq y58 (ki 2))),f' y51 (.ite y53 y59 (kb false)),v' (.ite y51 (kb true) y60)] (.ite y61 (R' (ki 2) y1) (R' (ki 0) y1))))))))))
noncomputable def e119:=e' 119 Tryz.f119 true false [] [] [] [false] t119
theorem ok119:EntOk Tryz.prog e119:=EntOk.ofPlain Tryz.func119 (by kernel_rfl) (by kernel_rfl)

noncomputable def t140:T:=W' [v' (X' .geq y0 y1),g' y4 (X' .leq y0 y2),v' (.ite y4 y5 (kb false))] (R' y6 y3)
noncomputable def e140:=e' 140 Tryz.f140 true false [] [] [] [true,true,true] t140
theorem ok140:EntOk Tryz.prog e140:=EntOk.ofPlain Tryz.func140 (by kernel_rfl) (by kernel_rfl)

noncomputable def t166:T:=W' [v' (.aggN 4 y0),v' (Q' (q' 0 y2) (ki 2))] (R' y3 y1)
noncomputable def e166:=e' 166 Tryz.f166 true false [] [] [] [false] t166
theorem ok166:EntOk Tryz.prog e166:=EntOk.ofPlain Tryz.func166 (by kernel_rfl) (by kernel_rfl)

noncomputable def t170:T:=.nilq y0 false (.ite y2 (R' (.const (.lst [])) y1) (W' [v' (.const (.lst [])),v' (.app 4 32 y3 y0)] (R' y4 y1)))
noncomputable def e170:=e' 170 Tryz.f170 true false [] [] [] [true] t170
theorem ok170:EntOk Tryz.prog e170:=EntOk.ofPlain Tryz.func170 (by kernel_rfl) (by kernel_rfl)

noncomputable def t171:T:=W' [v' (.aggN 3 y0),c' 111 y2 [q' 0 y3,ki 1,ki 200] [true],v' (N' y4),f' y5 (q' 1 y3),.call [(y5,false)] 111 y2 [y6,ki 2,ki 30] [true],f' y5 (N' y7),v' (.ite y5 (kb true) y8),f' y9 (q' 2 y3),f' y9 (.lenL y10),f' y9 (q' 1 y3),f' y9 (M' y12 (ki 1)),f' y9 (X' .neq y11 y13),v' (.ite y9 (kb true) y14),f' y15 (.lenL y1),f' y15 (X' .gtr y16 (ki 50)),v' (.ite y15 (kb true) y17)] (.ite y18 (R' (kb false) y2) (W' [c' 232 y2 [q' 2 y3,.const (.fn 233 [] [])] [true],v' (N' y19),.call [(y20,true)] 234 y2 [y1,.const (.fn 235 [] [])] [true],g' y20 (N' y21),v' (.ite y20 y22 (kb false))] (R' y23 y2)))
noncomputable def e171:=e' 171 Tryz.f171 true false [] [] [] [false,true] t171
theorem ok171:EntOk Tryz.prog e171:=EntOk.ofPlain Tryz.func171 (by kernel_rfl) (by kernel_rfl)

noncomputable def t174:T:=W' [c' 240 y1 [y0,ki 10] [true]] (R' y2 y1)
noncomputable def e174:=e' 174 Tryz.f174 true false [] [] [] [true] t174
theorem ok174:EntOk Tryz.prog e174:=EntOk.ofPlain Tryz.func174 (by kernel_rfl) (by kernel_rfl)

noncomputable def t212:T:=W' [v' (X' .neq y0 (ki 0))] (.join 0 0 (.ite y2 (W' [v' (j' (z' y0) .nil)] (.pan (m' .isifc (.ifc 172 y3)) y1 [] [])) (J' 0 [])) (R' .tnil y1))
noncomputable def e212:=e' 212 Tryz.f212 true false [] [] [] [true] t212
theorem ok212:EntOk Tryz.prog e212:=EntOk.ofPlain Tryz.func212 (by kernel_rfl) (by kernel_rfl)

noncomputable def t282:T:=W' [v' (.lenL y0)] (.join 0 2 (.loop 1 [ki 0] (W' [v' (X' .lss y4 y3)] (.ite y5 (.join 2 3 (W' [v' (.eaddr 1 y0 y4),v' (l' y2 y6),.callv [] y1 y2 [y7] [true]] (.ite y8 (R' y4 y2) (J' 2 [y6,y7,y8]))) (W' [v' (P' y4 (ki 1))] (J' 1 [y9]))) (J' 0 [y4,y5])))) (R' (ki (-1)) y2))
noncomputable def e282:=e' 282 Tryz.f282 true false [] [] [] [true,true] t282
theorem ok282:EntOk Tryz.prog e282:=EntOk.ofPlain Tryz.func282 (by kernel_rfl) (by kernel_rfl)

noncomputable def t283:T:=W' [v' (.lenL y0)] (.join 0 2 (.loop 1 [ki 0] (W' [v' (X' .lss y4 y3)] (.ite y5 (.join 2 3 (W' [v' (.eaddr 2 y0 y4),v' (.ld true 2 y2 y6),.callv [] y1 y2 [y7] [true]] (.ite y8 (R' y4 y2) (J' 2 [y6,y7,y8]))) (W' [v' (P' y4 (ki 1))] (J' 1 [y9]))) (J' 0 [y4,y5])))) (R' (ki (-1)) y2))
noncomputable def e283:=e' 283 Tryz.f283 true false [] [] [] [true,true] t283
theorem ok283:EntOk Tryz.prog e283:=EntOk.ofPlain Tryz.func283 (by kernel_rfl) (by kernel_rfl)

noncomputable def t155:T:=W' [v' (.aggN 2 y1)] (.wpcall 211 y2 [agc 2 y3,ki 3] [true] [] [] (W' [v' (.newb 36 1 (t' y4) (.const (.agg [.snil]))),v' (.sto 1 y5 (.fstid (t' y4)) (s' y4)),v' (l' y6 (.fstid (t' y4))),v' (.eaddr 1 y7 (ki 0)),v' (l' y6 y8)] (.pcall 214 y6 [y0,y9] [true] [] [] (W' [v' (l' y6 (.fstid (t' y4))),v' (.eaddr 1 y11 (ki 1)),v' (l' y6 y12),v' (.nn y0),v' (p' 33 y14),v' (l' y6 y15),v' (.eaddr 3 y16 y10),v' (p' 1 y17),v' (l' y6 y18),v' (.lenL y19),v' (X' .geq y13 y20)] (.join 0 0 (.ite y21 (.pcall 212 y6 [ki 2] [] [] [] (J' 0 [])) (J' 0 [])) (W' [v' (.mkfn 219 .tnil (.tcons (.fstid (t' y4)) .tnil))] (.wpcall 217 y6 [y0,y10,y22] [] [] [] (R' .tnil (t' y23)))))))))
noncomputable def e155:=e' 155 Tryz.f155 false false [211] [] [] [true,false] t155
theorem ok155:EntOk Tryz.prog e155:=EntOk.ofPlain Tryz.func155 (by kernel_rfl) (by kernel_rfl)

noncomputable def t156:T:=W' [v' (.aggN 2 y1),v' (.lenL (q' 1 y3)),v' (M' y4 (ki 1)),v' (X' .geq y5 (ki 0)),g' y6 (q' 1 y3),g' y6 (.eaddr 1 y7 y5),g' y6 (l' y2 y8),g' y6 (.bin .eql .str y9 (Z' #[106,117,109,112])),v' (.ite y6 y10 (kb false))] (.join 0 3 (.ite y11 (W' [v' (.sub 1 (q' 1 y3) (ki 0) y5),v' (P' (ki 0) (ki 1))] (J' 0 [y13,y12,kb true])) (J' 0 [ki 0,q' 1 y3,kb false])) (W' [v' (.lenL y13),v' (M' y15 (ki 1)),v' (X' .geq y16 (ki 0)),g' y17 (.eaddr 1 y13 y16),g' y17 (l' y2 y18),g' y17 (.bin .eql .str y19 (Z' #[115,116,111,112,112,101,100])),v' (.ite y17 y20 (kb false))] (.join 0 3 (.ite y21 (W' [v' (.sub 1 y13 (ki 0) y16),v' (P' y12 (ki 1))] (J' 0 [y23,y22,ki 1])) (J' 0 [y12,y13,ki 0])) (W' [v' (.lenL y23),v' (M' y25 (ki 1)),v' (Q' y22 (ki 0)),g' y27 (X' .geq y26 (ki 0)),v' (.ite y27 y28 (kb false)),g' y29 (.eaddr 1 y23 y26),g' y29 (l' y2 y30),g' y29 (.bin .eql .str y31 (Z' #[109,105,115,115,101,100])),v' (.ite y29 y32 (kb false))] (.join 0 2 (.ite y33 (W' [v' (.sub 1 y23 (ki 0) y26)] (J' 0 [y34,ki 2])) (J' 0 [y23,y24])) (W' [v' (m' .newm y2),v' (.m4 (.put .int) y36 (m' .fstm y2) (ki 0) (ki 4)),v' (.m4 (.put .int) y37 (m' .fstm y2) (ki 1) (ki 3)),v' (.m4 (.put .int) y38 (m' .fstm y2) (ki 2) (ki 2)),v' (.m4 (.get .int false) y39 (m' .fstm y2) y35 (ki 0))] (.wpcall 211 y39 [j' (q' 0 y3) (j' y34 .nil),y40] [true] [] [] (W' [v' (.lenL (s' y41)),v' (X' .gtr y42 (ki 2))] (.join 0 1 (.ite y43 (W' [v' (.eaddr 1 (s' y41) (ki 2)),v' (l' (t' y41) y44)] (J' 0 [y45])) (J' 0 [ki 0])) (W' [v' (.lenL (s' y41)),v' (X' .gtr y45 (ki 3))] (.join 0 1 (.ite y46 (W' [v' (.eaddr 1 (s' y41) (ki 3)),v' (l' (t' y41) y47)] (J' 0 [y48])) (J' 0 [ki 0])) (W' [v' (.eaddr 1 (s' y41) (ki 0)),v' (l' (t' y41) y48),c' 214 (t' y41) [y0,y49] [true],v' (.eaddr 1 (s' y41) (ki 1)),v' (l' (t' y41) y51)] (.wpcall 220 (t' y41) [y0,y50,y52,j' y44 (j' y47 (j' y14 (j' y35 .nil)))] [] [] [] (R' .tnil (t' y53)))))))))))))))
noncomputable def e156:=e' 156 Tryz.f156 false false [211] [] [] [true,false] t156
theorem ok156:EntOk Tryz.prog e156:=EntOk.ofPlain Tryz.func156 (by kernel_rfl) (by kernel_rfl)

noncomputable def t157:T:=W' [v' (.mkptr (j' (z' y0) .nil)),v' (.aggN 2 y1)] (.wpcall 211 y2 [agc 2 y4,ki 4] [true] [] [] (W' [v' (.newb 36 1 (t' y5) (.const (.agg [.snil]))),v' (.sto 1 y6 (.fstid (t' y5)) (s' y5)),v' (l' y7 y3),v' (l' y7 (.fstid (t' y5))),v' (.eaddr 1 y9 (ki 0)),v' (l' y7 y10),c' 214 y7 [y8,y11] [true],v' (l' y7 (.fstid (t' y5))),v' (.eaddr 1 y13 (ki 1)),v' (l' y7 y14),v' (l' y7 y3),v' (.nn y16),v' (p' 0 y17),v' (p' 10 y18),v' (p' 0 y19),v' (l' y7 y20),v' (.lenL y21),v' (X' .geq y15 y22)] (.join 0 0 (.ite y23 (.pcall 212 y7 [ki 2] [] [] [] (J' 0 [])) (J' 0 [])) (W' [v' (.mkfn 221 .tnil (C' y3 (.fstid (t' y5)))),.wcallv [] y24 y7 [ki 0] [true],v' (l' (t' y25) y3),v' (.nn y26),v' (p' 0 y27),v' (p' 6 y28),v' (p' 1 y29),v' (l' (t' y25) y30),v' (M' y31 (ki 1)),.wcallv [] y24 (t' y25) [y32] [true],v' (n' .same (l' (t' y25) y3) (l' y7 y3)),v' (n' .same (l' (t' y25) y30) (l' y7 y30)),v' (X' .leq (s' y33) (s' y25))] (.join 0 0 (.ite y36 (.pcall 212 (t' y33) [ki 2] [] [] [] (J' 0 [])) (J' 0 [])) (W' [v' (l' (t' y33) y3),v' (l' (t' y33) (.fstid (t' y5))),v' (.eaddr 1 y38 (ki 1)),v' (l' (t' y33) y39),v' (l' (t' y33) (.fstid (t' y5))),v' (.eaddr 1 y41 (ki 2)),v' (l' (t' y33) y42),v' (M' (s' y33) (s' y25)),v' (j' (z' y43) (j' (z' y44) (j' (.const (.agg [.v (.bool false)])) (j' (.const (.agg [.v (.int .i64 0)])) .nil))))] (.wpcall 220 (t' y33) [y37,y12,y40,y45] [] [] [] (R' .tnil (t' y46)))))))))
noncomputable def e157:=e' 157 Tryz.f157 false false [211,1000030,1000039] [] [] [true,false] t157
theorem ok157:EntOk Tryz.prog e157:=EntOk.ofPlain Tryz.func157 (by kernel_rfl) (by kernel_rfl)

noncomputable def t278:T:=W' [v' (.mkptr (j' (z' y0) .nil)),v' (.mkptr (j' (z' y2) .nil)),v' (.newb 36 1 y3 (.const (.agg [.snil]))),v' (l' y6 y4),c' 117 y6 [y7,y1] [true]] (.join 0 1 (.rfor y8 y6 [0,1,2,3,5,6,7,12,13,14] [y0,y1,y2,y4,y5,ki 0,.fstid y3,y7,y1,y8] 2 1 (W' [v' (.newb 228 7 y9 (.const (.agg [.v (.int .i64 0),.v (.int .i64 0),.v (.int .i64 0),.v (.int .i64 0),.v (.int .i64 0),.v (.int .i64 0),.v (.int .i64 0)]))),v' (.sto 7 y12 (.fstid y9) y11)] (.join 2 6 (W' [v' (p' 2 (.fstid y9)),v' (l' y13 y14),v' (Q' y15 (ki 1)),g' y16 (p' 4 (.fstid y9)),g' y16 (l' y13 y17),g' y16 (l' y13 y5),g' y16 (Q' y18 y19),v' (.ite y16 y20 (kb false))] (.join 3 1 (.ite y21 (W' [v' (l' y13 (.fstid y3)),v' (.lcons (z' y10) (.const (.lst []))),v' (.apph 3 1 8 y13 y22 y23),v' (.sto 1 y24 (.fstid y3) (.apps y13 y22 y23))] (J' 3 [y25])) (J' 3 [y13])) (J' 2 [y14,y15,y16,y16,y21,y22]))) (J' 1 [y19]))) (J' 0 [y9])) (W' [v' (l' y9 (.fstid y3)),v' (.mkfn 308 .tnil (.tcons y4 .tnil)),c' 307 y9 [y10,y11] [true,true],v' (N' (t' y12))] (.ite y13 (R' (ki (-1)) y9) (R' (s' y12) y9))))
noncomputable def e278:=e' 278 Tryz.f278 false false [] [] [] [true,true,true] t278
theorem ok278:EntOk Tryz.prog e278:=EntOk.ofPlain Tryz.func278 (by kernel_rfl) (by kernel_rfl)

noncomputable def t287:T:=W' [v' (P' y1 (ki 1))] (.join 0 4 (.loop 1 [y5,y4] (W' [v' (X' .lss y6 y2)] (.ite y8 (.join 2 6 (.join 3 6 (.loop 4 [y6,y7] (W' [v' (X' .gtr y9 y1),g' y11 (.eaddr 7 y0 y9),g' y11 (.ld true 7 y10 y12),g' y11 (M' y9 (ki 1)),g' y11 (.eaddr 7 y0 y14),g' y11 (.ld true 7 y10 y15),.callv [(y11,true)] y3 y10 [y13,y16] [true],g' y11 (X' .lss y17 (ki 0)),v' (.ite y11 y18 (kb false))] (.ite y19 (.join 5 9 (W' [v' (M' y9 (ki 1)),v' (M' y9 (ki 1)),v' (.eaddr 7 y0 y21),v' (.ld true 7 y10 y22),v' (.eaddr 7 y0 y9),v' (.ld true 7 y10 y24),v' (.eaddr 7 y0 y9),v' (.sto 7 y10 y26 y23),v' (.eaddr 7 y0 y20),v' (.sto 7 y27 y28 y25)] (J' 5 [y20,y21,y22,y23,y24,y25,y26,y28,y29])) (W' [v' (M' y9 (ki 1))] (J' 4 [y29,y28]))) (J' 3 [y9,y9,y11,y11,y19,y10])))) (J' 2 [y9,y10,y11,y12,y13,y14])) (W' [v' (P' y6 (ki 1))] (J' 1 [y15,y14]))) (J' 0 [y6,y6,y8,y7])))) (R' .tnil y9))
noncomputable def e287:=e' 287 Tryz.f287 false false [] [] [] [true,true,true,true] t287
theorem ok287:EntOk Tryz.prog e287:=EntOk.ofPlain Tryz.func287 (by kernel_rfl) (by kernel_rfl)

noncomputable def t36:T:=W' [v' (.aggN 3 y0),w' 85 y1 [q' 1 y2] [true],w' 86 (t' y3) [q' 2 y2] [true]] (R' (j' (q' 0 y2) (j' (s' y3) (j' (s' y4) .nil))) (t' y4))
noncomputable def e36:=e' 36 Tryz.f36 false false [85,86] [] [] [false] t36
theorem ok36:EntOk Tryz.prog e36:=EntOk.ofPlain Tryz.func36 (by kernel_rfl) (by kernel_rfl)

noncomputable def t89:T:=W' [v' (.aggN 6 y0),c' 42 y1 [q' 0 y2,ki 1,ki 60] [true],v' (N' y3),f' y4 (q' 1 y2),.call [(y4,false)] 42 y1 [y5,ki 1,ki 100000] [true],f' y4 (N' y6),v' (.ite y4 (kb true) y7),f' y8 (q' 2 y2),f' y8 (q' 0 y2),.call [(y8,false)] 42 y1 [y9,ki 1,y10] [true],f' y8 (N' y11),v' (.ite y8 (kb true) y12),f' y13 (q' 3 y2),.call [(y13,false)] 42 y1 [y14,ki 0,ki 100000] [true],f' y13 (N' y15),v' (.ite y13 (kb true) y16),f' y17 (q' 4 y2),.call [(y17,false)] 42 y1 [y18,ki 1,ki 100000] [true],f' y17 (N' y19),v' (.ite y17 (kb true) y20),f' y21 (q' 5 y2),.call [(y21,false)] 42 y1 [y22,ki 1,ki 200] [true],f' y21 (N' y23),v' (.ite y21 (kb true) y24)] (.ite y25 (R' (C' (.const (.v (.pointer none))) (ki 2)) y1) (W' [v' (.rep 24 (q' 0 y2) (.agg [.v (.bool false),.v (.int .i64 0),.v (.bool false)])),v' (.rep 24 (q' 0 y2) (.agg [.v (.bool false),.v (.int .i64 0),.v (.bool false)])),v' (.rep 32 (q' 5 y2) (.agg [.v (.bool false),.v (.int .i64 0),.v (.int .i64 0),.v (.bool false),.v (.bool false)])),v' (j' (.aggN 6 (agc 6 y2)) (j' (.const (.agg [.v (.bool false),.v (.int .i64 0),.v (.bool false),.v (.bool false),.v (.int .i64 0),.v (.bool false)])) (j' (kb false) (j' (kb false) (j' (kb false) .nil))))),v' (.nn (.fstid (.newv 1000000000 5 (.newv 1000000000 3 (.newv 1000000000 3 y1 y26) y27) y28))),v' (p' 14 y30),v' (l' (.newb 1000000000 15 (.newv 1000000000 5 (.newv 1000000000 3 (.newv 1000000000 3 y1 y26) y27) y28) (j' (q' 0 y29) (j' (q' 1 y29) (j' (q' 2 y29) (j' (q' 3 y29) (j' (q' 4 y29) (j' (q' 5 y29) (j' (q' 6 y29) (j' (q' 7 y29) (j' (q' 8 y29) (j' (q' 9 y29) (j' (q' 10 y29) (j' (q' 11 y29) (j' (.fstsl y1 y26) (j' (.fstsl (.newv 1000000000 3 y1 y26) y27) (j' (.fstsl (.newv 1000000000 3 (.newv 1000000000 3 y1 y26) y27) y28) .nil)))))))))))))))) y31),v' (.lenL y32)] (.join 0 3 (.loop 1 [ki 0,.newb 1000000000 15 (.newv 1000000000 5 (.newv 1000000000 3 (.newv 1000000000 3 y1 y26) y27) y28) (j' (q' 0 y29) (j' (q' 1 y29) (j' (q' 2 y29) (j' (q' 3 y29) (j' (q' 4 y29) (j' (q' 5 y29) (j' (q' 6 y29) (j' (q' 7 y29) (j' (q' 8 y29) (j' (q' 9 y29) (j' (q' 10 y29) (j' (q' 11 y29) (j' (.fstsl y1 y26) (j' (.fstsl (.newv 1000000000 3 y1 y26) y27) (j' (.fstsl (.newv 1000000000 3 (.newv 1000000000 3 y1 y26) y27) y28) .nil)))))))))))))))] (W' [v' (X' .lss y34 y33)] (.ite y36 (.join 2 6 (W' [v' (.nn (.fstid (.newv 1000000000 5 (.newv 1000000000 3 (.newv 1000000000 3 y1 y26) y27) y28))),v' (p' 14 y37),v' (l' y35 y38),v' (.eaddr 5 y39 y34),v' (p' 2 y40),v' (.sto 1 y35 y41 (ki (-1)))] (J' 2 [y37,y38,y39,y40,y41,y42])) (W' [v' (P' y34 (ki 1))] (J' 1 [y43,y42]))) (J' 0 [y34,y36,y35])))) (R' (C' (.fstid (.newv 1000000000 5 (.newv 1000000000 3 (.newv 1000000000 3 y1 y26) y27) y28)) (ki 0)) y36))))
noncomputable def e89:=e' 89 Tryz.f89 false false [] [] [(4,1000045),(4,1000048),(4,1000051),(4,1000053)] [false] t89
theorem ok89:EntOk Tryz.prog e89:=EntOk.ofPlain Tryz.func89 (by kernel_rfl) (by kernel_rfl)

noncomputable def t18:T:=W' [v' (.aggN 30 y0),w' 37 y2 [agc 30 y3] [true,true]] (.join 0 5 (W' [v' (X' .neq (t' (s' y4)) (ki 0))] (.ite y5 (R' (C' (Z' #[]) (t' (s' y4))) (t' y4)) (W' [v' (.lenS y1),v' (X' .gtr y6 (ki 50000))] (.ite y7 (R' (C' (Z' #[]) (ki 4)) (t' y4)) (J' 0 [y5,y5,y7,y6,y7]))))) (W' [w' 38 (t' y4) [.ifc 33 (s' (s' y4)),y1] [true]] (R' (C' (s' y10) (ki 0)) (t' y10))))
noncomputable def e18:=e' 18 Tryz.f18 false true [] [] [] [false,true] t18
theorem ok18:EntOk Tryz.prog e18:=EntOk.ofPlain Tryz.func18 (by kernel_rfl) (by kernel_rfl)

end Go.Am.Ra
