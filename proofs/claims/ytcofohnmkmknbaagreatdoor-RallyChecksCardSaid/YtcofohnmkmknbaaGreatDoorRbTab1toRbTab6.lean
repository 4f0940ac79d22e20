/-
  Several texts, one behind the other.
-/
import Derived.Test.YtcofohnmkmknbaaGreatDoorRbBasetoRbP1
set_option linter.unusedSimpArgs false
set_option linter.unusedVariables false
set_option maxRecDepth 100000
namespace Go.Am.Rb
section
open Go.Proofs

noncomputable def t147:T:=W' [v' (.bin .neq .ptr y0 (.const (.v (.pointer none)))),g' y2 (.nn y0),g' y2 (p' 14 y3),g' y2 (l' y1 y4),g' y2 (.aR y5),g' y2 (X' .gtr y6 (ki 0)),v' (.ite y2 y7 (kb false))] (R' y8 y1)
noncomputable def anl:=e' 147 Tryz.f147 true false [] [] [] [true] t147
theorem SP:aV Tryz.prog anl:=O' Tryz.func147

noncomputable def t184:T:=W' [v' (.nn y0),v' (p' 14 y4),v' (l' y3 y5),v' (.sub 5 y6 y1 (.aR y6)),c' 213 y3 [y7,.const (.fn 214 [] [])] [true]] (R' y8 y3)
noncomputable def axu:=e' 184 Tryz.f184 true false [] [] [] [true,true,true] t184
theorem avv:aV Tryz.prog axu:=O' Tryz.func184

noncomputable def t51:T:=W' [c' 67 y2 [y0] [true],c' 67 y2 [y1] [true]] (.ite y3 (.ite y4 (R' (ki 0) y2) (R' (ki (-1)) y2)) (.ite y4 (R' (ki 1) y2) (W' [v' (X' .lss y0 y1)] (.ite y5 (R' (ki (-1)) y2) (W' [v' (X' .gtr y0 y1)] (.ite y6 (R' (ki 1) y2) (R' (ki 0) y2)))))))
noncomputable def e51:=e' 51 Tryz.f51 true false [] [] [] [true,true] t51
theorem ayk:aV Tryz.prog e51:=O' Tryz.func51

noncomputable def t11:T:=W' [c' 28 y1 [y0] [true],v' (N' y2)] (.ite y3 (R' (.const (.bq [])) y1) (W' [v' (.nn y0),v' (p' 33 y4),v' (l' y1 y5),v' (.aR y6)] (.join 0 4 (.loop 1 [.const .cq,ki 0,y1] (W' [v' (X' .lss y9 y7)] (.ite y11 (.join 2 11 (W' [v' (.aj 3 y6 y9),v' (.ld true 3 y10 y12),v' (.bB 3 y13),w' 31 y10 [fN 3 y14] [false],v' (.bz (.bB 3 (s' y15)) (.const (.bq []))),v' (.fU 66 3 56 (t' y15) y8 y16)] (J' 2 [.apps (t' y15) y8 y16,y12,y13,fN 3 y14,s' y15,y16,.apps (t' y15) y8 y16,q' 0 y14,q' 1 y14,q' 2 y14,y17])) (W' [v' (P' y9 (ki 1))] (J' 1 [y12,y23,y22]))) (J' 0 [y8,y9,y11,y10])))) (R' y8 y11))))
noncomputable def e11:=e' 11 Tryz.f11 false false [31] [3,22] [] [true] t11
theorem aHC:aV Tryz.prog e11:=O' Tryz.func11

noncomputable def t103:T:=W' [c' 132 y2 [y0,y1] [true]] (R' y3 y2)
noncomputable def ahb:=e' 103 Tryz.f103 true false [] [] [] [true,true] t103
theorem aes:aV Tryz.prog ahb:=O' Tryz.func103

noncomputable def t104:T:=.join 0 4 (W' [v' (Q' y1 (ki 0))] (.ite y3 (R' (Z' #[]) y2) (W' [v' (Q' y1 (ki 1))] (.ite y4 (R' y0 y2) (J' 0 [y3,y3,y4,y4]))))) (W' [v' (X' .lss y1 (ki 0))] (.join 0 0 (.ite y7 (.fc (m' .UI (.oO 9 (Z' #[115,116,114,105,110,103,115,58,32,110,101,103,97,116,105,118,101,32,82,101,112,101,97,116,32,99,111,117,110,116]))) y2 [] []) (J' 0 [])) (W' [v' (.uJ y0),v' (.conv .u64 y8),v' (.conv .u64 y1),c' 133 y2 [y9,y10] [true,true],v' (X' .gtr (s' y11) (k' 0)),f' y12 (t' y11),f' y12 (X' .gtr y13 (k' 9223372036854775807)),v' (.ite y12 (kb true) y14)] (.join 0 0 (.ite y15 (.fc (m' .UI (.oO 9 (Z' #[115,116,114,105,110,103,115,58,32,82,101,112,101,97,116,32,111,117,116,112,117,116,32,108,101,110,103,116,104,32,111,118,101,114,102,108,111,119]))) y2 [] []) (J' 0 [])) (W' [v' (.conv .i64 (t' y11)),v' (.uJ y0),v' (Q' y17 (ki 0))] (.ite y18 (R' (Z' #[]) y2) (W' [v' (n' .eJ y0 (ki 0))] (.join 0 2 (W' [v' (Q' y19 (K' 32))] (.join 1 1 (.ite y20 (J' 1 [y20]) (W' [v' (Q' y19 (K' 45))] (.join 2 1 (.ite y21 (J' 2 [y21]) (W' [v' (Q' y19 (K' 48))] (.join 3 1 (.ite y22 (J' 3 [y22]) (W' [v' (Q' y19 (K' 61))] (.join 4 1 (.ite y23 (J' 4 [y23]) (W' [v' (Q' y19 (K' 9))] (J' 4 [y24]))) (J' 3 [y24])))) (J' 2 [y23])))) (J' 1 [y22])))) (.join 1 0 (.ite y21 (.join 2 20 (W' [v' (X' .leq y16 (ki 128)),.call [(y22,true)] 134 y2 [Z' #[32,32,32,32,32,32,32,32,32,32,32,32,32,32,32,32,32,32,32,32,32,32,32,32,32,32,32,32,32,32,32,32,32,32,32,32,32,32,32,32,32,32,32,32,32,32,32,32,32,32,32,32,32,32,32,32,32,32,32,32,32,32,32,32,32,32,32,32,32,32,32,32,32,32,32,32,32,32,32,32,32,32,32,32,32,32,32,32,32,32,32,32,32,32,32,32,32,32,32,32,32,32,32,32,32,32,32,32,32,32,32,32,32,32,32,32,32,32,32,32,32,32,32,32,32,32,32,32],y0] [true],v' (.ite y22 y23 (kb false))] (.ite y24 (W' [v' (o' .Qix (Z' #[32,32,32,32,32,32,32,32,32,32,32,32,32,32,32,32,32,32,32,32,32,32,32,32,32,32,32,32,32,32,32,32,32,32,32,32,32,32,32,32,32,32,32,32,32,32,32,32,32,32,32,32,32,32,32,32,32,32,32,32,32,32,32,32,32,32,32,32,32,32,32,32,32,32,32,32,32,32,32,32,32,32,32,32,32,32,32,32,32,32,32,32,32,32,32,32,32,32,32,32,32,32,32,32,32,32,32,32,32,32,32,32,32,32,32,32,32,32,32,32,32,32,32,32,32,32,32,32]) (ki 0) y16)] (R' y25 y2)) (W' [v' (X' .leq y16 (ki 128)),.call [(y25,true)] 134 y2 [Z' #[45,45,45,45,45,45,45,45,45,45,45,45,45,45,45,45,45,45,45,45,45,45,45,45,45,45,45,45,45,45,45,45,45,45,45,45,45,45,45,45,45,45,45,45,45,45,45,45,45,45,45,45,45,45,45,45,45,45,45,45,45,45,45,45,45,45,45,45,45,45,45,45,45,45,45,45,45,45,45,45,45,45,45,45,45,45,45,45,45,45,45,45,45,45,45,45,45,45,45,45,45,45,45,45,45,45,45,45,45,45,45,45,45,45,45,45,45,45,45,45,45,45,45,45,45,45,45,45],y0] [true],v' (.ite y25 y26 (kb false))] (.ite y27 (W' [v' (o' .Qix (Z' #[45,45,45,45,45,45,45,45,45,45,45,45,45,45,45,45,45,45,45,45,45,45,45,45,45,45,45,45,45,45,45,45,45,45,45,45,45,45,45,45,45,45,45,45,45,45,45,45,45,45,45,45,45,45,45,45,45,45,45,45,45,45,45,45,45,45,45,45,45,45,45,45,45,45,45,45,45,45,45,45,45,45,45,45,45,45,45,45,45,45,45,45,45,45,45,45,45,45,45,45,45,45,45,45,45,45,45,45,45,45,45,45,45,45,45,45,45,45,45,45,45,45,45,45,45,45,45,45]) (ki 0) y16)] (R' y28 y2)) (W' [v' (X' .leq y16 (ki 64)),.call [(y28,true)] 134 y2 [Z' #[48,48,48,48,48,48,48,48,48,48,48,48,48,48,48,48,48,48,48,48,48,48,48,48,48,48,48,48,48,48,48,48,48,48,48,48,48,48,48,48,48,48,48,48,48,48,48,48,48,48,48,48,48,48,48,48,48,48,48,48,48,48,48,48],y0] [true],v' (.ite y28 y29 (kb false))] (.ite y30 (W' [v' (o' .Qix (Z' #[48,48,48,48,48,48,48,48,48,48,48,48,48,48,48,48,48,48,48,48,48,48,48,48,48,48,48,48,48,48,48,48,48,48,48,48,48,48,48,48,48,48,48,48,48,48,48,48,48,48,48,48,48,48,48,48,48,48,48,48,48,48,48,48]) (ki 0) y16)] (R' y31 y2)) (W' [v' (X' .leq y16 (ki 128)),.call [(y31,true)] 134 y2 [Z' #[61,61,61,61,61,61,61,61,61,61,61,61,61,61,61,61,61,61,61,61,61,61,61,61,61,61,61,61,61,61,61,61,61,61,61,61,61,61,61,61,61,61,61,61,61,61,61,61,61,61,61,61,61,61,61,61,61,61,61,61,61,61,61,61,61,61,61,61,61,61,61,61,61,61,61,61,61,61,61,61,61,61,61,61,61,61,61,61,61,61,61,61,61,61,61,61,61,61,61,61,61,61,61,61,61,61,61,61,61,61,61,61,61,61,61,61,61,61,61,61,61,61,61,61,61,61,61,61],y0] [true],v' (.ite y31 y32 (kb false))] (.ite y33 (W' [v' (o' .Qix (Z' #[61,61,61,61,61,61,61,61,61,61,61,61,61,61,61,61,61,61,61,61,61,61,61,61,61,61,61,61,61,61,61,61,61,61,61,61,61,61,61,61,61,61,61,61,61,61,61,61,61,61,61,61,61,61,61,61,61,61,61,61,61,61,61,61,61,61,61,61,61,61,61,61,61,61,61,61,61,61,61,61,61,61,61,61,61,61,61,61,61,61,61,61,61,61,61,61,61,61,61,61,61,61,61,61,61,61,61,61,61,61,61,61,61,61,61,61,61,61,61,61,61,61,61,61,61,61,61,61]) (ki 0) y16)] (R' y34 y2)) (W' [v' (X' .leq y16 (ki 64)),.call [(y34,true)] 134 y2 [Z' #[9,9,9,9,9,9,9,9,9,9,9,9,9,9,9,9,9,9,9,9,9,9,9,9,9,9,9,9,9,9,9,9,9,9,9,9,9,9,9,9,9,9,9,9,9,9,9,9,9,9,9,9,9,9,9,9,9,9,9,9,9,9,9,9],y0] [true],v' (.ite y34 y35 (kb false))] (.ite y36 (W' [v' (o' .Qix (Z' #[9,9,9,9,9,9,9,9,9,9,9,9,9,9,9,9,9,9,9,9,9,9,9,9,9,9,9,9,9,9,9,9,9,9,9,9,9,9,9,9,9,9,9,9,9,9,9,9,9,9,9,9,9,9,9,9,9,9,9,9,9,9,9,9]) (ki 0) y16)] (R' y37 y2)) (J' 2 [y24,y22,y22,y24,y27,y25,y25,y27,y30,y28,y28,y30,y33,y31,y31,y33,y36,y34,y34,y36]))))))))))) (J' 1 [])) (J' 1 [])) (J' 0 [y21,y20])))) (W' [v' (X' .gtr y16 (ki 8192))] (.join 0 1 (.ite y22 (W' [v' (.uJ y0),v' (X' .quo (ki 8192) y23),v' (.uJ y0),v' (X' .mul y24 y25),v' (Q' y26 (ki 0))] (.join 1 1 (.ite y27 (W' [v' (.uJ y0)] (J' 1 [y28])) (J' 1 [y26])) (J' 0 [y28]))) (J' 0 [y16])) (.ret (.deref .nil))))))))))))
noncomputable def aha:=e' 104 Tryz.f104 true false [] [] [] [true,true] t104
theorem aer:aV Tryz.prog aha:=O' Tryz.func104

noncomputable def t72:T:=W' [v' (.cI 9 1 y1 (j' (z' y0) .nil)),v' (.gV 84 .ax (.aa (.aU y1) .ax))] (R' y3 y2)
noncomputable def e72:=e' 72 Tryz.f72 false false [] [1] [] [true] t72
theorem ajx:aV Tryz.prog e72:=O' Tryz.func72

noncomputable def t8:T:=W' [v' (.bB 30 y0),w' 17 y1 [fN 6 y2] [true,true],v' (X' .neq (t' (s' y3)) (ki 0))] (.ite y4 (R' (ki 2) (t' y3)) (W' [w' 18 (t' y3) [j' (q' 6 y2) (j' (q' 7 y2) (j' (q' 8 y2) .nil)),q' 9 y2] [true,true],v' (X' .neq (t' (s' y5)) (ki 0))] (.ite y6 (R' (ki 2) (t' y5)) (W' [c' 24 (t' y5) [j' (q' 10 y2) (j' (q' 11 y2) (j' (q' 12 y2) (j' (q' 13 y2) (j' (q' 14 y2) (j' (q' 15 y2) (j' (q' 16 y2) (j' (q' 17 y2) (j' (q' 18 y2) (j' (q' 19 y2) (j' (q' 20 y2) (j' (q' 21 y2) (j' (q' 22 y2) (j' (q' 23 y2) .nil)))))))))))))] [true],v' (X' .neq y7 (ki 0)),.call [(y8,false)] 25 (t' y5) [j' (q' 24 y2) (j' (q' 25 y2) (j' (q' 26 y2) (j' (q' 27 y2) (j' (q' 28 y2) (j' (q' 29 y2) .nil)))))] [true],f' y8 (X' .neq y9 (ki 0)),v' (.ite y8 (kb true) y10)] (.ite y11 (R' (ki 2) (t' y5)) (W' [v' (X' .neq (q' 5 y2) (q' 6 y2)),f' y12 (q' 24 y2),f' y12 (q' 6 y2),f' y12 (X' .neq y13 y14),v' (.ite y12 (kb true) y15),f' y16 (q' 0 y2),f' y16 (q' 7 y2),f' y16 (X' .neq y17 y18),v' (.ite y16 (kb true) y19),f' y20 (q' 10 y2),.call [(y20,false)] 27 (t' y5) [y21,.const (.fn 26 [] [])] [true],f' y20 (N' y22),v' (.ite y20 (kb true) y23)] (.ite y24 (R' (ki 2) (t' y5)) (R' (ki 0) (t' y5)))))))))
noncomputable def e8:=e' 8 Tryz.f8 false true [17,18] [] [] [false] t8
theorem ok8:aV Tryz.prog e8:=O' Tryz.func8

noncomputable def t212:T:=W' [v' (.bB 5 y0),v' (l' y3 y1),v' (l' y3 y2),v' (.nn y6),v' (p' 0 y7),v' (p' 3 y8),v' (l' y3 y9),v' (M' y5 y10),v' (X' .gtr (q' 1 y4) y11)] (R' y12 y3)
noncomputable def am2:=e' 212 Tryz.f212 true false [] [] [] [false,true,true] t212
theorem Qpw:aV Tryz.prog am2:=O' Tryz.func212

noncomputable def t61:T:=W' [v' (X' .geq y0 y1),g' y4 (X' .leq y0 y2),v' (.ite y4 y5 (kb false))] (R' y6 y3)
noncomputable def e61:=e' 61 Tryz.f61 true false [] [] [] [true,true,true] t61
theorem ayc:aV Tryz.prog e61:=O' Tryz.func61

noncomputable def t27:T:=W' [c' 52 y2 [y0,y1] [true],v' (X' .geq y3 (ki 0))] (R' y4 y2)
noncomputable def e27:=e' 27 Tryz.f27 true false [] [] [] [true,true] t27
theorem aHB:aV Tryz.prog e27:=O' Tryz.func27

noncomputable def t38:T:=.nk y0 false (.ite y2 (R' (.const (.bq [])) y1) (W' [v' (.const (.bq [])),v' (.app 4 32 y3 y0)] (R' y4 y1)))
noncomputable def e38:=e' 38 Tryz.f38 true false [] [] [] [true] t38
theorem avc:aV Tryz.prog e38:=O' Tryz.func38

noncomputable def t107:T:=W' [v' (X' .lss y0 (ki 10))] (.ite y2 (W' [v' (P' y0 (ki 1)),v' (o' .Qix (Z' #[48,49,50,51,52,53,54,55,56,57,97,98,99,100,101,102,103,104,105,106,107,108,109,110,111,112,113,114,115,116,117,118,119,120,121,122]) y0 y3)] (R' y4 y1)) (W' [v' (X' .mul y0 (ki 2)),v' (X' .mul y0 (ki 2)),v' (P' y4 (ki 2)),v' (o' .Qix (Z' #[48,48,48,49,48,50,48,51,48,52,48,53,48,54,48,55,48,56,48,57,49,48,49,49,49,50,49,51,49,52,49,53,49,54,49,55,49,56,49,57,50,48,50,49,50,50,50,51,50,52,50,53,50,54,50,55,50,56,50,57,51,48,51,49,51,50,51,51,51,52,51,53,51,54,51,55,51,56,51,57,52,48,52,49,52,50,52,51,52,52,52,53,52,54,52,55,52,56,52,57,53,48,53,49,53,50,53,51,53,52,53,53,53,54,53,55,53,56,53,57,54,48,54,49,54,50,54,51,54,52,54,53,54,54,54,55,54,56,54,57,55,48,55,49,55,50,55,51,55,52,55,53,55,54,55,55,55,56,55,57,56,48,56,49,56,50,56,51,56,52,56,53,56,54,56,55,56,56,56,57,57,48,57,49,57,50,57,51,57,52,57,53,57,54,57,55,57,56,57,57]) y3 y5)] (R' y6 y1)))
noncomputable def ag8:=e' 107 Tryz.f107 true false [] [] [] [true] t107
theorem aen:aV Tryz.prog ag8:=O' Tryz.func107

noncomputable def t142:T:=W' [v' (X' .geq y0 (k' 4294967296))] (.join 0 2 (.ite y2 (W' [v' (X' .shr y0 (k' 32))] (J' 0 [y3,ki 32])) (J' 0 [y0,ki 0])) (W' [v' (X' .geq y3 (k' 65536))] (.join 0 2 (.ite y5 (W' [v' (X' .shr y3 (k' 16)),v' (P' y4 (ki 16))] (J' 0 [y6,y7])) (J' 0 [y3,y4])) (W' [v' (X' .geq y6 (k' 256))] (.join 0 2 (.ite y8 (W' [v' (X' .shr y6 (k' 8)),v' (P' y7 (ki 8))] (J' 0 [y9,y10])) (J' 0 [y6,y7])) (W' [v' (.conv .u8 y9),v' (n' .eJ (Z' #[0,1,2,2,3,3,3,3,4,4,4,4,4,4,4,4,5,5,5,5,5,5,5,5,5,5,5,5,5,5,5,5,6,6,6,6,6,6,6,6,6,6,6,6,6,6,6,6,6,6,6,6,6,6,6,6,6,6,6,6,6,6,6,6,7,7,7,7,7,7,7,7,7,7,7,7,7,7,7,7,7,7,7,7,7,7,7,7,7,7,7,7,7,7,7,7,7,7,7,7,7,7,7,7,7,7,7,7,7,7,7,7,7,7,7,7,7,7,7,7,7,7,7,7,7,7,7,7,8,8,8,8,8,8,8,8,8,8,8,8,8,8,8,8,8,8,8,8,8,8,8,8,8,8,8,8,8,8,8,8,8,8,8,8,8,8,8,8,8,8,8,8,8,8,8,8,8,8,8,8,8,8,8,8,8,8,8,8,8,8,8,8,8,8,8,8,8,8,8,8,8,8,8,8,8,8,8,8,8,8,8,8,8,8,8,8,8,8,8,8,8,8,8,8,8,8,8,8,8,8,8,8,8,8,8,8,8,8,8,8,8,8,8,8,8,8,8,8,8,8,8,8,8,8,8,8]) y11),v' (.conv .i64 y12),v' (P' y10 y13)] (R' y14 y1)))))))
noncomputable def aGa:=e' 142 Tryz.f142 true false [] [] [] [true] t142
theorem aEV:aV Tryz.prog aGa:=O' Tryz.func142

noncomputable def t52:T:=W' [v' (.aR y0)] (.join 0 2 (.loop 1 [ki 0] (W' [v' (X' .lss y4 y3)] (.ite y5 (.join 2 3 (W' [v' (.aj 4 y0 y4),v' (.ld true 4 y2 y6),.fu [] y1 y2 [y7] [true]] (.ite y8 (R' y4 y2) (J' 2 [y6,y7,y8]))) (W' [v' (P' y4 (ki 1))] (J' 1 [y9]))) (J' 0 [y4,y5])))) (R' (ki (-1)) y2))
noncomputable def e52:=e' 52 Tryz.f52 true false [] [] [] [true,true] t52
theorem ayj:aV Tryz.prog e52:=O' Tryz.func52

noncomputable def t83:T:=W' [v' (Q' y1 (ki 10))] (.ite y3 (W' [v' (X' .leq (ki 0) y0),g' y4 (X' .lss y0 (ki 100)),v' (.ite y4 y5 (kb false))] (.ite y6 (W' [c' 107 y2 [y0] [true]] (R' y7 y2)) (W' [v' (.conv .u64 y0),v' (X' .lss y0 (ki 0))] (.join 0 1 (.ite y8 (W' [v' (.un .neg y7)] (J' 0 [y9])) (J' 0 [y7])) (W' [c' 108 y2 [y9] [true]] (.ret (.deref .nil))))))) (W' [v' (.conv .u64 y0),v' (X' .lss y0 (ki 0)),c' 110 y2 [.const (.bq []),y4,y1,y5,kb false] [true,true]] (R' (t' y6) y2)))
noncomputable def e83:=e' 83 Tryz.f83 true false [] [] [] [true,true] t83
theorem ajp:aV Tryz.prog e83:=O' Tryz.func83

noncomputable def t106:T:=W' [v' (.uJ y1),v' (Q' y3 (ki 0)),f' y4 (.bin .eql .str y1 y0),v' (.ite y4 (kb true) y5)] (.ite y6 (R' (ki 0) y2) (W' [v' (Q' y3 (ki 1))] (.ite y7 (W' [v' (n' .eJ y1 (ki 0)),c' 137 y2 [y0,y8] [true]] (R' y9 y2)) (W' [v' (.uJ y0),v' (X' .geq y3 y8)] (.ite y9 (R' (ki (-1)) y2) (.ret (.deref .nil)))))))
noncomputable def ag9:=e' 106 Tryz.f106 true false [] [] [] [true,true] t106
theorem aeo:aV Tryz.prog ag9:=O' Tryz.func106

noncomputable def t158:T:=W' [v' (.bB 7 y0)] (R' (j' (q' 0 y2) (j' (q' 1 y2) (j' (q' 2 y2) (j' (q' 3 y2) (j' (q' 4 y2) (j' (q' 5 y2) (j' (ki 0) .nil))))))) y1)
noncomputable def aC4:=e' 158 Tryz.f158 true false [] [] [] [false] t158
theorem aBD:aV Tryz.prog aC4:=O' Tryz.func158

noncomputable def t227:T:=W' [v' (X' .neq y0 y0)] (R' y2 y1)
noncomputable def aFX:=e' 227 Tryz.f227 true false [] [] [] [true] t227
theorem aEH:aV Tryz.prog aFX:=O' Tryz.func227

noncomputable def t18:T:=W' [v' (.bB 3 y0),c' 41 y2 [fN 3 y3,y1] [true],v' (N' y4)] (.ite y5 (R' (C' (.const (.v (.pointer none))) (ki 2)) y2) (W' [c' 36 y2 [q' 2 y3] [true],c' 37 (.const (.st [])) [m' .eG y1] [true],v' (m' .aaA y2),v' (j' (.bB 3 (j' (q' 0 y3) (j' (q' 1 y3) (j' y6 .nil)))) (j' (z' y7) (j' (z' (m' .abR y2)) .nil))),v' (.cI 124 5 y8 (.bB 5 y9))] (R' (C' (.aU y8) (ki 0)) y10)))
noncomputable def e18:Entry:={ f:=18,kn:=.plain,cf:={ (Js false ([]++Qgy) Qhq [19] [] Tryz.f18) with FB:=true,bC:=true,aeA:=[37] },own:=false,bX:=[false,true],t:=t18 }
theorem ajV:aV Tryz.prog e18:=O' Tryz.func18

noncomputable def t55:T:=W' [w' 69 y2 [y0] [],v' (.nn y0),v' (p' 1 y4),v' (l' (t' y3) y5),v' (.fU 5 1 1 (t' y3) y6 (m' .Qhj y1)),v' (.nn y0),v' (p' 1 y8),v' (.gQ 1 y7 y9 (.apps (t' y3) y6 (m' .Qhj y1))),v' (.uJ y1)] (R' (C' y11 (.const (.v .nilIface))) y10)
noncomputable def e55:=e' 55 Tryz.f55 false false [69] [] [] [true,true] t55
theorem ajI:aV Tryz.prog e55:=O' Tryz.func55

noncomputable def t89:T:=W' [v' (.bB 2 y1)] (.iH 112 y2 [fN 2 y3,ki 6] [true] [] [] (W' [v' (.aj 1 (s' y4) (ki 2)),v' (l' (t' y4) y5)] (.kV 115 (t' y4) [y0,y6] [true] [] [] (W' [v' (.aj 1 (s' y4) (ki 0)),v' (l' (t' y4) y8),v' (.aj 1 (s' y4) (ki 1)),v' (l' (t' y4) y10),v' (.aj 1 (s' y4) (ki 2)),v' (l' (t' y4) y12),v' (.aj 1 (s' y4) (ki 3)),v' (l' (t' y4) y14),v' (.aj 1 (s' y4) (ki 4)),v' (l' (t' y4) y16),v' (.aj 1 (s' y4) (ki 5)),v' (l' (t' y4) y18),v' (j' (z' y9) (j' (z' y11) (j' (z' (ki 1)) (j' (z' y13) (j' (z' y15) (j' (z' y17) (j' (z' y19) .nil))))))),v' (.bB 7 y20),v' (.bin .eql .str (q' 0 y3) (Z' #[110,111,116]))] (.join 0 1 (.ite y22 (J' 0 [ki 2]) (J' 0 [q' 2 y21])) (W' [v' (.nn y0),v' (p' 31 y24),v' (l' (t' y4) y25),v' (.bz (.bB 7 (j' (q' 0 y21) (j' (q' 1 y21) (j' y23 (j' (q' 3 y21) (j' (q' 4 y21) (j' (q' 5 y21) (j' (q' 6 y21) .nil)))))))) (.const (.bq []))),w' 117 (t' y4) [y26,y27] [true]] (.kV 113 (t' y28) [s' y28] [] [] [] (W' [v' (Q' y23 (ki 1)),g' y30 (.nn y0),g' y30 (p' 0 y31),g' y30 (p' 9 y32),g' y30 (l' (t' y28) y33),g' y30 (q' 0 y21),g' y30 (.aj 2 y34 y35),g' y30 (p' 0 y36),g' y30 (l' (t' y28) y37),g' y30 (X' .neq y38 (ki 3)),v' (.ite y30 y39 (kb false))] (.join 0 1 (.ite y40 (W' [v' (.nn y0),v' (p' 30 y41),v' (l' (t' y28) y42),v' (X' .quo (q' 6 y21) (ki 1000)),v' (j' (z' (ki 8)) (j' (z' y44) (j' (z' (q' 4 y21)) (j' (z' y7) .nil)))),w' 114 (t' y28) [y43,y45] [true]] (J' 0 [t' y46])) (J' 0 [t' y28])) (R' .ax y41))))))))))
noncomputable def e89:=e' 89 Tryz.f89 false false [112] [] [] [true,false] t89
theorem ajl:aV Tryz.prog e89:=O' Tryz.func89

noncomputable def t160:T:=W' [v' (.nn y0),v' (p' 2 y4),v' (l' y3 y5),v' (l' y3 y2),v' (.ld true 4 y3 y1),v' (.aj 4 y6 y7),v' (.gQ 4 y3 y9 y8)] (R' .ax y10)
noncomputable def aBr:=e' 160 Tryz.f160 false false [] [] [] [true,true,true] t160
theorem az5:aV Tryz.prog aBr:=O' Tryz.func160

noncomputable def t5:T:=W' [c' 14 y0 [] [false],c' 13 y0 [y1,Z' #[111,112,101,110,32,48,10,99,111,118,101,114,101,100,32,48,10,112,111,115,116,32,48,32,53,10,112,111,115,116,32,49,32,53,10,115,116,97,114,116,32,49,32,49,48,10,115,116,97,114,116,32,49,32,49,48,10]] [true,true],c' 14 y0 [] [false],c' 13 y0 [y3,Z' #[108,105,110,101,32,49,32,49,32,54,51,51,32,51,48,48,48,48,48,10,111,112,101,110,32,48,48,10,106,117,109,112,32,49,10,112,111,115,116,32,57,32,49]] [true,true],c' 14 y0 [] [false],v' (.bz (z' (Z' #[112,97,115,115,32,48,32,48,32,49,32,48,32,49,48,48,48,32,50,48,48,48])) (.bz (z' (Z' #[112,97,115,115,32,48,32,49,32,49,32,49,32,51,48,49,48,48,48,32,51,48,50,48,48,48])) (.bz (z' (Z' #[108,101,103,32,49,32,48,32,54,48,48])) (.bz (z' (Z' #[108,105,110,101,32,49,32,48,32,54,51,48,32,48])) (.bz (z' (Z' #[116,97,107,101,32,49,32,49,32,54,51,51,32,52,48,48,48,48,48])) (.const (.bq []))))))),w' 15 y0 [y5,y6] [true,true,true],v' (X' .neq (t' y2) (ki 0)),f' y8 (t' y4),f' y8 (X' .neq y9 (ki 0)),v' (.ite y8 (kb true) y10),f' y11 (.Qrx 2 (s' y7)),f' y11 (X' .neq y12 (ki 0)),v' (.ite y11 (kb true) y13),f' y14 (t' (s' y7)),f' y14 (X' .neq y15 (ki (-1))),v' (.ite y14 (kb true) y16),f' y17 (s' (s' y7)),f' y17 (.bin .eql .ptr y18 (.const (.v (.pointer none)))),v' (.ite y17 (kb true) y19)] (.ite y20 (R' (kb false) (t' y7)) (W' [w' 11 (t' y7) [s' (s' y7)] [true],v' (.bin .eql .str (s' y2) (Z' #[111,107,10,111,107,10,111,107,10,111,107,10,111,107,10,101,114,114,111,114,32,55,10])),g' y22 (s' y4),g' y22 (.bin .eql .str y23 (Z' #[101,114,114,111,114,32,50,10,101,114,114,111,114,32,51,10,101,114,114,111,114,32,51,10,101,114,114,111,114,32,50,10])),v' (.ite y22 y24 (kb false)),g' y25 (s' y21),g' y25 (.aR y26),g' y25 (Q' y27 (ki 1)),v' (.ite y25 y28 (kb false)),g' y29 (s' y21),g' y29 (.aj 3 y30 (ki 0)),g' y29 (p' 2 y31),g' y29 (l' (t' y21) y32),g' y29 (.aR y33),g' y29 (Q' y34 (ki 3)),v' (.ite y29 y35 (kb false)),g' y36 (s' y21),g' y36 (.aj 3 y37 (ki 0)),g' y36 (p' 2 y38),g' y36 (l' (t' y21) y39),g' y36 (.aj 4 y40 (ki 1)),g' y36 (p' 1 y41),g' y36 (l' (t' y21) y42),g' y36 (Q' y43 (ki 300000)),v' (.ite y36 y44 (kb false))] (R' y45 (t' y21))))
noncomputable def e5:=e' 5 Tryz.f5 false true [11] [] [] [] t5
theorem ok5:aV Tryz.prog e5:=O' Tryz.func5
end

section
open Go.Proofs

noncomputable def t151:T:=W' [v' (X' .geq y0 y1),g' y4 (X' .leq y0 y2),v' (.ite y4 y5 (kb false))] (R' y6 y3)
noncomputable def aup:=e' 151 Tryz.f151 true false [] [] [] [true,true,true] t151
theorem ar1:aV Tryz.prog aup:=O' Tryz.func151

noncomputable def t180:T:=W' [v' (.nn y0),v' (p' 6 y4),v' (n' (.tN 2 3) y5 (ki 1)),v' (p' 0 y6),v' (l' y3 y7),v' (N' y8)] (R' y9 y3)
noncomputable def Qlw:=e' 180 Tryz.f180 true false [] [] [] [true,true,true] t180
theorem Qjx:aV Tryz.prog Qlw:=O' Tryz.func180

noncomputable def t14:T:=W' [v' (j' (z' (ki 1)) (j' (.const (.agg [.v (.int .i64 0)])) (j' (z' (ki 30)) (j' (.const (.agg [.v (.bool false)])) .nil)))),v' (j' (z' (ki 2)) (j' (.const (.agg [.v (.int .i64 0)])) (j' (.const (.agg [.v (.int .i64 0)])) (j' (.const (.agg [.v (.bool false)])) .nil)))),v' (j' (z' (ki 1)) (j' (.const (.agg [.v (.int .i64 0)])) (j' (z' (ki 60)) (j' (.const (.agg [.v (.bool false)])) .nil)))),v' (.bz (.bB 4 y1) (.bz (.bB 4 y2) (.bz (.bB 4 y3) (.const (.bq []))))),v' (.bz (z' (ki 10000)) (.bz (z' (ki 60000)) (.const (.bq [])))),v' (.bz (z' (ki 10)) (.bz (z' (ki 6)) (.const (.bq [])))),v' (.bz (z' (ki 3)) (.const (.bq []))),v' (j' (z' (ki 10000)) (j' (z' (ki 60000)) (j' (z' (ki 15)) (j' (z' (ki 30)) (j' (z' y5) (j' (.const (.agg [.v (.bool false)])) (j' (.const (.agg [.v (.int .i64 0)])) (j' (z' (ki 1)) (j' (z' (ki 100)) (j' (z' (ki 1)) (j' (z' y6) (j' (z' y7) .nil)))))))))))),v' (j' (z' y4) (j' (z' (ki 1)) (j' (.bB 12 y8) .nil))),v' (.bB 14 y9),v' (j' (z' (ki 2)) (j' (z' (ki 60)) (j' (z' (ki 1)) (j' (.const (.agg [.v (.int .i64 0)])) (j' (z' (ki 600)) (j' (z' (ki 1)) .nil)))))),v' (.bz (z' (ki 1000)) (.const (.bq []))),v' (j' (z' (ki 1)) (j' (z' (ki 2)) (j' (z' y12) .nil))),v' (j' (z' (ki 1)) (j' (.const (.agg [.v (.int .i64 0)])) .nil)),v' (.bz (.bB 2 y14) (.const (.bq []))),v' (j' (z' (ki 1)) (j' (.const (.agg [.v (.int .i64 0)])) (j' (.const (.agg [.v (.int .i64 0)])) (j' (z' (ki 1000)) .nil)))),v' (.bz (.bB 4 y16) (.const (.bq []))),v' (j' (z' (ki 1)) (j' (z' y17) (j' (z' (ki 30)) (j' (z' (ki 60)) (j' (.const (.agg [.v (.int .i64 0)])) (j' (.const (.agg [.v (.int .i64 0)])) .nil)))))),v' (j' (.bB 6 y11) (j' (.bB 3 y13) (j' (z' y15) (j' (.bB 14 (fN 14 y10)) (j' (.bB 6 y18) .nil))))),v' (.bB 30 y19)] (R' (fN 30 y20) y0)
noncomputable def e14:=e' 14 Tryz.f14 true true [] [] [] [] t14
theorem ayr:aV Tryz.prog e14:=O' Tryz.func14

noncomputable def t132:T:=W' [v' (Q' y1 (ki 10))] (.ite y3 (W' [v' (X' .lss y0 (k' 100))] (.ite y4 (W' [v' (.conv .i64 y0),c' 107 y2 [y5] [true]] (R' y6 y2)) (W' [c' 108 y2 [y0] [true]] (.ret (.deref .nil))))) (W' [c' 110 y2 [.const (.bq []),y0,y1,kb false,kb false] [true,true]] (R' (t' y4) y2)))
noncomputable def auY:=e' 132 Tryz.f132 true false [] [] [] [true,true] t132
theorem asX:aV Tryz.prog auY:=O' Tryz.func132

noncomputable def t206:T:=W' [c' 235 y2 [y0,y1] [true],v' (X' .geq y3 (ki 0))] (R' y4 y2)
noncomputable def aF1:=e' 206 Tryz.f206 true false [] [] [] [true,true] t206
theorem aEL:aV Tryz.prog aF1:=O' Tryz.func206

noncomputable def t209:T:=W' [v' (.gE (j' (z' y1) .nil)),v' (.nn y0),v' (p' 14 y4),v' (l' y2 y5),v' (.gV 236 .ax (.aa y3 .ax)),c' 213 y2 [y6,y7] [true]] (R' y8 y2)
noncomputable def aFZ:=e' 209 Tryz.f209 true false [] [] [] [true,true] t209
theorem aEJ:aV Tryz.prog aFZ:=O' Tryz.func209

noncomputable def t210:T:=W' [v' (.bB 5 y0),v' (N' (q' 3 y3)),g' y4 (q' 2 y3),g' y4 (l' y2 y1),g' y4 (.nn y6),g' y4 (p' 0 y7),g' y4 (p' 2 y8),g' y4 (l' y2 y9),g' y4 (M' y10 (ki 1)),g' y4 (X' .lss y5 y11),v' (.ite y4 y12 (kb false))] (R' y13 y2)
noncomputable def ank:=e' 210 Tryz.f210 true false [] [] [] [false,true] t210
theorem So:aV Tryz.prog ank:=O' Tryz.func210

noncomputable def t159:T:=W' [v' (.bB 14 y0),v' (.bB 3 y1),c' 24 y2 [fN 14 y3] [true],v' (X' .neq y5 (ki 0)),f' y6 (q' 0 y4),f' y6 (q' 1 y3),f' y6 (M' y8 (ki 1)),.call [(y6,false)] 47 y2 [y7,ki 0,y9] [true],f' y6 (N' y10),v' (.ite y6 (kb true) y11),f' y12 (q' 2 y4),f' y12 (.aR y13),f' y12 (q' 0 y3),f' y12 (.aR y15),f' y12 (X' .neq y14 y16),v' (.ite y12 (kb true) y17),f' y18 (q' 1 y4),f' y18 (.aR y19),f' y18 (q' 0 y3),f' y18 (q' 0 y3),f' y18 (.aR y22),f' y18 (M' y23 (ki 1)),f' y18 (.aj 4 y21 y24),f' y18 (p' 1 y25),f' y18 (l' y2 y26),f' y18 (P' y27 (ki 1)),f' y18 (X' .neq y20 y28),v' (.ite y18 (kb true) y29),f' y30 (q' 1 y4),.call [(y30,false)] 48 y2 [y31,ki 1,ki 6,ki 100000] [true],f' y30 (N' y32),v' (.ite y30 (kb true) y33)] (.ite y34 (R' (ki 2) y2) (W' [v' (.aR (q' 2 y4))] (.join 0 2 (.loop 1 [ki 0] (W' [v' (X' .lss y36 y35)] (.ite y37 (.join 2 19 (W' [v' (.aj 4 (q' 2 y4) y36),v' (.ld true 4 y2 y38),v' (.bB 4 y39),v' (X' .gtr y36 (ki 0)),g' y41 (q' 2 y4),g' y41 (M' y36 (ki 1)),g' y41 (.aj 4 y42 y43),g' y41 (p' 3 y44),g' y41 (l' y2 y45),g' y41 (Q' y46 (ki 2)),v' (.ite y41 y47 (kb false)),g' y48 (q' 0 y3),g' y48 (M' y36 (ki 1)),g' y48 (.aj 4 y49 y50),g' y48 (p' 1 y51),g' y48 (l' y2 y52),g' y48 (q' 0 y3),g' y48 (.aj 4 y54 y36),g' y48 (p' 1 y55),g' y48 (l' y2 y56),g' y48 (Q' y53 y57),v' (.ite y48 y58 (kb false)),v' (.aj 4 (q' 0 y3) y36),v' (.ld true 4 y2 y60),c' 187 y2 [y61,fN 4 y40] [true],v' (N' y62),f' y63 (G' y59 (q' 3 y40)),f' y63 (G' y59 (X' .neq y64 (ki 2))),f' y63 (.ite y59 y65 (kb false)),v' (.ite y63 (kb true) y66)] (.ite y67 (R' (ki 2) y2) (J' 2 [y59,y38,y39,y41,y41,y48,y48,y59,y60,y61,fN 4 y40,y62,y63,y63,y67,q' 0 y40,q' 1 y40,q' 2 y40,q' 3 y40]))) (W' [v' (P' y36 (ki 1))] (J' 1 [y57]))) (J' 0 [y36,y37])))) (R' (ki 0) y2))))
noncomputable def aAB:=e' 159 Tryz.f159 true false [] [] [] [false,false] t159
theorem ayK:aV Tryz.prog aAB:=O' Tryz.func159

noncomputable def t48:T:=W' [v' (.gE (j' (z' y3) .nil)),v' (.aR y0),c' 47 y4 [y6,y1,y2] [true],g' y7 (.gV 66 .ax (.aa y5 .ax)),.call [(y7,true)] 62 y4 [y0,y8] [true],g' y7 (N' y9),v' (.ite y7 y10 (kb false))] (R' y11 y4)
noncomputable def e48:=e' 48 Tryz.f48 true false [] [] [] [true,true,true,true] t48
theorem ajL:aV Tryz.prog e48:=O' Tryz.func48

noncomputable def t62:T:=W' [c' 77 y2 [y0,y1] [true],v' (X' .geq y3 (ki 0))] (R' y4 y2)
noncomputable def e62:=e' 62 Tryz.f62 true false [] [] [] [true,true] t62
theorem ayb:aV Tryz.prog e62:=O' Tryz.func62

noncomputable def t66:T:=W' [v' (l' y2 y1),c' 47 y2 [y0,ki 0,y3] [true],v' (N' y4)] (R' y5 y2)
noncomputable def e66:=e' 66 Tryz.f66 true false [] [] [] [true,true] t66
theorem ajD:aV Tryz.prog e66:=O' Tryz.func66

noncomputable def t148:T:=W' [v' (.bB 4 y1),v' (Q' (q' 0 y3) (ki 3)),f' y4 (q' 0 y3),f' y4 (Q' y5 (ki 4)),v' (.ite y4 (kb true) y6),f' y7 (q' 0 y3),f' y7 (Q' y8 (ki 5)),v' (.ite y7 (kb true) y9),f' y10 (q' 0 y3),f' y10 (Q' y11 (ki 8)),v' (.ite y10 (kb true) y12),v' (Q' (q' 0 y3) (ki 8)),f' y14 (q' 0 y3),f' y14 (Q' y15 (ki 9)),v' (.ite y14 (kb true) y16),f' y17 (q' 0 y3),f' y17 (Q' y18 (ki 10)),v' (.ite y17 (kb true) y19),v' (X' .lss (q' 0 y3) (ki 1)),f' y21 (q' 0 y3),f' y21 (X' .gtr y22 (ki 10)),v' (.ite y21 (kb true) y23),f' y24 (q' 1 y3),.call [(y24,false)] 40 y2 [y25,ki 0,ki 100000] [true],f' y24 (N' y26),v' (.ite y24 (kb true) y27),f' y28 (N' y13),f' y28 (G' y29 (q' 2 y3)),f' y28 (G' y29 (X' .neq y30 (ki 0))),f' y28 (.ite y29 y31 (kb false)),v' (.ite y28 (kb true) y32),f' y33 (N' y20),f' y33 (G' y34 (q' 3 y3)),f' y33 (G' y34 (X' .neq y35 (ki 0))),f' y33 (.ite y34 y36 (kb false)),v' (.ite y33 (kb true) y37)] (.ite y38 (R' (kb false) y2) (W' [v' (.nn y0),v' (p' 0 y39),v' (p' 0 y40),v' (l' y2 y41),v' (M' y42 (ki 1)),c' 40 y2 [q' 2 y3,ki 0,y43] [true],g' y44 (q' 3 y3),g' y44 (.nn y0),g' y44 (p' 0 y46),g' y44 (p' 5 y47),g' y44 (l' y2 y48),g' y44 (M' y49 (ki 1)),.call [(y44,true)] 40 y2 [y45,ki 0,y50] [true],v' (.ite y44 y51 (kb false))] (R' y52 y2)))
noncomputable def auq:=e' 148 Tryz.f148 true false [] [] [] [true,false] t148
theorem ar3:aV Tryz.prog auq:=O' Tryz.func148

noncomputable def t137:T:=W' [v' (n' .sib y0 y1)] (R' y3 y2)
noncomputable def axB:=e' 137 Tryz.f137 true false [] [] [] [true,true] t137
theorem avC:aV Tryz.prog axB:=O' Tryz.func137

noncomputable def t185:T:=W' [v' (.aR y0)] (.join 0 2 (.loop 1 [ki 0] (W' [v' (X' .lss y4 y3)] (.ite y5 (.join 2 3 (W' [v' (.aj 7 y0 y4),v' (.ld true 7 y2 y6),.fu [] y1 y2 [y7] [true]] (.ite y8 (R' y4 y2) (J' 2 [y6,y7,y8]))) (W' [v' (P' y4 (ki 1))] (J' 1 [y9]))) (J' 0 [y4,y5])))) (R' (ki (-1)) y2))
noncomputable def axt:=e' 185 Tryz.f185 true false [] [] [] [true,true] t185
theorem avu:aV Tryz.prog axt:=O' Tryz.func185

noncomputable def t190:T:=W' [v' (.aR y0)] (.join 0 3 (.loop 1 [ki 0,ki 0] (W' [v' (X' .lss y5 y3)] (.ite y6 (.join 2 7 (W' [v' (.aj 1 y0 y5),v' (l' y2 y7),v' (Q' y5 (ki 0)),.fu [(y9,false)] y1 y2 [y8,y4] [true],v' (.ite y9 (kb true) y10)] (.join 3 1 (.ite y11 (J' 3 [y8]) (J' 3 [y4])) (J' 2 [y12,y8,y7,y8,y9,y9,y11]))) (W' [v' (P' y5 (ki 1))] (J' 1 [y7,y14]))) (J' 0 [y4,y5,y6])))) (W' [v' (.aR y0),v' (X' .gtr y7 (ki 0))] (R' (C' y4 y8) y2)))
noncomputable def aph:=e' 190 Tryz.f190 true false [] [] [] [true,true] t190
theorem alG:aV Tryz.prog aph:=O' Tryz.func190

noncomputable def t15:T:=W' [v' (.bB 30 y0),w' 6 y2 [fN 30 y3] [true,true],v' (X' .neq (t' (s' y4)) (ki 0))] (.ite y5 (R' (D' (.const (.v (.pointer none))) (ki 0) (t' (s' y4))) (t' y4)) (W' [v' (.aR y1)] (.join 0 3 (.loop 1 [ki 0,t' y4] (W' [v' (X' .lss y7 y6)] (.ite y9 (.join 2 9 (W' [v' (.aj 1 y1 y7),v' (l' y8 y10),w' 35 y8 [s' (s' y4),y11] [true],v' (X' .neq (s' y12) (ki 0))] (.ite y13 (R' (D' (.const (.v (.pointer none))) y7 (s' y12)) (t' y12)) (J' 2 [y11,s' y12,y10,y11,y11,s' y12,s' y12,y13,t' y12]))) (W' [v' (P' y7 (ki 1))] (J' 1 [y19,y18]))) (J' 0 [y7,y9,y8])))) (R' (D' (s' (s' y4)) (ki (-1)) (ki 0)) y9))))
noncomputable def e15:=e' 15 Tryz.f15 false false [] [] [] [false,true] t15
theorem alI:aV Tryz.prog e15:=O' Tryz.func15

noncomputable def t34:T:=W' [v' (.gE (j' (z' y0) .nil)),v' (.cI 142 2 y2 (.const (.agg [.v (.pointer none),.cq]))),w' 54 y4 [y1,Z' #[10]] [true]] (.join 0 1 (.Qsz (s' y5) (t' y5) [0,1,2,4,5,8,9] [y0,y1,y3,Z' #[],.aU y2,y1,s' y5] 1 1 (.join 2 2 (W' [v' (.bin .eql .str y7 (Z' #[]))] (.ite y8 (J' 2 [y8,y6]) (W' [v' (l' y6 y3),w' 35 y6 [m' (.m0 41) y9,y7] [true],v' (Q' (s' y10) (ki 0))] (.join 3 1 (.ite y11 (W' [w' 55 (t' y10) [.aU y2,Z' #[111,107,10]] [true,true]] (J' 3 [t' y12])) (W' [c' 56 (t' y10) [s' y10] [true],v' (.bin .add .str (Z' #[101,114,114,111,114,32]) y12),v' (.bin .add .str y13 (Z' #[10])),w' 55 (t' y10) [.aU y2,y14] [true,true]] (J' 3 [t' y15]))) (J' 2 [y8,y12]))))) (J' 1 [y9])) (J' 0 [y6])) (W' [w' 57 y6 [.aU y2] [true]] (R' (s' y7) (t' y7))))
noncomputable def e34:Entry:={ f:=34,kn:=.plain,cf:={ (Js false ([54,57]++Qgy) Qhq [] [] Tryz.f34) with FB:=true,bC:=true,avL:=[(15,41)] },own:=false,bX:=[true,true],t:=t34 }
theorem ajR:aV Tryz.prog e34:=O' Tryz.func34

noncomputable def t162:T:=W' [v' (.gE (j' (z' y1) .nil)),w' 124 y2 [y0] [true],v' (j' (z' y0) (j' (z' (s' y4)) (j' (.const (.agg [.cq])) .nil))),v' (.cI 277 3 (t' y4) (.bB 3 y5)),v' (m' .aaA y6),v' (.cI 278 1 y7 (.const (.agg [.v (.map none)]))),v' (.gQ 1 y8 (.aU y7) (m' .abR y6)),v' (.nn (.aU (t' y4))),v' (p' 1 y10),v' (l' y9 y11),v' (.aR y12)] (.join 0 3 (.loop 1 [ki 0,y9] (W' [v' (X' .lss y14 y13)] (.ite y16 (.join 2 13 (W' [v' (.aj 7 y12 y14),v' (.ld true 7 y15 y17),v' (.bB 7 y18),v' (l' y15 y3),v' (X' .leq (q' 6 y19) y20)] (.join 3 1 (.ite y21 (W' [v' (l' y15 (.aU y7)),v' (j' (z' (q' 0 y19)) (j' (z' (q' 1 y19)) .nil)),v' (.m4 (.get (.agg [0,0]) false) y15 y22 y23 (ki 0)),v' (P' y24 (ki 1)),v' (.m4 (.ab0 (.agg [0,0])) y15 y22 y23 (ki 0)),v' (.m4 .om y26 y22 (t' (.m4 (.V2 (.agg [0,0])) y15 y22 y23 (ki 0))) y25),v' (n' .same (.m4 (.get (.agg [0,0]) false) y15 y22 y23 (ki 0)) (.m4 (.get (.agg [0,0]) false) y26 y22 y23 (ki 0)))] (J' 3 [y27])) (J' 3 [y15])) (J' 2 [y17,y18,q' 6 y19,y20,y21,q' 0 y19,q' 1 y19,q' 2 y19,q' 3 y19,q' 4 y19,q' 5 y19,q' 6 y19,y22]))) (W' [v' (P' y14 (ki 1))] (J' 1 [y30,y29]))) (J' 0 [y14,y16,y15])))) (W' [v' (m' .aaA y16),v' (.cI 281 1 y17 (.const (.agg [.v (.map none)]))),v' (.gQ 1 y18 (.aU y17) (m' .abR y16)),v' (.nn (.aU (t' y4))),v' (p' 1 y20),v' (l' y19 y21),c' 188 y19 [y22] [true]] (.join 0 1 (.Qsz y23 y19 [0,1,3,4,5,6,9,16,17,18,19,20,21,22,23,24,25,26,27,28,46,47,48,49,50,51] [y0,y1,y3,.const (.v (.pointer none)),.aU (t' y4),.aU y7,.aU y17,y0,y0,s' y4,y5,.aU (t' y4),m' .abR y6,.aU (t' y4),y10,y11,y12,y13,y14,y15,m' .abR y16,.aU (t' y4),y20,y21,y22,y23] 2 1 (W' [v' (.cI 205 7 y24 (.const (.agg [.v (.int .i64 0),.v (.int .i64 0),.v (.int .i64 0),.v (.int .i64 0),.v (.int .i64 0),.v (.int .i64 0),.v (.int .i64 0)]))),v' (.gQ 7 y27 (.aU y24) y26)] (.join 2 15 (W' [v' (p' 0 (.aU y24)),v' (l' y28 y29),v' (p' 1 (.aU y24)),v' (l' y28 y31),v' (j' (z' y30) (j' (z' y32) .nil)),v' (.cI 280 2 y28 (.const (.agg [.v (.int .i64 0),.v (.int .i64 0)]))),v' (.gQ 2 y34 (.aU y28) y33),v' (p' 2 (.aU y24)),v' (l' y35 y36),v' (Q' y37 (ki 4)),g' y38 (p' 6 (.aU y24)),g' y38 (l' y35 y39),g' y38 (l' y35 y3),g' y38 (X' .leq y40 y41),v' (.ite y38 y42 (kb false)),g' y43 (l' y35 (.aU y7)),g' y43 (.ld true 2 y35 (.aU y28)),g' y43 (.m4 (.get (.agg [0,0]) false) y35 y44 y45 (ki 0)),g' y43 (Q' y46 (ki 1)),v' (.ite y43 y47 (kb false)),g' y48 (l' y35 (.aU y17)),g' y48 (.ld true 2 y35 (.aU y28)),g' y48 (.m4 (.get (.agg [0,0]) false) y35 y49 y50 (kb false)),g' y48 (N' y51),v' (.ite y48 y52 (kb false))] (.join 3 1 (.ite y53 (W' [v' (l' y35 (.aU y17)),v' (p' 0 (.aU y24)),v' (l' y35 y55),v' (p' 3 (.aU y24)),v' (l' y35 y57),v' (j' (z' y56) (j' (z' y58) .nil)),v' (.m4 (.put (.agg [0,0])) y35 y54 y59 (kb true))] (J' 3 [y60])) (J' 3 [y35])) (J' 2 [y29,y30,y31,y32,y33,y36,y37,y38,y38,y43,y43,y48,y48,y53,y54]))) (J' 1 [y43]))) (J' 0 [y24])) (W' [v' (.nn (.aU (t' y4))),v' (p' 1 y25),v' (l' y24 y26),v' (.aR y27)] (.join 0 3 (.loop 1 [ki 0,y24] (W' [v' (X' .lss y29 y28)] (.ite y31 (.join 2 22 (W' [v' (.aj 7 y27 y29),v' (.ld true 7 y30 y32),v' (.bB 7 y33),v' (j' (z' (q' 0 y34)) (j' (z' (q' 1 y34)) .nil)),v' (.bB 2 y35),v' (l' y30 y3),v' (X' .leq (q' 6 y34) y37),g' y38 (l' y30 (.aU y7)),g' y38 (.m4 (.get (.agg [0,0]) false) y30 y39 (fN 2 y36) (ki 0)),g' y38 (Q' y40 (ki 1)),v' (.ite y38 y41 (kb false)),g' y42 (l' y30 (.aU y17)),g' y42 (.m4 (.get (.agg [0,0]) false) y30 y43 (fN 2 y36) (kb false)),g' y42 (N' y44),v' (.ite y42 y45 (kb false))] (.join 3 1 (.ite y46 (W' [v' (.nn (.aU (t' y4))),v' (p' 2 y47),v' (l' y30 y48),v' (.bz (z' y29) (.const (.bq []))),v' (.fU 3 1 8 y30 y49 y50),v' (.nn (.aU (t' y4))),v' (p' 2 y52),v' (.gQ 1 y51 y53 (.apps y30 y49 y50))] (J' 3 [y54])) (J' 3 [y30])) (J' 2 [y32,y33,q' 0 y34,q' 1 y34,y35,q' 6 y34,y37,y38,y38,y42,y42,y46,q' 0 y34,q' 1 y34,q' 2 y34,q' 3 y34,q' 4 y34,q' 5 y34,q' 6 y34,q' 0 y36,q' 1 y36,y47]))) (W' [v' (P' y29 (ki 1))] (J' 1 [y54,y53]))) (J' 0 [y29,y31,y30])))) (R' (.aU (t' y4)) y31))))))
noncomputable def aF8:=e' 162 Tryz.f162 false false [] [20] [] [true,true] t162
theorem aES:aV Tryz.prog aF8:=O' Tryz.func162

noncomputable def t19:T:=W' [v' (.bB 6 y0),c' 25 y1 [fN 6 y2] [true],v' (X' .neq y3 (ki 0))] (.ite y4 (R' (C' (.const (.v (.pointer none))) y3) y1) (W' [c' 39 y1 [q' 1 y2] [true],v' (j' (.bB 6 (j' (q' 0 y2) (j' y5 (j' (q' 2 y2) (j' (q' 3 y2) (j' (q' 4 y2) (j' (q' 5 y2) .nil))))))) (j' (z' (kb true)) (j' (.const (.agg [.cq])) (j' (.const (.agg [.cq])) .nil)))),v' (.cI 127 9 y1 (.bB 9 y6))] (R' (C' (.aU y1) (ki 0)) y7)))
noncomputable def e19:=e' 19 Tryz.f19 false false [] [16] [] [false] t19
theorem ajU:aV Tryz.prog e19:=O' Tryz.func19

noncomputable def t124:T:=W' [c' 153 y1 [y0] [true],v' (N' y2)] (.ite y3 (R' (.const (.bq [])) y1) (W' [v' (.nn y0),v' (p' 4 y4),v' (l' y1 y5),v' (n' .rng y1 y6)] (.join 0 4 (.loop 1 [.const .cq,y7] (.pick (n' .next y9 (.aU y1)) (W' [v' (s' (s' y10))] (.ite y11 (.join 2 17 (W' [v' (n' .entry (t' y10) (.aU y1)),v' (.bB 7 (s' y12)),v' (z' (t' y12)),v' (.bz (.bB 7 (j' (q' 0 y13) (j' (q' 1 y13) (j' (q' 2 y13) (j' (q' 3 y13) (j' (q' 4 y13) (j' (q' 5 y13) (j' (t' y12) .nil)))))))) (.const (.bq []))),v' (.fU 205 7 56 (t' y10) y8 y15)] (J' 2 [.apps (t' y10) y8 y15,t' y12,C' (s' y12) (t' y12),s' y12,t' y12,t' y12,j' (q' 0 y13) (j' (q' 1 y13) (j' (q' 2 y13) (j' (q' 3 y13) (j' (q' 4 y13) (j' (q' 5 y13) (j' (t' y12) .nil)))))),y15,.apps (t' y10) y8 y15,q' 0 y13,q' 1 y13,q' 2 y13,q' 3 y13,q' 4 y13,q' 5 y13,t' y12,y16])) (J' 1 [y12,y28])) (J' 0 [y8,s' y10,y11,t' y10]))))) (W' [w' 164 y11 [y8,.const (.fn 165 [] [])] []] (R' y8 (t' y12))))))
noncomputable def aGb:Entry:={ f:=124,kn:=.plain,cf:={ (Js false ([]++Qgy) Qhq [3] [] Tryz.f124) with FB:=true,bC:=true,maps:=[122] },own:=false,bX:=[true],t:=t124,nd:=true }
theorem aEW:aV Tryz.prog aGb:=ayv (O' Tryz.func124)

noncomputable def t164:T:=W' [v' (.aR y0),v' (.conv .u64 y3),c' 194 y2 [y4] [true],w' 193 y2 [y0,ki 0,y3,y5,y1] []] (R' .ax (t' y6))
noncomputable def aF7:=e' 164 Tryz.f164 false false [] [] [] [true,true] t164
theorem aER:aV Tryz.prog aF7:=O' Tryz.func164

noncomputable def t122:T:=W' [v' (l' y3 y1),v' (.nn y4),v' (p' 31 y5),v' (l' y3 y6),v' (l' y3 y2),v' (.aj 1 y8 (ki 0)),v' (l' y3 y9),v' (l' y3 y2),v' (.aj 1 y11 (ki 3)),v' (l' y3 y12),w' 123 y3 [y7,y10,y0,y13] [true,true]] (.kV 113 (t' y14) [t' (s' y14)] [] [] [] (W' [v' (l' (t' y14) y1),v' (.nn y16),v' (p' 31 y17),v' (l' (t' y14) y18),w' 124 (t' y14) [y19] [true],v' (.aj 7 (s' y20) (s' (s' y14))),v' (p' 5 y21),v' (l' (t' y20) y22)] (R' y23 (t' y20))))
noncomputable def aqD:=e' 122 Tryz.f122 false false [] [] [] [true,true,true] t122
theorem aoy:aV Tryz.prog aqD:=O' Tryz.func122

noncomputable def t149:T:=W' [v' (l' y2 y0),v' (.nn y3),v' (p' 13 y4),v' (l' y2 y5),v' (p' 2 y1),v' (l' y2 y7),v' (.aj 3 y6 y8),v' (p' 1 y1),v' (l' y2 y10),w' 150 y2 [y9,kb true,y11,kb true] []] (R' .ax (t' y12))
noncomputable def aBt:=e' 149 Tryz.f149 false false [] [] [] [true,true] t149
theorem az7:aV Tryz.prog aBt:=O' Tryz.func149

noncomputable def aHv:T:=.nk y0 false (.ite y2 (R' (.const (.bq [])) y1) (W' [v' (.a_ 3 1 y1 (.const (.bq []))),v' (.fU 3 1 8 y3 (.bO y1 (.const (.bq []))) y0)] (R' (.apps y3 (.bO y1 (.const (.bq []))) y0) y4)))
noncomputable def azu:=e' 36 Tryz.f36 false false [] [5,7] [] [true] aHv
theorem aw_:aV Tryz.prog azu:=O' Tryz.func36
end

section
open Go.Proofs

noncomputable def t40:T:=W' [v' (X' .geq y0 y1),g' y4 (X' .leq y0 y2),v' (.ite y4 y5 (kb false))] (R' y6 y3)
noncomputable def Qny:=e' 40 Tryz.f40 true false [] [] [] [true,true,true] t40
theorem Qij:aV Tryz.prog Qny:=O' Tryz.func40

noncomputable def t177:T:=W' [v' (.nn y0),v' (p' 6 y4),v' (n' (.tN 2 3) y5 (ki 0)),v' (p' 0 y6),v' (l' y3 y7),v' (N' y8)] (R' y9 y3)
noncomputable def aF6:=e' 177 Tryz.f177 true false [] [] [] [true,true,true] t177
theorem aEQ:aV Tryz.prog aF6:=O' Tryz.func177

noncomputable def t179:T:=W' [v' (.gE (j' (z' y0) .nil)),v' (.gE (j' (z' y2) .nil)),v' (l' y3 y4),v' (.nn y6),v' (p' 13 y7),v' (l' y3 y8),v' (.gV 208 .ax (C' y5 y4)),c' 206 y3 [y9,y10] [true]] (R' y11 y3)
noncomputable def aF5:=e' 179 Tryz.f179 true false [] [] [] [true,true,true] t179
theorem aEP:aV Tryz.prog aF5:=O' Tryz.func179

noncomputable def t181:T:=W' [v' (.gE (j' (z' y0) .nil)),v' (l' y3 y4),v' (.gV 210 .ax (.aa y4 .ax)),c' 209 y3 [y5,y6] [true]] (R' y7 y3)
noncomputable def Qlk:=e' 181 Tryz.f181 true false [] [] [] [true,true,true] t181
theorem gk:aV Tryz.prog Qlk:=O' Tryz.func181

noncomputable def t208:T:=W' [v' (.bB 3 y0),v' (N' (q' 2 y4)),f' y5 (l' y3 y1),f' y5 (q' 1 y4),f' y5 (M' y6 y7),f' y5 (l' y3 y2),f' y5 (.nn y9),f' y5 (p' 0 y10),f' y5 (p' 1 y11),f' y5 (l' y3 y12),f' y5 (X' .gtr y8 y13),v' (.ite y5 (kb true) y14)] (R' y15 y3)
noncomputable def aF0:=e' 208 Tryz.f208 true false [] [] [] [false,true,true] t208
theorem aEK:aV Tryz.prog aF0:=O' Tryz.func208

noncomputable def t211:T:=W' [v' (.bB 5 y0),v' (N' (q' 3 y4)),g' y5 (q' 4 y4),g' y5 (N' y6),v' (.ite y5 y7 (kb false)),g' y8 (q' 2 y4),g' y8 (l' y3 y1),g' y8 (.nn y10),g' y8 (p' 0 y11),g' y8 (p' 0 y12),g' y8 (l' y3 y13),g' y8 (M' y14 (ki 1)),g' y8 (X' .lss y9 y15),v' (.ite y8 y16 (kb false)),g' y17 (l' y3 y2),g' y17 (q' 1 y4),g' y17 (M' y18 y19),g' y17 (l' y3 y1),g' y17 (.nn y21),g' y17 (p' 0 y22),g' y17 (p' 4 y23),g' y17 (l' y3 y24),g' y17 (X' .gtr y20 y25),v' (.ite y17 y26 (kb false))] (R' y27 y3)
noncomputable def anj:=e' 211 Tryz.f211 true false [] [] [] [false,true,true] t211
theorem Qpv:aV Tryz.prog anj:=O' Tryz.func211

noncomputable def t188:T:=W' [v' (.gE (j' (z' y0) .nil)),v' (.gV 215 .ax (.aa y2 .ax))] (R' y3 y1)
noncomputable def axq:=e' 188 Tryz.f188 true false [] [] [] [true] t188
theorem avr:aV Tryz.prog axq:=O' Tryz.func188

noncomputable def t67:T:=W' [v' (X' .neq y0 y0)] (R' y2 y1)
noncomputable def e67:=e' 67 Tryz.f67 true false [] [] [] [true] t67
theorem ajC:aV Tryz.prog e67:=O' Tryz.func67

noncomputable def t101:T:=W' [v' (.bin .eql .str y0 (Z' #[]))] (.ite y4 (R' (C' (k' 0) (.oO 219 (ki 2))) y3) (W' [v' (Q' y1 (ki 0))] (.join 0 6 (W' [v' (X' .leq (ki 2) y1),g' y6 (X' .leq y1 (ki 36)),v' (.ite y6 y7 (kb false))] (.join 1 2 (.ite y8 (J' 1 [y0,y1]) (W' [v' (Q' y1 (ki 0))] (.ite y9 (W' [v' (n' .eJ y0 (ki 0)),v' (Q' y10 (K' 48))] (.join 2 2 (.ite y11 (.join 3 7 (W' [v' (.uJ y0),v' (X' .geq y12 (ki 3)),g' y13 (n' .eJ y0 (ki 1)),.call [(y13,true)] 126 y3 [y14] [true],g' y13 (Q' y15 (K' 98)),v' (.ite y13 y16 (kb false))] (.join 4 2 (.ite y17 (W' [v' (o' .Qix y0 (ki 2) (.uJ y0))] (J' 4 [y18,ki 2])) (W' [v' (.uJ y0),v' (X' .geq y18 (ki 3)),g' y19 (n' .eJ y0 (ki 1)),.call [(y19,true)] 126 y3 [y20] [true],g' y19 (Q' y21 (K' 111)),v' (.ite y19 y22 (kb false))] (.join 5 2 (.ite y23 (W' [v' (o' .Qix y0 (ki 2) (.uJ y0))] (J' 5 [y24,ki 8])) (W' [v' (.uJ y0),v' (X' .geq y24 (ki 3)),g' y25 (n' .eJ y0 (ki 1)),.call [(y25,true)] 126 y3 [y26] [true],g' y25 (Q' y27 (K' 120)),v' (.ite y25 y28 (kb false))] (.join 6 2 (.ite y29 (W' [v' (o' .Qix y0 (ki 2) (.uJ y0))] (J' 6 [y30,ki 16])) (W' [v' (o' .Qix y0 (ki 1) (.uJ y0))] (J' 6 [y30,ki 8]))) (J' 5 [y30,y31])))) (J' 4 [y24,y25])))) (J' 3 [y18,y19,y17,y12,y13,y13,y17]))) (J' 2 [y12,y13])) (J' 2 [y0,ki 10])) (J' 1 [y12,y13]))) (R' (C' (k' 0) (.oO 219 (ki 3))) y3)))) (J' 0 [y9,y10,y8,y6,y6,y8]))) (W' [v' (Q' y2 (ki 0))] (.join 0 1 (.ite y12 (J' 0 [ki 64]) (W' [v' (X' .lss y2 (ki 0)),f' y13 (X' .gtr y2 (ki 64)),v' (.ite y13 (kb true) y14)] (.ite y15 (R' (C' (k' 0) (.oO 219 (ki 4))) y3) (J' 0 [y2])))) (.join 0 3 (W' [v' (Q' y7 (ki 10))] (.join 1 1 (.ite y14 (J' 1 [k' 1844674407370955162]) (W' [v' (Q' y7 (ki 16))] (.join 2 1 (.ite y15 (J' 2 [k' 1152921504606846976]) (W' [v' (.conv .u64 y7),v' (X' .quo (k' 18446744073709551615) y16),v' (P' y17 (k' 1))] (J' 2 [y18]))) (J' 1 [y16])))) (J' 0 [y15,y14,y14]))) (W' [v' (.conv .u64 y13),v' (X' .shl (k' 1) y17),v' (M' y18 (k' 1)),v' (m' .Qhj y6),v' (.aR y20)] (.join 0 4 (.loop 1 [kb false,k' 0,ki 0] (W' [v' (X' .lss y24 y21)] (.ite y25 (.join 2 11 (W' [v' (.aj 1 y20 y24),v' (l' y3 y26)] (.join 3 9 (W' [v' (Q' y27 (K' 95)),v' (.ite y28 y5 (kb false))] (.ite y29 (J' 2 [kb true,y23,y27,K' 0,y26,y27,y29,y27,y28,y28,y29]) (W' [v' (X' .leq (K' 48) y27),g' y30 (X' .leq y27 (K' 57)),v' (.ite y30 y31 (kb false))] (.join 4 1 (.ite y32 (W' [v' (M' y27 (K' 48))] (J' 4 [y33])) (W' [c' 126 y3 [y27] [true],v' (X' .leq (K' 97) y33),.call [(y34,true)] 126 y3 [y27] [true],g' y34 (X' .leq y35 (K' 122)),v' (.ite y34 y36 (kb false))] (.ite y37 (W' [c' 126 y3 [y27] [true],v' (M' y38 (K' 97)),v' (P' y39 (K' 10))] (J' 4 [y40])) (R' (C' (k' 0) (.oO 219 (ki 2))) y3)))) (J' 3 [y33,y29,y28,y28,y29,y32,y30,y30,y32]))))) (W' [v' (.conv .u8 y7),v' (X' .geq y28 y37)] (.ite y38 (R' (C' (k' 0) (.oO 219 (ki 2))) y3) (W' [v' (X' .geq y23 y14)] (.ite y39 (R' (C' y19 (.oO 219 (ki 1))) y3) (W' [v' (.conv .u64 y7),v' (X' .mul y23 y40),v' (.conv .u64 y28),v' (P' y41 y42),v' (X' .lss y43 y41),f' y44 (X' .gtr y43 y19),v' (.ite y44 (kb true) y45)] (.ite y46 (R' (C' y19 (.oO 219 (ki 1))) y3) (J' 2 [y22,y43,y27,y28,y26,y27,y29,y27,y30,y31,y32]))))))))) (W' [v' (P' y24 (ki 1))] (J' 1 [y26,y27,y37]))) (J' 0 [y22,y23,y24,y25])))) (W' [.call [(y22,true)] 127 y3 [y0] [true],g' y22 (N' y26),v' (.ite y22 y27 (kb false))] (.ite y28 (R' (C' (k' 0) (.oO 219 (ki 2))) y3) (R' (C' y23 (.const (.v .nilIface))) y3)))))))))))
noncomputable def ahd:=e' 101 Tryz.f101 true false [] [] [] [true,true,true] t101
theorem aeu:aV Tryz.prog ahd:=O' Tryz.func101

noncomputable def t68:T:=W' [v' (.cI 9 1 y3 (j' (z' y0) .nil)),v' (.gE (j' (z' y1) .nil)),v' (.gE (j' (z' y2) .nil)),v' (.gV 79 .ax (D' y5 (.aU y3) y6))] (R' y7 y4)
noncomputable def e68:=e' 68 Tryz.f68 false false [] [3] [] [true,true,true] t68
theorem ajB:aV Tryz.prog e68:=O' Tryz.func68

noncomputable def t235:T:=W' [v' (.aR y0)] (.join 0 2 (.loop 1 [ki 0] (W' [v' (X' .lss y4 y3)] (.ite y5 (.join 2 3 (W' [v' (.aj 3 y0 y4),v' (.ld true 3 y2 y6),.fu [] y1 y2 [y7] [true]] (.ite y8 (R' y4 y2) (J' 2 [y6,y7,y8]))) (W' [v' (P' y4 (ki 1))] (J' 1 [y9]))) (J' 0 [y4,y5])))) (R' (ki (-1)) y2))
noncomputable def aqq:=e' 235 Tryz.f235 true false [] [] [] [true,true] t235
theorem aoc:aV Tryz.prog aqq:=O' Tryz.func235

noncomputable def t111:T:=W' [c' 106 y2 [y0,y1] [true],v' (X' .geq y3 (ki 0))] (.ite y4 (W' [v' (o' .Qix y0 (ki 0) y3),v' (.uJ y1),v' (P' y3 y6),v' (o' .Qix y0 y7 (.uJ y0))] (R' (D' y5 y8 (kb true)) y2)) (R' (D' y0 (Z' #[]) (kb false)) y2))
noncomputable def ag5:=e' 111 Tryz.f111 true false [] [] [] [true,true] t111
theorem aek:aV Tryz.prog ag5:=O' Tryz.func111

noncomputable def t64:T:=W' [c' 78 y2 [y0,y1] [true],v' (X' .geq y3 (ki 0))] (R' y4 y2)
noncomputable def e64:=e' 64 Tryz.f64 true false [] [] [] [true,true] t64
theorem ajF:aV Tryz.prog e64:=O' Tryz.func64

noncomputable def t144:T:=W' [v' (M' y0 (ki 1)),v' (X' .and y0 y2),v' (Q' y3 (ki 0))] (R' y4 y1)
noncomputable def auP:=e' 144 Tryz.f144 true false [] [] [] [true] t144
theorem asW:aV Tryz.prog auP:=O' Tryz.func144

noncomputable def t146:T:=W' [v' (n' .anH y1 y0)] (.join 0 4 (.loop 1 [ki 0,y2] (W' [v' (n' .snh y4 (.aU y1)),v' (s' (n' .snv y4 (.aU y1)))] (.ite y6 (.join 2 14 (W' [v' (.Qrx 2 (n' .snv y4 (.aU y1))),v' (X' .lss y7 (.const (.v (.int .i32 48)))),f' y8 (X' .gtr y7 (.const (.v (.int .i32 57)))),v' (.ite y8 (kb true) y9),f' y10 (X' .gtr y3 (ki 1000000000000000)),v' (.ite y10 (kb true) y11)] (.ite y12 (R' (C' (ki 0) (kb false)) y5) (W' [v' (X' .mul (ki 10) y3),v' (M' y7 (.const (.v (.int .i32 48)))),v' (.conv .i64 y14),v' (P' y13 y15)] (J' 2 [y16,y7,y7,y7,y8,y8,y10,y10,y12,y13,y7,y14,y15,y16])))) (J' 1 [y7,y5])) (J' 0 [y3,n' .snv y4 (.aU y1),y6,y5])))) (W' [v' (.bin .neq .str y0 (Z' #[])),g' y7 (X' .leq y3 (ki 1000000000000000)),v' (.ite y7 y8 (kb false)),g' y9 (n' .eJ y0 (ki 0)),g' y9 (X' .neq y10 (K' 48)),g' y9 (F' y11 (.uJ y0)),g' y9 (F' y11 (Q' y12 (ki 1))),g' y9 (.ite y11 (kb true) y13),v' (.ite y9 y14 (kb false))] (R' (C' y3 y15) y6)))
noncomputable def agR:=e' 146 Tryz.f146 false false [] [] [] [true] t146
theorem ad7:aV Tryz.prog agR:=O' Tryz.func146

noncomputable def t156:T:=W' [v' (.bB 7 y1),v' (.nn y0),v' (p' 3 y4),v' (l' y2 y5),v' (.aR y6),v' (M' y7 (ki 1)),c' 61 y2 [q' 0 y3,ki 0,y8] [true],v' (N' y9),f' y10 (q' 1 y3),.call [(y10,false)] 61 y2 [y11,ki 0,ki 1000000000] [true],f' y10 (N' y12),v' (.ite y10 (kb true) y13),f' y14 (q' 6 y3),.call [(y14,false)] 61 y2 [y15,ki 0,ki 1000000000000] [true],f' y14 (N' y16),v' (.ite y14 (kb true) y17)] (.ite y18 (R' (kb false) y2) (W' [v' (Q' (q' 2 y3) (ki 4))] (.ite y19 (W' [v' (M' (q' 1 y3) (ki 1)),c' 61 y2 [q' 3 y3,ki 0,y20] [true],g' y21 (q' 4 y3),g' y21 (Q' y22 (ki 0)),v' (.ite y21 y23 (kb false)),g' y24 (q' 5 y3),g' y24 (Q' y25 (ki 0)),v' (.ite y24 y26 (kb false))] (R' y27 y2)) (W' [v' (.nn y0),v' (p' 0 y20),v' (p' 0 y21),v' (l' y2 y22),c' 61 y2 [q' 3 y3,ki 1,y23] [true],v' (N' y24),f' y25 (q' 4 y3),f' y25 (.nn y0),f' y25 (p' 0 y27),f' y25 (p' 1 y28),f' y25 (l' y2 y29),f' y25 (M' y30 (ki 1)),.call [(y25,false)] 61 y2 [y26,ki 0,y31] [true],f' y25 (N' y32),v' (.ite y25 (kb true) y33)] (.ite y34 (R' (kb false) y2) (.join 0 4 (W' [v' (Q' (q' 2 y3) (ki 1))] (.join 1 1 (.ite y35 (J' 1 [y35]) (W' [v' (Q' (q' 2 y3) (ki 2))] (J' 1 [y36]))) (.ite y36 (W' [c' 61 y2 [q' 5 y3,ki 0,ki 1000000000000] [true]] (R' y37 y2)) (W' [v' (Q' (q' 2 y3) (ki 3))] (.ite y37 (W' [v' (Q' (q' 5 y3) (ki 0))] (R' y38 y2)) (J' 0 [y36,y35,y37,y37])))))) (R' (kb false) y2)))))))
noncomputable def auo:=e' 156 Tryz.f156 true false [] [] [] [true,false] t156
theorem ar0:aV Tryz.prog auo:=O' Tryz.func156

noncomputable def t35:T:=W' [c' 28 y2 [y0] [true],v' (N' y3)] (.ite y4 (R' (ki 1) y2) (W' [v' (.nn y0),v' (p' 34 y5),v' (l' y2 y6),v' (.aR y7),v' (X' .geq y8 (ki 5000))] (.ite y9 (W' [v' (.nn y0),v' (p' 0 y10),v' (.ld true 30 y2 y11),v' (.nn y0),v' (p' 34 y13),v' (l' y2 y14),c' 58 y2 [y15] [true],w' 15 y2 [y12,y16] [true,true,true],w' 59 (t' y17) [s' (s' y17),y1] [true],v' (X' .neq (s' y18) (ki 0))] (.ite y19 (R' (s' y18) (t' y18)) (R' (ki 4) (t' y18)))) (W' [w' 59 y2 [y0,y1] [true],v' (X' .neq (s' y10) (ki 0))] (.ite y11 (R' (s' y10) (t' y10)) (W' [v' (.nn y0),v' (p' 34 y12),v' (l' (t' y10) y13),v' (.nn y0),v' (p' 34 y15),v' (l' (t' y10) y16),c' 60 (t' y10) [y17,y1] [true],v' (j' (z' y1) (j' (z' y18) .nil)),v' (.bz (.bB 2 y19) (.const (.bq []))),v' (.fU 95 2 32 (t' y10) y14 y20),v' (.nn y0),v' (p' 34 y22),v' (.gQ 1 y21 y23 (.apps (t' y10) y14 y20))] (R' (ki 0) y24)))))))
noncomputable def e35:=e' 35 Tryz.f35 false false [] [] [] [true,true] t35
theorem ajQ:aV Tryz.prog e35:=O' Tryz.func35

noncomputable def t84:T:=.loop 0 [y2] (.join 1 16 (W' [v' (l' y3 y1),c' 85 y3 [y4,Z' #[32]] [true,true,true],.fC [] y0 y3 [s' y5] [true],v' (N' (s' y6)),f' y7 (.Qrx 2 y5),f' y7 (N' y8),v' (.ite y7 (kb true) y9)] (.ite y10 (R' .ax (t' y6)) (W' [v' (.gQ 1 (t' y6) y1 (t' y5))] (J' 1 [s' y5,t' y5,.Qrx 2 y5,D' (s' y5) (t' y5) (.Qrx 2 y5),y4,D' (s' y5) (t' y5) (.Qrx 2 y5),s' y5,t' y5,.Qrx 2 y5,s' y5,s' y6,y7,y7,y10,t' y5,y11])))) (J' 0 [y19]))
noncomputable def e84:=e' 84 Tryz.f84 false false [1000014] [] [] [true,true] t84
theorem ajo:aV Tryz.prog e84:=O' Tryz.func84

noncomputable def t116:T:=W' [c' 152 y3 [y0,y1,y2] [true,true],v' (X' .neq (t' y4) (ki 0))] (.ite y5 (R' (t' y4) y3) (W' [v' (.aR (s' y4)),v' (X' .gtr y6 (ki 0))] (.ite y7 (R' (ki 7) y3) (W' [v' (.nn y0),v' (p' 14 y8),v' (l' y3 y9),v' (.nn y0),v' (p' 14 y11),v' (l' y3 y12),v' (.aj 5 y10 y1),v' (p' 0 y14),v' (.gQ 1 y3 y15 (kb true)),v' (.aj 5 y13 y1),v' (p' 1 y17),v' (.gQ 1 y16 y18 y2)] (R' (ki 0) y19)))))
noncomputable def ag1:=e' 116 Tryz.f116 false false [] [] [] [true,true,true] t116
theorem aeg:aV Tryz.prog ag1:=O' Tryz.func116

noncomputable def t120:T:=W' [v' (.nn y0),v' (p' 1 y3),v' (l' y2 y4),v' (l' y2 y1),v' (.aj 1 y6 (ki 1)),v' (l' y2 y7),v' (l' y2 y1),v' (.aj 1 y9 (ki 2)),v' (l' y2 y10),v' (.aj 1 y5 y8),v' (.gQ 1 y2 y12 y11)] (R' .ax y13)
noncomputable def aGc:=e' 120 Tryz.f120 false false [] [] [] [true,true] t120
theorem aEX:aV Tryz.prog aGc:=O' Tryz.func120

noncomputable def t121:T:=W' [v' (.gE (j' (z' y2) .nil)),v' (.gE (.bB 4 y3)),v' (l' y4 y5),v' (.nn y0),v' (p' 0 y8),v' (p' 10 y9),v' (p' 0 y10),v' (l' y4 y11),v' (.aR y12),v' (X' .geq y7 y13)] (.join 0 0 (.ite y14 (.kV 113 y4 [ki 2] [] [] [] (J' 0 [])) (J' 0 [])) (W' [v' (.gV 160 .ax (C' y6 y5))] (.iH 118 y4 [y0,y1,y15] [] [] [] (R' .ax (t' y16)))))
noncomputable def aBu:=e' 121 Tryz.f121 false false [] [] [] [true,true,true,false] t121
theorem aAa:aV Tryz.prog aBu:=O' Tryz.func121

noncomputable def t193:T:=.loop 0 [y1,y2,y3,kb true,kb true,y5] (.join 1 26 (W' [v' (M' y7 y6),v' (X' .leq y12 (ki 12))] (.ite y13 (W' [w' 218 y11 [y0,y6,y7,y4] []] (R' .ax (t' y14))) (W' [v' (Q' y8 (ki 0))] (.ite y14 (W' [c' 219 y11 [y0,y6,y7,y4] []] (R' .ax y11)) (W' [v' (N' y9)] (.join 2 1 (.ite y15 (W' [c' 220 y11 [y0,y6,y7,y4] [],v' (M' y8 (ki 1))] (J' 2 [y17])) (J' 2 [y8])) (W' [c' 221 y11 [y0,y6,y7,y4] [true,true],v' (Q' (t' y17) (ki 2))] (.join 2 2 (.ite y18 (W' [c' 222 y11 [y0,y6,y7,y4] [],v' (M' y7 (ki 1)),v' (M' (s' y17) y6),v' (M' y20 y21)] (J' 2 [y22,ki 1])) (J' 2 [s' y17,t' y17])) (W' [v' (.ite y9 y10 (kb false)),g' y21 (Q' y20 (ki 1)),v' (.ite y21 y22 (kb false))] (.join 2 0 (.ite y23 (W' [c' 223 y11 [y0,y6,y7,y4] [true]] (.ite y24 (R' .ax y11) (J' 2 []))) (J' 2 [])) (W' [v' (X' .gtr y6 (ki 0)),g' y24 (M' y6 (ki 1)),g' y24 (.aj 7 y0 y25),g' y24 (.ld true 7 y11 y26),g' y24 (.aj 7 y0 y19),g' y24 (.ld true 7 y11 y28),.fu [(y24,true)] y4 y11 [y27,y29] [true],g' y24 (X' .lss y30 (ki 0)),g' y24 (N' y31),v' (.ite y24 y32 (kb false))] (.ite y33 (W' [c' 224 y11 [y0,y6,y7,y19,y4] [true]] (J' 1 [y34,y7,y16,y9,y10,y12,y19,y20,y12,y12,y13,y14,y15,C' (s' y17) (t' y17),C' (s' y17) (t' y17),s' y17,t' y17,t' y17,y18,y21,y21,y23,y24,y24,y33,y11])) (W' [c' 225 y11 [y0,y6,y7,y19,y4] [true,true],v' (M' (s' y34) y6),v' (M' y7 (s' y34)),v' (X' .quo y12 (ki 8)),v' (X' .lss y35 y36)] (.join 2 4 (.ite y38 (W' [v' (X' .geq y35 y37),w' 193 y11 [y0,y6,s' y34,y16,y4] [],v' (P' (s' y34) (ki 1))] (J' 2 [y41,y7,y39,t' y40])) (W' [v' (X' .geq y36 y37),v' (P' (s' y34) (ki 1)),w' 193 y11 [y0,y40,y7,y16,y4] []] (J' 2 [y6,s' y34,y39,t' y41]))) (J' 1 [y39,y40,y16,y41,t' y34,y12,y19,y20,y12,y12,y13,y14,y15,C' (s' y17) (t' y17),C' (s' y17) (t' y17),s' y17,t' y17,t' y17,y18,y21,y21,y23,y24,y24,y33,y42]))))))))))))))) (J' 0 [y12,y13,y14,y15,y16,y37]))
noncomputable def aqz:=e' 193 Tryz.f193 false false [] [] [] [true,true,true,true,true] t193
theorem aoh:aV Tryz.prog aqz:=O' Tryz.func193

noncomputable def aHu:T:=.nk y0 false (.ite y2 (R' (.const (.bq [])) y1) (W' [v' (.a_ 69 4 y1 (.const (.bq []))),v' (.fU 69 4 32 y3 (.bO y1 (.const (.bq []))) y0)] (R' (.apps y3 (.bO y1 (.const (.bq []))) y0) y4)))
noncomputable def azt:=e' 53 Tryz.f53 false false [] [5,7] [] [true] aHu
theorem aw9:aV Tryz.prog azt:=O' Tryz.func53

noncomputable def t59:T:=W' [v' (.cI 42 1 y2 (.const (.agg [.v (.int .i64 0)])))] (.Jc 71 [4] [.aU y2] (l' y1 y0) (W' [v' (.uJ y1),v' (X' .gtr y4 (ki 200))] (.ite y5 (W' [v' (.gQ 1 y3 (.aU y2) (ki 4))] (R' (.aa (.aU y2) .ax) y6)) (W' [v' (.cI 54 1 y3 (.const (.agg [.cq]))),w' 72 y6 [y1] [true]] (.join 0 1 (.Qsz (s' y7) (t' y7) [0,1,4,5,10,11,12,13,14] [y0,y1,.aU y2,.aU y3,y1,y4,y5,y1,s' y7] 1 1 (.join 2 4 (W' [v' (l' y8 (.aU y3)),v' (.bz (z' y9) (.const (.bq []))),v' (.fU 9 1 16 y8 y10 y11),v' (.gQ 1 y12 (.aU y3) (.apps y8 y10 y11))] (J' 2 [y10,y11,.apps y8 y10 y11,y13])) (J' 1 [y13])) (J' 0 [y8])) (W' [w' 73 y8 [y0] [true],v' (l' (t' y9) (.aU y3)),v' (.aj 1 y10 (ki 0)),v' (l' (t' y9) y11),v' (.m4 (.VO .str) (t' y9) (s' y9) y12 (.const (.v .nilFunc))),v' (n' .same (l' (t' y9) (.aU y3)) (l' y8 (.aU y3))),v' (n' .same (l' (t' y9) y11) (l' y8 y11)),v' (N' (t' y13))] (.ite y16 (W' [v' (.gQ 1 (t' y9) (.aU y2) (ki 3))] (R' (.aa (.aU y2) .ax) y17)) (W' [v' (l' (t' y9) (.aU y3)),v' (.aj 1 y17 (ki 0)),v' (l' (t' y9) y18),v' (l' (t' y9) (.aU y3)),v' (.sub 1 y20 (ki 1) (.aR y20)),v' (j' (z' y19) (j' (z' y21) .nil))] (.gu (s' y13) (t' y9) [y22] [] [4] [.aU y2] (W' [v' (.gQ 1 (t' y23) (.aU y2) (ki 0))] (R' (.aa (.aU y2) .ax) y24)))))))))))
noncomputable def e59:Entry:={ f:=59,kn:=(.defers [4]),cf:={ (Js false ([72]++Qgy) Qhq [] [] Tryz.f59) with FB:=true,bC:=true },own:=false,bX:=[true,true],t:=t59 }
theorem aye:aV Tryz.prog e59:=aV.aey Tryz.func59 (by kernel_rfl) (by kernel_rfl)
end

section
open Go.Proofs

noncomputable def t178:T:=W' [v' (.nn y0),v' (p' 12 y4),v' (l' y3 y5),c' 206 y3 [y6,.const (.fn 207 [] [])] [true]] (R' y7 y3)
noncomputable def Ti:=e' 178 Tryz.f178 true false [] [] [] [true,true,true] t178
theorem Qlz:aV Tryz.prog Ti:=O' Tryz.func178

noncomputable def t28:T:=W' [v' (.bin .neq .ptr y0 (.const (.v (.pointer none)))),g' y2 (.nn y0),g' y2 (p' 30 y3),g' y2 (l' y1 y4),g' y2 (.bin .neq .ptr y5 (.const (.v (.pointer none)))),v' (.ite y2 y6 (kb false))] (R' y7 y1)
noncomputable def e28:=e' 28 Tryz.f28 true false [] [] [] [true] t28
theorem axa:aV Tryz.prog e28:=O' Tryz.func28

noncomputable def t56:T:=W' [c' 70 y1 [y0] [true]] (R' y2 y1)
noncomputable def e56:=e' 56 Tryz.f56 true false [] [] [] [true] t56
theorem ajH:aV Tryz.prog e56:=O' Tryz.func56

noncomputable def t214:T:=W' [v' (.bB 5 y0)] (R' (q' 0 y2) y1)
noncomputable def am1:=e' 214 Tryz.f214 true false [] [] [] [false] t214
theorem Qpk:aV Tryz.prog am1:=O' Tryz.func214

noncomputable def t24:T:=W' [v' (.bB 14 y0),v' (.aR (q' 0 y2)),c' 47 y1 [y3,ki 1,ki 100] [true],v' (N' y4),f' y5 (q' 1 y2),.call [(y5,false)] 47 y1 [y6,ki 1,ki 20] [true],f' y5 (N' y7),v' (.ite y5 (kb true) y8),f' y9 (q' 0 y2),f' y9 (.aj 4 y10 (ki 0)),f' y9 (p' 1 y11),f' y9 (l' y1 y12),f' y9 (X' .neq y13 (ki 0)),v' (.ite y9 (kb true) y14)] (.ite y15 (R' (ki 2) y1) (W' [v' (.aR (q' 0 y2))] (.join 0 2 (.loop 1 [ki 0] (W' [v' (X' .lss y17 y16)] (.ite y18 (.join 2 14 (W' [v' (.aj 4 (q' 0 y2) y17),v' (.ld true 4 y1 y19),v' (.bB 4 y20),v' (X' .gtr y17 (ki 0)),g' y22 (q' 1 y21),g' y22 (q' 0 y2),g' y22 (M' y17 (ki 1)),g' y22 (.aj 4 y24 y25),g' y22 (p' 1 y26),g' y22 (l' y1 y27),g' y22 (M' y23 y28),.call [(y22,true)] 47 y1 [y29,ki 0,ki 1] [true],g' y22 (N' y30),v' (.ite y22 y31 (kb false)),f' y32 (q' 1 y21),f' y32 (X' .geq y33 (ki 6)),v' (.ite y32 (kb true) y34)] (.ite y35 (R' (ki 2) y1) (.join 3 2 (W' [v' (Q' (q' 0 y21) (ki 1))] (.join 4 0 (.ite y36 (W' [c' 47 y1 [q' 2 y21,ki 0,ki 1440] [true],v' (N' y37)] (.ite y38 (R' (ki 2) y1) (J' 4 []))) (W' [v' (Q' (q' 0 y21) (ki 2))] (.ite y37 (W' [v' (X' .neq (q' 2 y21) (ki 0)),f' y38 (q' 3 y21),v' (.ite y38 (kb true) y39)] (.ite y40 (R' (ki 2) y1) (J' 4 []))) (R' (ki 2) y1)))) (J' 3 [y36,y36]))) (J' 2 [y19,y20,y22,y22,y32,y32,y35,q' 0 y21,y36,y37,q' 0 y21,q' 1 y21,q' 2 y21,q' 3 y21])))) (W' [v' (P' y17 (ki 1))] (J' 1 [y33]))) (J' 0 [y17,y18])))) (W' [v' (.bz (z' (q' 2 y2)) (.bz (z' (q' 3 y2)) (.bz (z' (q' 8 y2)) (.const (.bq []))))),c' 48 y1 [y19,ki 3,ki 3,ki 36000000] [true],v' (N' y20),f' y21 (q' 4 y2),f' y21 (q' 5 y2),f' y21 (.bz (z' y22) (.bz (z' y23) (.const (.bq [])))),.call [(y21,false)] 48 y1 [y24,ki 2,ki 2,ki 1440] [true],f' y21 (N' y25),v' (.ite y21 (kb true) y26),f' y27 (q' 6 y2),.call [(y27,false)] 48 y1 [y28,ki 1,ki 10,ki 36000000] [true],f' y27 (N' y29),v' (.ite y27 (kb true) y30)] (.ite y31 (R' (ki 2) y1) (W' [v' (X' .lss (q' 9 y2) (ki 1)),f' y32 (q' 9 y2),f' y32 (X' .gtr y33 (ki 4)),v' (.ite y32 (kb true) y34),f' y35 (q' 10 y2),.call [(y35,false)] 47 y1 [y36,ki 100,ki 1000] [true],f' y35 (N' y37),v' (.ite y35 (kb true) y38),f' y39 (q' 12 y2),.call [(y39,false)] 48 y1 [y40,ki 0,ki 60,ki 1000] [true],f' y39 (N' y41),v' (.ite y39 (kb true) y42),f' y43 (q' 13 y2),.call [(y43,false)] 48 y1 [y44,ki 0,ki 60,ki 1000] [true],f' y43 (N' y45),v' (.ite y43 (kb true) y46)] (.ite y47 (R' (ki 2) y1) (W' [v' (.aR (q' 0 y2)),v' (M' y48 (ki 1)),c' 47 y1 [q' 11 y2,ki (-1),y49] [true],v' (N' y50),f' y51 (q' 11 y2),f' y51 (X' .geq y52 (ki 0)),f' y51 (G' y53 (q' 0 y2)),f' y51 (G' y53 (q' 11 y2)),f' y51 (G' y53 (.aj 4 y54 y55)),f' y51 (G' y53 (p' 0 y56)),f' y51 (G' y53 (l' y1 y57)),f' y51 (G' y53 (X' .neq y58 (ki 2))),f' y51 (.ite y53 y59 (kb false)),v' (.ite y51 (kb true) y60)] (.ite y61 (R' (ki 2) y1) (R' (ki 0) y1))))))))))
noncomputable def e24:=e' 24 Tryz.f24 true false [] [] [] [false] t24
theorem aiw:aV Tryz.prog e24:=O' Tryz.func24

noncomputable def t49:T:=W' [v' (X' .geq y0 y1),g' y4 (X' .leq y0 y2),v' (.ite y4 y5 (kb false))] (R' y6 y3)
noncomputable def e49:=e' 49 Tryz.f49 true false [] [] [] [true,true,true] t49
theorem aym:aV Tryz.prog e49:=O' Tryz.func49

noncomputable def t26:T:=W' [v' (.bB 4 y0),v' (Q' (q' 0 y2) (ki 2))] (R' y3 y1)
noncomputable def e26:=e' 26 Tryz.f26 true false [] [] [] [false] t26
theorem ayo:aV Tryz.prog e26:=O' Tryz.func26

noncomputable def t39:T:=.nk y0 false (.ite y2 (R' (.const (.bq [])) y1) (W' [v' (.const (.bq [])),v' (.app 4 32 y3 y0)] (R' y4 y1)))
noncomputable def e39:=e' 39 Tryz.f39 true false [] [] [] [true] t39
theorem WQ:aV Tryz.prog e39:=O' Tryz.func39

noncomputable def t41:T:=W' [v' (.bB 3 y0),c' 61 y2 [q' 0 y3,ki 1,ki 200] [true],v' (N' y4),f' y5 (q' 1 y3),.call [(y5,false)] 61 y2 [y6,ki 2,ki 30] [true],f' y5 (N' y7),v' (.ite y5 (kb true) y8),f' y9 (q' 2 y3),f' y9 (.aR y10),f' y9 (q' 1 y3),f' y9 (M' y12 (ki 1)),f' y9 (X' .neq y11 y13),v' (.ite y9 (kb true) y14),f' y15 (.aR y1),f' y15 (X' .gtr y16 (ki 50)),v' (.ite y15 (kb true) y17)] (.ite y18 (R' (kb false) y2) (W' [c' 62 y2 [q' 2 y3,.const (.fn 63 [] [])] [true],v' (N' y19),.call [(y20,true)] 64 y2 [y1,.const (.fn 65 [] [])] [true],g' y20 (N' y21),v' (.ite y20 y22 (kb false))] (R' y23 y2)))
noncomputable def e41:=e' 41 Tryz.f41 true false [] [] [] [false,true] t41
theorem aq0:aV Tryz.prog e41:=O' Tryz.func41

noncomputable def t237:T:=W' [v' (.aR y0)] (.join 0 2 (.loop 1 [ki 0] (W' [v' (X' .lss y4 y3)] (.ite y5 (.join 2 3 (W' [v' (.aj 5 y0 y4),v' (.ld true 5 y2 y6),.fu [] y1 y2 [y7] [true]] (.ite y8 (R' y4 y2) (J' 2 [y6,y7,y8]))) (W' [v' (P' y4 (ki 1))] (J' 1 [y9]))) (J' 0 [y4,y5])))) (R' (ki (-1)) y2))
noncomputable def aFW:=e' 237 Tryz.f237 true false [] [] [] [true,true] t237
theorem aEG:aV Tryz.prog aFW:=O' Tryz.func237

noncomputable def t113:T:=W' [v' (X' .neq y0 (ki 0))] (.join 0 0 (.ite y2 (W' [v' (j' (z' y0) .nil)] (.fc (m' .UI (.oO 161 y3)) y1 [] [])) (J' 0 [])) (R' .ax y1))
noncomputable def axE:=e' 113 Tryz.f113 true false [] [] [] [true] t113
theorem avF:aV Tryz.prog axE:=O' Tryz.func113

noncomputable def t115:T:=W' [v' (.nn y0),v' (p' 0 y3),v' (p' 6 y4),v' (p' 0 y5),v' (l' y2 y6),c' 151 y2 [y1,ki 1,y7] [true],v' (N' y8)] (.join 0 0 (.ite y9 (.kV 113 y2 [ki 2] [] [] [] (J' 0 [])) (J' 0 [])) (W' [v' (M' y1 (ki 1))] (R' y10 y2)))
noncomputable def ag2:=e' 115 Tryz.f115 true false [] [] [] [true,true] t115
theorem aeh:aV Tryz.prog ag2:=O' Tryz.func115

noncomputable def t63:T:=W' [c' 61 y1 [y0,ki 0,ki 100000000] [true],v' (N' y2)] (R' y3 y1)
noncomputable def e63:=e' 63 Tryz.f63 true false [] [] [] [true] t63
theorem aA8:aV Tryz.prog e63:=O' Tryz.func63

noncomputable def t65:T:=W' [v' (.bB 2 y0),v' (X' .lss (q' 0 y2) (ki 1)),f' y3 (q' 0 y2),f' y3 (X' .gtr y4 (ki 3)),v' (.ite y3 (kb true) y5),f' y6 (q' 1 y2),.call [(y6,false)] 61 y1 [y7,ki 0,ki 10000000] [true],f' y6 (N' y8),v' (.ite y6 (kb true) y9)] (R' y10 y1)
noncomputable def e65:=e' 65 Tryz.f65 true false [] [] [] [false] t65
theorem ajE:aV Tryz.prog e65:=O' Tryz.func65

noncomputable def t88:T:=W' [v' (.bB 2 y1)] (.iH 112 y2 [fN 2 y3,ki 2] [true] [] [] (W' [v' (.nn y0),v' (p' 30 y5),v' (l' (t' y4) y6),v' (.aj 1 (s' y4) (ki 0)),v' (l' (t' y4) y8),c' 115 (t' y4) [y0,y9] [true],v' (.aj 1 (s' y4) (ki 1)),v' (l' (t' y4) y11),w' 116 (t' y4) [y7,y10,y12] [true]] (.kV 113 (t' y13) [s' y13] [] [] [] (R' .ax (t' y13)))))
noncomputable def e88:=e' 88 Tryz.f88 false false [112] [] [] [true,false] t88
theorem ajm:aV Tryz.prog e88:=O' Tryz.func88

noncomputable def t93:T:=W' [v' (.bB 2 y1)] (.iH 112 y2 [fN 2 y3,ki 3] [true] [] [] (W' [v' (.cI 24 1 (t' y4) (.const (.agg [.cq]))),v' (.gQ 1 y5 (.aU (t' y4)) (s' y4)),v' (l' y6 (.aU (t' y4))),v' (.aj 1 y7 (ki 0)),v' (l' y6 y8)] (.kV 115 y6 [y0,y9] [true] [] [] (W' [v' (l' y6 (.aU (t' y4))),v' (.aj 1 y11 (ki 1)),v' (l' y6 y12),v' (.nn y0),v' (p' 33 y14),v' (l' y6 y15),v' (.aj 3 y16 y10),v' (p' 1 y17),v' (l' y6 y18),v' (.aR y19),v' (X' .geq y13 y20)] (.join 0 0 (.ite y21 (.kV 113 y6 [ki 2] [] [] [] (J' 0 [])) (J' 0 [])) (W' [v' (.gV 120 .ax (.aa (.aU (t' y4)) .ax))] (.iH 118 y6 [y0,y10,y22] [] [] [] (R' .ax (t' y23)))))))))
noncomputable def e93:=e' 93 Tryz.f93 false false [112] [] [] [true,false] t93
theorem ava:aV Tryz.prog e93:=O' Tryz.func93

noncomputable def t94:T:=W' [v' (.bB 2 y1),v' (.aR (q' 1 y3)),v' (M' y4 (ki 1)),v' (X' .geq y5 (ki 0)),g' y6 (q' 1 y3),g' y6 (.aj 1 y7 y5),g' y6 (l' y2 y8),g' y6 (.bin .eql .str y9 (Z' #[106,117,109,112])),v' (.ite y6 y10 (kb false))] (.join 0 3 (.ite y11 (W' [v' (.sub 1 (q' 1 y3) (ki 0) y5),v' (P' (ki 0) (ki 1))] (J' 0 [y13,y12,kb true])) (J' 0 [ki 0,q' 1 y3,kb false])) (W' [v' (.aR y13),v' (M' y15 (ki 1)),v' (X' .geq y16 (ki 0)),g' y17 (.aj 1 y13 y16),g' y17 (l' y2 y18),g' y17 (.bin .eql .str y19 (Z' #[115,116,111,112,112,101,100])),v' (.ite y17 y20 (kb false))] (.join 0 3 (.ite y21 (W' [v' (.sub 1 y13 (ki 0) y16),v' (P' y12 (ki 1))] (J' 0 [y23,y22,ki 1])) (J' 0 [y12,y13,ki 0])) (W' [v' (.aR y23),v' (M' y25 (ki 1)),v' (Q' y22 (ki 0)),g' y27 (X' .geq y26 (ki 0)),v' (.ite y27 y28 (kb false)),g' y29 (.aj 1 y23 y26),g' y29 (l' y2 y30),g' y29 (.bin .eql .str y31 (Z' #[109,105,115,115,101,100])),v' (.ite y29 y32 (kb false))] (.join 0 2 (.ite y33 (W' [v' (.sub 1 y23 (ki 0) y26)] (J' 0 [y34,ki 2])) (J' 0 [y23,y24])) (W' [v' (m' .aaA y2),v' (.m4 (.put .int) y36 (m' .abR y2) (ki 0) (ki 4)),v' (.m4 (.put .int) y37 (m' .abR y2) (ki 1) (ki 3)),v' (.m4 (.put .int) y38 (m' .abR y2) (ki 2) (ki 2)),v' (.m4 (.get .int false) y39 (m' .abR y2) y35 (ki 0))] (.iH 112 y39 [j' (q' 0 y3) (j' y34 .nil),y40] [true] [] [] (W' [v' (.aR (s' y41)),v' (X' .gtr y42 (ki 2))] (.join 0 1 (.ite y43 (W' [v' (.aj 1 (s' y41) (ki 2)),v' (l' (t' y41) y44)] (J' 0 [y45])) (J' 0 [ki 0])) (W' [v' (.aR (s' y41)),v' (X' .gtr y45 (ki 3))] (.join 0 1 (.ite y46 (W' [v' (.aj 1 (s' y41) (ki 3)),v' (l' (t' y41) y47)] (J' 0 [y48])) (J' 0 [ki 0])) (W' [v' (.aj 1 (s' y41) (ki 0)),v' (l' (t' y41) y48),c' 115 (t' y41) [y0,y49] [true],v' (.aj 1 (s' y41) (ki 1)),v' (l' (t' y41) y51)] (.iH 121 (t' y41) [y0,y50,y52,j' y44 (j' y47 (j' y14 (j' y35 .nil)))] [] [] [] (R' .ax (t' y53)))))))))))))))
noncomputable def e94:=e' 94 Tryz.f94 false false [112] [] [] [true,false] t94
theorem au9:aV Tryz.prog e94:=O' Tryz.func94

noncomputable def t95:T:=W' [v' (.gE (j' (z' y0) .nil)),v' (.bB 2 y1)] (.iH 112 y2 [fN 2 y4,ki 4] [true] [] [] (W' [v' (.cI 24 1 (t' y5) (.const (.agg [.cq]))),v' (.gQ 1 y6 (.aU (t' y5)) (s' y5)),v' (l' y7 y3),v' (l' y7 (.aU (t' y5))),v' (.aj 1 y9 (ki 0)),v' (l' y7 y10),c' 115 y7 [y8,y11] [true],v' (l' y7 (.aU (t' y5))),v' (.aj 1 y13 (ki 1)),v' (l' y7 y14),v' (l' y7 y3),v' (.nn y16),v' (p' 0 y17),v' (p' 10 y18),v' (p' 0 y19),v' (l' y7 y20),v' (.aR y21),v' (X' .geq y15 y22)] (.join 0 0 (.ite y23 (.kV 113 y7 [ki 2] [] [] [] (J' 0 [])) (J' 0 [])) (W' [v' (.gV 122 .ax (C' y3 (.aU (t' y5)))),.fC [] y24 y7 [ki 0] [true],v' (l' (t' y25) y3),v' (.nn y26),v' (p' 0 y27),v' (p' 6 y28),v' (p' 1 y29),v' (l' (t' y25) y30),v' (M' y31 (ki 1)),.fC [] y24 (t' y25) [y32] [true],v' (n' .same (l' (t' y25) y3) (l' y7 y3)),v' (n' .same (l' (t' y25) y30) (l' y7 y30)),v' (X' .leq (s' y33) (s' y25))] (.join 0 0 (.ite y36 (.kV 113 (t' y33) [ki 2] [] [] [] (J' 0 [])) (J' 0 [])) (W' [v' (l' (t' y33) y3),v' (l' (t' y33) (.aU (t' y5))),v' (.aj 1 y38 (ki 1)),v' (l' (t' y33) y39),v' (l' (t' y33) (.aU (t' y5))),v' (.aj 1 y41 (ki 2)),v' (l' (t' y33) y42),v' (M' (s' y33) (s' y25)),v' (j' (z' y43) (j' (z' y44) (j' (.const (.agg [.v (.bool false)])) (j' (.const (.agg [.v (.int .i64 0)])) .nil))))] (.iH 121 (t' y33) [y37,y12,y40,y45] [] [] [] (R' .ax (t' y46)))))))))
noncomputable def e95:=e' 95 Tryz.f95 false false [112,1000030,1000039] [] [] [true,false] t95
theorem au5:aV Tryz.prog e95:=O' Tryz.func95

noncomputable def t215:T:=W' [v' (l' y2 y1),v' (.aR y3),v' (M' y4 (ki 1))] (.join 0 4 (.loop 1 [y5,y2] (W' [v' (X' .geq y6 (ki 0))] (.ite y8 (.join 2 6 (W' [v' (l' y7 y1),v' (.aj 7 y9 y6),v' (.ld true 7 y7 y10),.fC [] y0 y7 [y6,y11] [true],v' (N' (s' y12))] (.ite y13 (R' .ax (t' y12)) (J' 2 [y9,y10,y11,s' y12,y13,t' y12]))) (W' [v' (M' y6 (ki 1))] (J' 1 [y15,y14]))) (J' 0 [y6,y6,y8,y7])))) (R' .ax y9))
noncomputable def axn:=e' 215 Tryz.f215 false false [1000017] [] [] [true,true] t215
theorem avo:aV Tryz.prog axn:=O' Tryz.func215

noncomputable def t123:T:=W' [c' 161 y4 [y0,y1,y2,y3] [true],v' (X' .neq y5 (ki 0))] (.ite y6 (R' (C' (ki 0) y5) y4) (W' [w' 162 y4 [y0,y3] [true],w' 163 (t' y7) [s' y7,y1,y2] [true],v' (X' .lss (s' y8) (ki 0))] (.ite y9 (R' (C' (ki 0) (ki 5)) (t' y8)) (R' (C' (s' y8) (ki 0)) (t' y8)))))
noncomputable def agY:=e' 123 Tryz.f123 false false [] [] [] [true,true,true,true] t123
theorem aed:aV Tryz.prog agY:=O' Tryz.func123

noncomputable def t157:T:=W' [v' (.bin .eql .mp y0 (.const (.v (.map none))))] (.ite y2 (R' (.const (.v (.map none))) y1) (W' [v' (n' .anX y1 (.oO 122 y0)),v' (z' (m' (.m0 122) (n' .anW y1 (.oO 122 y0))))] (R' y4 y3)))
noncomputable def axy:=e' 157 Tryz.f157 false false [] [] [] [true] t157
theorem avz:aV Tryz.prog axy:=O' Tryz.func157

noncomputable def t163:T:=W' [v' (.gE (j' (z' y0) .nil)),v' (.gE (j' (z' y2) .nil)),v' (.cI 24 1 y3 (.const (.agg [.cq]))),v' (l' y6 y4),c' 189 y6 [y7,y1] [true]] (.join 0 1 (.Qsz y8 y6 [0,1,2,3,5,6,7,12,13,14] [y0,y1,y2,y4,y5,ki 0,.aU y3,y7,y1,y8] 2 1 (W' [v' (.cI 205 7 y9 (.const (.agg [.v (.int .i64 0),.v (.int .i64 0),.v (.int .i64 0),.v (.int .i64 0),.v (.int .i64 0),.v (.int .i64 0),.v (.int .i64 0)]))),v' (.gQ 7 y12 (.aU y9) y11)] (.join 2 6 (W' [v' (p' 2 (.aU y9)),v' (l' y13 y14),v' (Q' y15 (ki 1)),g' y16 (p' 4 (.aU y9)),g' y16 (l' y13 y17),g' y16 (l' y13 y5),g' y16 (Q' y18 y19),v' (.ite y16 y20 (kb false))] (.join 3 1 (.ite y21 (W' [v' (l' y13 (.aU y3)),v' (.bz (z' y10) (.const (.bq []))),v' (.fU 3 1 8 y13 y22 y23),v' (.gQ 1 y24 (.aU y3) (.apps y13 y22 y23))] (J' 3 [y25])) (J' 3 [y13])) (J' 2 [y14,y15,y16,y16,y21,y22]))) (J' 1 [y19]))) (J' 0 [y9])) (W' [v' (l' y9 (.aU y3)),v' (.gV 191 .ax (.aa y4 .ax)),c' 190 y9 [y10,y11] [true,true],v' (N' (t' y12))] (.ite y13 (R' (ki (-1)) y9) (R' (s' y12) y9))))
noncomputable def akX:=e' 163 Tryz.f163 false false [] [] [] [true,true,true] t163
theorem Qoq:aV Tryz.prog akX:=O' Tryz.func163

noncomputable def t218:T:=W' [v' (P' y1 (ki 1))] (.join 0 4 (.loop 1 [y5,y4] (W' [v' (X' .lss y6 y2)] (.ite y8 (.join 2 6 (.join 3 6 (.loop 4 [y6,y7] (W' [v' (X' .gtr y9 y1),g' y11 (.aj 7 y0 y9),g' y11 (.ld true 7 y10 y12),g' y11 (M' y9 (ki 1)),g' y11 (.aj 7 y0 y14),g' y11 (.ld true 7 y10 y15),.fu [(y11,true)] y3 y10 [y13,y16] [true],g' y11 (X' .lss y17 (ki 0)),v' (.ite y11 y18 (kb false))] (.ite y19 (.join 5 9 (W' [v' (M' y9 (ki 1)),v' (M' y9 (ki 1)),v' (.aj 7 y0 y21),v' (.ld true 7 y10 y22),v' (.aj 7 y0 y9),v' (.ld true 7 y10 y24),v' (.aj 7 y0 y9),v' (.gQ 7 y10 y26 y23),v' (.aj 7 y0 y20),v' (.gQ 7 y27 y28 y25)] (J' 5 [y20,y21,y22,y23,y24,y25,y26,y28,y29])) (W' [v' (M' y9 (ki 1))] (J' 4 [y29,y28]))) (J' 3 [y9,y9,y11,y11,y19,y10])))) (J' 2 [y9,y10,y11,y12,y13,y14])) (W' [v' (P' y6 (ki 1))] (J' 1 [y15,y14]))) (J' 0 [y6,y6,y8,y7])))) (R' .ax y9))
noncomputable def aFY:=e' 218 Tryz.f218 false false [] [] [] [true,true,true,true] t218
theorem aEI:aV Tryz.prog aFY:=O' Tryz.func218

noncomputable def t31:T:=W' [v' (.bB 3 y0),w' 36 y1 [q' 1 y2] [true],w' 53 (t' y3) [q' 2 y2] [true]] (R' (j' (q' 0 y2) (j' (s' y3) (j' (s' y4) .nil))) (t' y4))
noncomputable def e31:=e' 31 Tryz.f31 false false [36,53] [] [] [false] t31
theorem ad5:aV Tryz.prog e31:=O' Tryz.func31

noncomputable def t17:T:=W' [v' (.bB 6 y0),c' 40 y1 [q' 0 y2,ki 1,ki 60] [true],v' (N' y3),f' y4 (q' 1 y2),.call [(y4,false)] 40 y1 [y5,ki 1,ki 100000] [true],f' y4 (N' y6),v' (.ite y4 (kb true) y7),f' y8 (q' 2 y2),f' y8 (q' 0 y2),.call [(y8,false)] 40 y1 [y9,ki 1,y10] [true],f' y8 (N' y11),v' (.ite y8 (kb true) y12),f' y13 (q' 3 y2),.call [(y13,false)] 40 y1 [y14,ki 0,ki 100000] [true],f' y13 (N' y15),v' (.ite y13 (kb true) y16),f' y17 (q' 4 y2),.call [(y17,false)] 40 y1 [y18,ki 1,ki 100000] [true],f' y17 (N' y19),v' (.ite y17 (kb true) y20),f' y21 (q' 5 y2),.call [(y21,false)] 40 y1 [y22,ki 1,ki 200] [true],f' y21 (N' y23),v' (.ite y21 (kb true) y24)] (.ite y25 (R' (C' (.const (.v (.pointer none))) (ki 2)) y1) (W' [v' (.rep 24 (q' 0 y2) (.agg [.v (.bool false),.v (.int .i64 0),.v (.bool false)])),v' (.rep 24 (q' 0 y2) (.agg [.v (.bool false),.v (.int .i64 0),.v (.bool false)])),v' (.rep 32 (q' 5 y2) (.agg [.v (.bool false),.v (.int .i64 0),.v (.int .i64 0),.v (.bool false),.v (.bool false)])),v' (j' (.bB 6 (fN 6 y2)) (j' (.const (.agg [.v (.bool false),.v (.int .i64 0),.v (.bool false),.v (.bool false),.v (.int .i64 0),.v (.bool false)])) (j' (kb false) (j' (kb false) (j' (kb false) .nil))))),v' (.nn (.aU (.a_ 1000000000 5 (.a_ 1000000000 3 (.a_ 1000000000 3 y1 y26) y27) y28))),v' (p' 14 y30),v' (l' (.cI 1000000000 15 (.a_ 1000000000 5 (.a_ 1000000000 3 (.a_ 1000000000 3 y1 y26) y27) y28) (j' (q' 0 y29) (j' (q' 1 y29) (j' (q' 2 y29) (j' (q' 3 y29) (j' (q' 4 y29) (j' (q' 5 y29) (j' (q' 6 y29) (j' (q' 7 y29) (j' (q' 8 y29) (j' (q' 9 y29) (j' (q' 10 y29) (j' (q' 11 y29) (j' (.bO y1 y26) (j' (.bO (.a_ 1000000000 3 y1 y26) y27) (j' (.bO (.a_ 1000000000 3 (.a_ 1000000000 3 y1 y26) y27) y28) .nil)))))))))))))))) y31),v' (.aR y32)] (.join 0 3 (.loop 1 [ki 0,.cI 1000000000 15 (.a_ 1000000000 5 (.a_ 1000000000 3 (.a_ 1000000000 3 y1 y26) y27) y28) (j' (q' 0 y29) (j' (q' 1 y29) (j' (q' 2 y29) (j' (q' 3 y29) (j' (q' 4 y29) (j' (q' 5 y29) (j' (q' 6 y29) (j' (q' 7 y29) (j' (q' 8 y29) (j' (q' 9 y29) (j' (q' 10 y29) (j' (q' 11 y29) (j' (.bO y1 y26) (j' (.bO (.a_ 1000000000 3 y1 y26) y27) (j' (.bO (.a_ 1000000000 3 (.a_ 1000000000 3 y1 y26) y27) y28) .nil)))))))))))))))] (W' [v' (X' .lss y34 y33)] (.ite y36 (.join 2 6 (W' [v' (.nn (.aU (.a_ 1000000000 5 (.a_ 1000000000 3 (.a_ 1000000000 3 y1 y26) y27) y28))),v' (p' 14 y37),v' (l' y35 y38),v' (.aj 5 y39 y34),v' (p' 2 y40),v' (.gQ 1 y35 y41 (ki (-1)))] (J' 2 [y37,y38,y39,y40,y41,y42])) (W' [v' (P' y34 (ki 1))] (J' 1 [y43,y42]))) (J' 0 [y34,y36,y35])))) (R' (C' (.aU (.a_ 1000000000 5 (.a_ 1000000000 3 (.a_ 1000000000 3 y1 y26) y27) y28)) (ki 0)) y36))))
noncomputable def e17:=e' 17 Tryz.f17 false false [] [] [(4,1000045),(4,1000048),(4,1000051),(4,1000053)] [false] t17
theorem ajW:aV Tryz.prog e17:=O' Tryz.func17
end

section
open Go.Proofs

noncomputable def t152:T:=W' [c' 147 y3 [y0] [true],v' (N' y4)] (.ite y5 (R' (C' (.const (.bq [])) (ki 1)) y3) (W' [v' (.nn y0),v' (p' 0 y6),v' (p' 5 y7),v' (l' y3 y8),v' (M' y9 (ki 1)),c' 40 y3 [y1,ki 0,y10] [true],v' (N' y11),.call [(y12,false)] 40 y3 [y2,ki 0,ki 100000] [true],f' y12 (N' y13),v' (.ite y12 (kb true) y14)] (.ite y15 (R' (C' (.const (.bq [])) (ki 2)) y3) (W' [v' (.gV 177 (.aa y0 .ax) .ax),v' (.gV 178 (.aa y0 .ax) .ax),v' (.gV 179 (.aa y0 .ax) .ax),v' (.gV 180 (.aa y0 .ax) .ax),v' (.gV 181 (.aa y0 .ax) .ax),v' (.gV 182 (.aa y0 .ax) .ax),v' (.gV 183 (.aa y0 .ax) .ax),v' (.gV 184 (.aa y0 .ax) .ax),v' (.bz (z' y16) (.bz (z' y17) (.bz (z' y18) (.bz (z' y19) (.bz (z' y20) (.bz (z' y21) (.bz (z' y22) (.bz (z' y23) (.const (.bq [])))))))))),v' (.aR y24)] (.join 0 3 (.loop 1 [.const (.bq []),ki 0] (W' [v' (X' .lss y27 y25)] (.ite y28 (.join 2 6 (W' [v' (.aj 1 y24 y27),v' (l' y3 y29),.fu [] y30 y3 [y1,y2] [true]] (.join 3 1 (.ite y31 (W' [v' (P' (ki 1) y27),v' (.bz (z' y32) (.const (.bq []))),v' (.app 1 8 y26 y33)] (J' 3 [y34])) (J' 3 [y26])) (J' 2 [y32,y30,y29,y30,y30,y31]))) (W' [v' (P' y27 (ki 1))] (J' 1 [y29,y35]))) (J' 0 [y26,y27,y28])))) (R' (C' y26 (ki 0)) y3))))))
noncomputable def aF_:=e' 152 Tryz.f152 true false [] [] [] [true,true,true] t152
theorem aEU:aV Tryz.prog aF_:=O' Tryz.func152

noncomputable def t183:T:=W' [v' (.gE (j' (z' y0) .nil)),v' (.gE (j' (z' y2) .nil)),v' (l' y3 y4),v' (.gV 212 .ax (C' y5 y4)),c' 209 y3 [y6,y7] [true]] (R' y8 y3)
noncomputable def axv:=e' 183 Tryz.f183 true false [] [] [] [true,true,true] t183
theorem avw:aV Tryz.prog axv:=O' Tryz.func183

noncomputable def t161:T:=W' [c' 153 y4 [y0] [true],v' (N' y5)] (.ite y6 (R' (ki 1) y4) (W' [v' (.nn y0),v' (p' 0 y7),v' (p' 0 y8),v' (l' y4 y9),c' 61 y4 [y1,ki 1,y10] [true],v' (N' y11),f' y12 (.nn y0),f' y12 (p' 0 y13),f' y12 (p' 1 y14),f' y12 (l' y4 y15),f' y12 (M' y16 (ki 1)),.call [(y12,false)] 61 y4 [y2,ki 0,y17] [true],f' y12 (N' y18),v' (.ite y12 (kb true) y19),.call [(y20,false)] 61 y4 [y3,ki 0,ki 1000000000000] [true],f' y20 (N' y21),v' (.ite y20 (kb true) y22)] (.ite y23 (R' (ki 2) y4) (R' (ki 0) y4))))
noncomputable def aF9:=e' 161 Tryz.f161 true false [] [] [] [true,true,true,true] t161
theorem aET:aV Tryz.prog aF9:=O' Tryz.func161

noncomputable def t76:T:=W' [v' (.uJ y1)] (.join 0 3 (.loop 1 [y0,ki 0] (W' [v' (X' .lss y5 y3)] (.ite y6 (.join 2 5 (W' [v' (n' .eJ y1 y5),v' (.conv .u64 y7),v' (X' .xor y4 y8),v' (X' .mul y9 (k' 1099511628211))] (J' 2 [y10,y7,y8,y9,y10])) (W' [v' (P' y5 (ki 1))] (J' 1 [y7,y12]))) (J' 0 [y4,y5,y6])))) (W' [v' (X' .mul y4 (k' 1099511628211))] (R' y7 y2)))
noncomputable def e76:=e' 76 Tryz.f76 true false [] [] [] [true,true] t76
theorem ajt:aV Tryz.prog e76:=O' Tryz.func76

noncomputable def t74:T:=W' [c' 101 y3 [y0,y1,y2] [true,true],v' (m' (.UQ true) (t' y4))] (.ite y5 (W' [c' 102 y3 [Z' #[80,97,114,115,101,85,105,110,116],y0,y1,y2,t' y4] [true]] (R' (C' (s' y4) y6) y3)) (R' (C' (s' y4) (.const (.v .nilIface))) y3))
noncomputable def e74:=e' 74 Tryz.f74 true false [] [] [] [true,true,true] t74
theorem ajv:aV Tryz.prog e74:=O' Tryz.func74

noncomputable def t16:T:=W' [v' (.bB 30 y0),c' 36 y1 [q' 8 y2] [true],c' 37 y1 [q' 9 y2] [true],c' 38 y1 [q' 10 y2] [true],c' 36 y1 [q' 16 y2] [true],c' 36 y1 [q' 22 y2] [true],c' 36 y1 [q' 23 y2] [true],c' 39 y1 [q' 25 y2] [true]] (R' (j' (q' 0 y2) (j' (q' 1 y2) (j' (q' 2 y2) (j' (q' 3 y2) (j' (q' 4 y2) (j' (q' 5 y2) (j' (q' 6 y2) (j' (q' 7 y2) (j' y3 (j' y4 (j' y5 (j' (q' 11 y2) (j' (q' 12 y2) (j' (q' 13 y2) (j' (q' 14 y2) (j' (q' 15 y2) (j' y6 (j' (q' 17 y2) (j' (q' 18 y2) (j' (q' 19 y2) (j' (q' 20 y2) (j' (q' 21 y2) (j' y7 (j' y8 (j' (q' 24 y2) (j' y9 (j' (q' 26 y2) (j' (q' 27 y2) (j' (q' 28 y2) (j' (q' 29 y2) .nil)))))))))))))))))))))))))))))) y1)
noncomputable def e16:=e' 16 Tryz.f16 true false [] [] [] [false] t16
theorem ayq:aV Tryz.prog e16:=O' Tryz.func16

noncomputable def t54:T:=W' [w' 68 y2 [y0,y1,ki 0] [true]] (R' (s' y3) (t' y3))
noncomputable def e54:=e' 54 Tryz.f54 false false [68] [] [] [true,true] t54
theorem ajJ:aV Tryz.prog e54:=O' Tryz.func54

noncomputable def t213:T:=W' [c' 237 y2 [y0,y1] [true],v' (X' .geq y3 (ki 0))] (R' y4 y2)
noncomputable def aqy:=e' 213 Tryz.f213 true false [] [] [] [true,true] t213
theorem aog:aV Tryz.prog aqy:=O' Tryz.func213

noncomputable def t153:T:=W' [v' (.bin .neq .ptr y0 (.const (.v (.pointer none)))),g' y2 (.nn y0),g' y2 (p' 4 y3),g' y2 (l' y1 y4),g' y2 (.bin .neq .mp y5 (.const (.v (.map none)))),v' (.ite y2 y6 (kb false))] (R' y7 y1)
noncomputable def aBs:=e' 153 Tryz.f153 true false [] [] [] [true] t153
theorem az6:aV Tryz.prog aBs:=O' Tryz.func153

noncomputable def t189:T:=W' [v' (.gE (j' (z' y0) .nil)),v' (.gE (j' (z' y1) .nil)),v' (.gV 216 .ax (C' y3 y4))] (R' y5 y2)
noncomputable def axp:=e' 189 Tryz.f189 true false [] [] [] [true,true] t189
theorem avq:aV Tryz.prog axp:=O' Tryz.func189

noncomputable def t194:T:=.ite (kb false) (W' [v' (.conv .u32 y0),c' 226 y1 [y2] [true]] (R' y3 y1)) (W' [c' 142 y1 [y0] [true]] (R' y2 y1))
noncomputable def aF3:=e' 194 Tryz.f194 true false [] [] [] [true] t194
theorem aEN:aV Tryz.prog aF3:=O' Tryz.func194

noncomputable def t85:T:=W' [c' 111 y2 [y0,y1] [true,true,true]] (R' (D' (s' y3) (t' y3) (.Qrx 2 y3)) y2)
noncomputable def e85:=e' 85 Tryz.f85 true false [] [] [] [true,true] t85
theorem ajn:aV Tryz.prog e85:=O' Tryz.func85

noncomputable def t70:T:=W' [c' 83 y1 [y0,ki 10] [true]] (R' y2 y1)
noncomputable def e70:=e' 70 Tryz.f70 true false [] [] [] [true] t70
theorem ajz:aV Tryz.prog e70:=O' Tryz.func70

noncomputable def t110:T:=W' [v' (X' .lss y2 (ki 2)),f' y6 (Q' y2 (ki 10)),v' (.ite y6 (kb true) y7),f' y8 (X' .gtr y2 (ki 36)),v' (.ite y8 (kb true) y9)] (.join 0 0 (.ite y10 (.fc (m' .UI (.oO 9 (Z' #[115,116,114,99,111,110,118,58,32,105,108,108,101,103,97,108,32,65,112,112,101,110,100,73,110,116,47,70,111,114,109,97,116,73,110,116,32,98,97,115,101]))) y5 [] []) (J' 0 [])) (W' [v' (.cI 238 65 y5 (.const (.agg [.v (.int .u8 0),.v (.int .u8 0),.v (.int .u8 0),.v (.int .u8 0),.v (.int .u8 0),.v (.int .u8 0),.v (.int .u8 0),.v (.int .u8 0),.v (.int .u8 0),.v (.int .u8 0),.v (.int .u8 0),.v (.int .u8 0),.v (.int .u8 0),.v (.int .u8 0),.v (.int .u8 0),.v (.int .u8 0),.v (.int .u8 0),.v (.int .u8 0),.v (.int .u8 0),.v (.int .u8 0),.v (.int .u8 0),.v (.int .u8 0),.v (.int .u8 0),.v (.int .u8 0),.v (.int .u8 0),.v (.int .u8 0),.v (.int .u8 0),.v (.int .u8 0),.v (.int .u8 0),.v (.int .u8 0),.v (.int .u8 0),.v (.int .u8 0),.v (.int .u8 0),.v (.int .u8 0),.v (.int .u8 0),.v (.int .u8 0),.v (.int .u8 0),.v (.int .u8 0),.v (.int .u8 0),.v (.int .u8 0),.v (.int .u8 0),.v (.int .u8 0),.v (.int .u8 0),.v (.int .u8 0),.v (.int .u8 0),.v (.int .u8 0),.v (.int .u8 0),.v (.int .u8 0),.v (.int .u8 0),.v (.int .u8 0),.v (.int .u8 0),.v (.int .u8 0),.v (.int .u8 0),.v (.int .u8 0),.v (.int .u8 0),.v (.int .u8 0),.v (.int .u8 0),.v (.int .u8 0),.v (.int .u8 0),.v (.int .u8 0),.v (.int .u8 0),.v (.int .u8 0),.v (.int .u8 0),.v (.int .u8 0),.v (.int .u8 0)])))] (.join 0 1 (.ite y3 (W' [v' (.un .neg y1)] (J' 0 [y12])) (J' 0 [y1])) (W' [c' 144 y11 [y2] [true]] (.join 0 3 (.ite y13 (W' [v' (.conv .u64 y2),c' 145 y11 [y14] [true],v' (.conv .u64 y15),v' (.conv .u64 y2),v' (.conv .u64 y2),v' (M' y18 (k' 1))] (.join 1 5 (.loop 2 [y12,ki 65,y11] (W' [v' (X' .geq y20 y17)] (.ite y23 (.join 3 9 (W' [v' (M' y21 (ki 1)),v' (X' .and y20 y19),v' (n' .eJ (Z' #[48,49,50,51,52,53,54,55,56,57,97,98,99,100,101,102,103,104,105,106,107,108,109,110,111,112,113,114,115,116,117,118,119,120,121,122]) y25),v' (n' (.tN 65 1) (.aU y5) y24),v' (.gQ 1 y22 y27 y26),v' (X' .shr y20 y16)] (J' 3 [y29,y24,y24,y24,y25,y26,y27,y29,y28])) (J' 2 [y24,y25,y32])) (J' 1 [y20,y21,y20,y23,y22])))) (W' [v' (M' y21 (ki 1)),v' (n' .eJ (Z' #[48,49,50,51,52,53,54,55,56,57,97,98,99,100,101,102,103,104,105,106,107,108,109,110,111,112,113,114,115,116,117,118,119,120,121,122]) y20),v' (n' (.tN 65 1) (.aU y5) y25),v' (.gQ 1 y24 y27 y26)] (J' 0 [y20,y25,y28])))) (W' [v' (.conv .u64 y2)] (.join 1 5 (.loop 2 [y12,ki 65,y11] (W' [v' (X' .geq y15 y14)] (.ite y18 (.join 3 13 (W' [v' (M' y16 (ki 1)),v' (X' .quo y15 y14),v' (X' .mul y20 y14),v' (M' y15 y21),v' (n' .eJ (Z' #[48,49,50,51,52,53,54,55,56,57,97,98,99,100,101,102,103,104,105,106,107,108,109,110,111,112,113,114,115,116,117,118,119,120,121,122]) y22),v' (n' (.tN 65 1) (.aU y5) y19),v' (.gQ 1 y17 y24 y23)] (J' 3 [y20,y19,y20,y19,y20,y19,y20,y21,y22,y23,y24,y20,y25])) (J' 2 [y19,y20,y31])) (J' 1 [y15,y16,y15,y18,y17])))) (W' [v' (M' y16 (ki 1)),v' (n' .eJ (Z' #[48,49,50,51,52,53,54,55,56,57,97,98,99,100,101,102,103,104,105,106,107,108,109,110,111,112,113,114,115,116,117,118,119,120,121,122]) y15),v' (n' (.tN 65 1) (.aU y5) y20),v' (.gQ 1 y19 y22 y21)] (J' 0 [y15,y20,y23]))))) (.join 0 2 (.ite y3 (W' [v' (M' y15 (ki 1)),v' (n' (.tN 65 1) (.aU y5) y17),v' (.gQ 1 y16 y18 (K' 45))] (J' 0 [y17,y19])) (J' 0 [y15,y16])) (.ite y4 (W' [v' (n' (.asl 65 1) (.aU y5) y17),v' (.fU 5 1 1 y18 y0 y19)] (R' (C' (.apps y18 y0 y19) (Z' #[])) y20)) (W' [v' (n' (.asl 65 1) (.aU y5) y17),v' (n' .oY y18 y19)] (R' (C' (.const (.bq [])) y20) y18)))))))))
noncomputable def arF:=e' 110 Tryz.f110 false true [] [12,101] [] [true,true,true,true,true] t110
theorem apB:aV Tryz.prog arF:=O' Tryz.func110

noncomputable def t236:T:=W' [v' (.bB 5 y0),g' (q' 0 y3) (l' y2 y1),.fu [((q' 0 y3),true)] y4 y2 [fN 5 y3] [true],v' (.ite (q' 0 y3) y5 (kb false))] (R' y6 y2)
noncomputable def auh:=e' 236 Tryz.f236 true false [] [] [] [false,true] t236
theorem arU:aV Tryz.prog auh:=O' Tryz.func236

noncomputable def t195:T:=W' [c' 227 y2 [y0] [true],c' 227 y2 [y1] [true]] (.ite y3 (.ite y4 (R' (ki 0) y2) (R' (ki (-1)) y2)) (.ite y4 (R' (ki 1) y2) (W' [v' (X' .lss y0 y1)] (.ite y5 (R' (ki (-1)) y2) (W' [v' (X' .gtr y0 y1)] (.ite y6 (R' (ki 1) y2) (R' (ki 0) y2)))))))
noncomputable def aF2:=e' 195 Tryz.f195 true false [] [] [] [true,true] t195
theorem aEM:aV Tryz.prog aF2:=O' Tryz.func195

noncomputable def t77:T:=W' [v' (.aR y0)] (.join 0 2 (.loop 1 [ki 0] (W' [v' (X' .lss y4 y3)] (.ite y5 (.join 2 3 (W' [v' (.aj 1 y0 y4),v' (l' y2 y6),.fu [] y1 y2 [y7] [true]] (.ite y8 (R' y4 y2) (J' 2 [y6,y7,y8]))) (W' [v' (P' y4 (ki 1))] (J' 1 [y9]))) (J' 0 [y4,y5])))) (R' (ki (-1)) y2))
noncomputable def e77:=e' 77 Tryz.f77 true false [] [] [] [true,true] t77
theorem ajs:aV Tryz.prog e77:=O' Tryz.func77

noncomputable def t176:T:=W' [v' (Q' y0 (k' 0))] (.ite y2 (R' (ki 64) y1) (W' [v' (.un .neg y0),v' (X' .and y0 y3),v' (X' .mul y4 (k' 285870213051353865)),v' (X' .shr y5 (k' 58)),v' (n' (.gix 7 64 1) y1 y6),v' (l' y1 y7),v' (.conv .i64 y8)] (R' y9 y1)))
noncomputable def auN:=e' 176 Tryz.f176 true false [] [] [] [true] t176
theorem asS:aV Tryz.prog auN:=O' Tryz.func176

noncomputable def t86:T:=W' [v' (.bB 2 y1)] (.join 0 3 (W' [v' (.bin .eql .str (q' 0 y3) (Z' #[112,111,115,116]))] (.join 1 1 (.ite y4 (J' 1 [y4]) (W' [v' (.bin .eql .str (q' 0 y3) (Z' #[114,101,100]))] (.join 2 1 (.ite y5 (J' 2 [y5]) (W' [v' (.bin .eql .str (q' 0 y3) (Z' #[103,114,101,101,110]))] (J' 2 [y6]))) (J' 1 [y6])))) (.join 1 1 (.ite y5 (.iH 112 y2 [fN 2 y3,ki 2] [true] [] [] (W' [v' (m' .aaA (t' y6)),v' (.m4 (.put .str) y7 (m' .abR (t' y6)) (Z' #[112,111,115,116]) (ki 3)),v' (.m4 (.put .str) y8 (m' .abR (t' y6)) (Z' #[114,101,100]) (ki 4)),v' (.m4 (.put .str) y9 (m' .abR (t' y6)) (Z' #[103,114,101,101,110]) (ki 5)),v' (.m4 (.get .str false) y10 (m' .abR (t' y6)) (q' 0 y3) (ki 0)),v' (.nn y0),v' (p' 30 y12),v' (l' y10 y13),v' (.aj 1 (s' y6) (ki 0)),v' (l' y10 y15),v' (.aj 1 (s' y6) (ki 1)),v' (l' y10 y17),v' (j' (z' y11) (j' (z' y18) (j' (z' y16) (j' (.const (.agg [.v (.int .i64 0)])) .nil)))),w' 114 y10 [y14,y19] [true]] (.kV 113 (t' y20) [s' y20] [] [] [] (J' 1 [t' y20])))) (.iH 112 y2 [fN 2 y3,ki 1] [true] [] [] (W' [v' (m' .aaA (t' y6)),v' (.m4 (.put .str) y7 (m' .abR (t' y6)) (Z' #[111,112,101,110]) (ki 1)),v' (.m4 (.put .str) y8 (m' .abR (t' y6)) (Z' #[99,108,111,115,101]) (ki 2)),v' (.m4 (.put .str) y9 (m' .abR (t' y6)) (Z' #[99,111,118,101,114,101,100]) (ki 6)),v' (.m4 (.put .str) y10 (m' .abR (t' y6)) (Z' #[117,110,99,111,118,101,114,101,100]) (ki 7)),v' (.m4 (.get .str false) y11 (m' .abR (t' y6)) (q' 0 y3) (ki 0)),v' (.nn y0),v' (p' 30 y13),v' (l' y11 y14),v' (.aj 1 (s' y6) (ki 0)),v' (l' y11 y16),v' (j' (z' y12) (j' (z' y17) (j' (.const (.agg [.v (.int .i64 0)])) (j' (.const (.agg [.v (.int .i64 0)])) .nil)))),w' 114 y11 [y15,y18] [true]] (.kV 113 (t' y19) [s' y19] [] [] [] (J' 1 [t' y19]))))) (J' 0 [y5,y4,y6])))) (R' .ax y6))
noncomputable def e86:=e' 86 Tryz.f86 false false [112] [] [] [true,false] t86
theorem aEE:aV Tryz.prog e86:=O' Tryz.func86

noncomputable def t216:T:=W' [v' (l' y3 y1),v' (.nn y4),v' (p' 2 y5),v' (l' y3 y6),v' (.aR y7)] (.join 0 3 (.loop 1 [ki 0,y3] (W' [v' (X' .lss y9 y8)] (.ite y11 (.join 2 24 (W' [v' (.aj 1 y7 y9),v' (l' y10 y12),v' (l' y10 y1),v' (.nn y14),v' (p' 1 y15),v' (l' y10 y16),v' (.aj 7 y17 y13),v' (.ld true 7 y10 y18),v' (.bB 7 y19),v' (X' .neq (q' 2 y20) (ki 4)),g' y21 (q' 3 y20),g' y21 (l' y10 y2),g' y21 (Q' y22 y23),v' (.ite y21 y24 (kb false)),.fC [(y25,true)] y0 y10 [y13,fN 7 y20] [true],g' y25 (N' (s' y26)),v' (.ite y25 y27 (kb false))] (.ite y28 (R' .ax (t' y26)) (J' 2 [y13,y12,y13,y14,y15,y16,y17,y13,y18,y19,q' 2 y20,y21,y21,y25,y25,y28,q' 0 y20,q' 1 y20,q' 2 y20,q' 3 y20,q' 4 y20,q' 5 y20,q' 6 y20,t' y26]))) (W' [v' (P' y9 (ki 1))] (J' 1 [y36,y35]))) (J' 0 [y9,y11,y10])))) (R' .ax y11))
noncomputable def aui:=e' 216 Tryz.f216 false false [1000036] [] [] [true,true,true] t216
theorem arV:aV Tryz.prog aui:=O' Tryz.func216

noncomputable def t79:T:=W' [v' (l' y4 y1),v' (.uJ y5),v' (Q' y6 (ki 0))] (.ite y7 (.join 0 4 (.loop 1 [y4] (W' [v' (l' y8 y2),v' (.uJ y9),v' (X' .gtr y10 (ki 0))] (.ite y11 (.join 2 16 (W' [v' (l' y8 y2),c' 80 y8 [y12] [true,true],v' (l' y8 y2),v' (o' .Qix y14 (ki 0) (t' y13)),.fC [] y0 y8 [y15] [true],v' (N' (s' y16))] (.ite y17 (R' .ax (t' y16)) (W' [v' (l' (t' y16) y2),v' (o' .Qix y18 (t' y13) (.uJ y18)),v' (.gQ 1 (t' y16) y2 y19)] (J' 2 [s' y13,t' y13,C' (s' y13) (t' y13),y12,C' (s' y13) (t' y13),s' y13,t' y13,y14,t' y13,y15,s' y16,y17,y18,t' y13,y19,y20])))) (J' 1 [y27])) (J' 0 [y9,y10,y11,y8])))) (R' .ax y11)) (.join 0 7 (.loop 1 [y4] (.join 2 22 (W' [v' (l' y8 y2),v' (l' y8 y1),c' 81 y8 [y9,y10] [true],v' (X' .lss y11 (ki 0))] (.ite y12 (J' 0 [y11,y9,y10,y11,y11,y12,y8]) (W' [v' (l' y8 y2),v' (l' y8 y3),v' (P' y11 y14),v' (o' .Qix y13 (ki 0) y15),.fC [] y0 y8 [y16] [true],v' (N' (s' y17))] (.ite y18 (R' .ax (t' y17)) (W' [v' (l' (t' y17) y2),v' (l' (t' y17) y1),v' (.uJ y20),v' (P' y11 y21),v' (o' .Qix y19 y22 (.uJ y19)),v' (.gQ 1 (t' y17) y2 y23)] (J' 2 [y11,y16,y9,y10,y11,y11,y12,y13,y11,y14,y15,y16,y16,s' y17,y18,y19,y11,y20,y21,y22,y23,y24])))))) (J' 1 [y30]))) (W' [v' (l' y14 y2),.fC [] y0 y14 [y15] [true]] (R' .ax (t' y16)))))
noncomputable def e79:=e' 79 Tryz.f79 false false [1000024,1000041,1000051] [] [] [true,true,true,true] t79
theorem aEF:aV Tryz.prog e79:=O' Tryz.func79

noncomputable def t36:T:=.nk y0 false (.ite y2 (R' (.const (.bq [])) y1) (W' [v' (.const (.bq [])),v' (.app 1 8 y3 y0)] (R' y4 y1)))
noncomputable def e36:=e' 36 Tryz.f36 true false [] [] [] [true] t36
theorem apu:aV Tryz.prog e36:=O' Tryz.func36

noncomputable def t6:T:=W' [v' (.bB 30 y0),c' 8 y1 [fN 30 y2] [true],v' (X' .neq y3 (ki 0))] (.ite y4 (R' (C' (.const (.v (.pointer none))) y3) y1) (W' [c' 16 y1 [fN 30 y2] [false],v' (j' (.bB 30 y5) (j' (.const (.agg [.v (.pointer none)])) (j' (.const (.agg [.v (.pointer none)])) (j' (.const (.agg [.v (.pointer none)])) (j' (.const (.agg [.cq])) (j' (.const (.agg [.cq])) .nil)))))),v' (.cI 75 35 y1 (.bB 35 y6)),v' (.nn (.aU y1)),v' (p' 0 y8),v' (p' 0 y9),v' (.ld true 6 y7 y10),w' 17 y7 [y11] [true,true],v' (.nn (.aU y1)),v' (p' 30 y13),v' (.gQ 1 (t' y12) y14 (s' (s' y12))),v' (.nn (.aU y1)),v' (p' 0 y16),v' (p' 6 y17),v' (.ld true 3 y15 y18),v' (.nn (.aU y1)),v' (p' 0 y20),v' (p' 9 y21),v' (l' y15 y22),w' 18 y15 [y19,y23] [true,true],v' (.nn (.aU y1)),v' (p' 31 y25),v' (.gQ 1 (t' y24) y26 (s' (s' y24))),v' (.nn (.aU y1)),v' (p' 0 y28),v' (p' 24 y29),v' (.ld true 6 y27 y30),w' 19 y27 [y31] [true,true],v' (.nn (.aU y1)),v' (p' 32 y33),v' (.gQ 1 (t' y32) y34 (s' (s' y32))),v' (.nn (.aU y1)),v' (p' 0 y36),v' (p' 10 y37),v' (p' 0 y38),v' (l' y35 y39),v' (.aR y40),v' (.nn (.aU y1)),v' (p' 0 y42),v' (p' 6 y43),v' (p' 0 y44),v' (l' y35 y45)] (.join 0 3 (.loop 1 [ki 0,y35] (W' [v' (X' .lss y47 y46)] (.ite y49 (.join 2 27 (W' [v' (.nn (.aU y1)),v' (p' 0 y50),v' (p' 10 y51),v' (p' 0 y52),v' (l' y48 y53),v' (M' y41 (ki 1)),v' (.aj 4 y54 y55),v' (p' 1 y56),v' (l' y48 y57),v' (P' y58 (ki 1)),v' (.rep 8 y59 (.v (.int .i64 0))),v' (.rep 32 y41 (.agg [.v (.int .i64 0),.v (.int .i64 0),.v (.bool false),.v (.int .i64 0)])),v' (.aR y61)] (.join 3 3 (.loop 4 [ki 0,y61] (W' [v' (X' .lss y63 y62)] (.ite y65 (.join 5 1 (W' [v' (.idx y64 y63),v' (.set y64 y63 3 (ki 2))] (J' 5 [y67])) (W' [v' (P' y63 (ki 1))] (J' 4 [y67,y66]))) (J' 3 [y63,y65,y64])))) (W' [v' (.nn (.aU y1)),v' (p' 33 y66),v' (l' (.a_ 1000000000 4 (.a_ 1000000000 1 y48 y60) y65) y67),v' (.bz (.bB 3 (j' (ki 0) (j' (.bO y48 y60) (j' (.bO (.a_ 1000000000 1 y48 y60) y65) .nil)))) (.const (.bq []))),v' (.fU 66 3 56 (.a_ 1000000000 4 (.a_ 1000000000 1 y48 y60) y65) y68 y69),v' (.nn (.aU y1)),v' (p' 33 y71),v' (.gQ 1 y70 y72 (.apps (.a_ 1000000000 4 (.a_ 1000000000 1 y48 y60) y65) y68 y69))] (J' 2 [y50,y51,y52,y53,y54,y55,y56,y57,y58,y59,.bO y48 y60,.bO (.a_ 1000000000 1 y48 y60) y65,.bO (.a_ 1000000000 1 y48 y60) y65,y62,y63,y64,y66,y67,y68,j' (ki 0) (j' (.bO y48 y60) (j' (.bO (.a_ 1000000000 1 y48 y60) y65) .nil)),y69,.apps (.a_ 1000000000 4 (.a_ 1000000000 1 y48 y60) y65) y68 y69,y71,y72,.bO y48 y60,.bO (.a_ 1000000000 1 y48 y60) y65,y73])))) (W' [v' (P' y47 (ki 1))] (J' 1 [y77,y76]))) (J' 0 [y47,y49,y48])))) (R' (C' (.aU y1) (ki 0)) y49))))
noncomputable def e6:=e' 6 Tryz.f6 false false [17,18,19] [17] [(17,1000086),(17,1000088)] [false] t6
theorem ok6:aV Tryz.prog e6:=O' Tryz.func6

noncomputable def t13:T:=W' [v' (.bB 30 y0),w' 6 y2 [fN 30 y3] [true,true]] (.join 0 5 (W' [v' (X' .neq (t' (s' y4)) (ki 0))] (.ite y5 (R' (C' (Z' #[]) (t' (s' y4))) (t' y4)) (W' [v' (.uJ y1),v' (X' .gtr y6 (ki 50000))] (.ite y7 (R' (C' (Z' #[]) (ki 4)) (t' y4)) (J' 0 [y5,y5,y7,y6,y7]))))) (W' [w' 34 (t' y4) [.oO 41 (s' (s' y4)),y1] [true]] (R' (C' (s' y10) (ki 0)) (t' y10))))
noncomputable def e13:=e' 13 Tryz.f13 false true [] [] [] [false,true] t13
theorem ays:aV Tryz.prog e13:=O' Tryz.func13
end

section
open Go.Proofs

noncomputable def t182:T:=W' [v' (.gE (j' (z' y0) .nil)),v' (.gE (j' (z' y2) .nil)),v' (l' y3 y4),v' (.gV 211 .ax (C' y4 y5)),c' 209 y3 [y6,y7] [true]] (R' y8 y3)
noncomputable def aF4:=e' 182 Tryz.f182 true false [] [] [] [true,true,true] t182
theorem aEO:aV Tryz.prog aF4:=O' Tryz.func182

noncomputable def t75:T:=W' [c' 103 y1 [y0,ki 16] [true],v' (.uJ y2),v' (M' (ki 16) y3),c' 104 y1 [Z' #[48],y4] [true],v' (.bin .add .str y5 y2)] (R' y6 y1)
noncomputable def e75:=e' 75 Tryz.f75 true false [] [] [] [true] t75
theorem aju:aV Tryz.prog e75:=O' Tryz.func75

noncomputable def t60:T:=W' [v' (.aR y0),v' (X' .gtr y3 (ki 0))] (.join 0 1 (.ite y4 (W' [v' (M' y3 (ki 1)),v' (.aj 2 y0 y5),v' (p' 1 y6),v' (l' y2 y7),c' 74 y2 [y8,ki 16,ki 64] [true,true]] (J' 0 [s' y9])) (J' 0 [k' 14695981039346656037])) (W' [c' 76 y2 [y5,y1] [true],c' 75 y2 [y6] [true]] (R' y7 y2)))
noncomputable def e60:=e' 60 Tryz.f60 true false [] [] [] [true,true] t60
theorem azg:aV Tryz.prog e60:=O' Tryz.func60

noncomputable def t57:T:=W' [v' (.nn y0),v' (p' 1 y2),v' (l' y1 y3),v' (m' .usd y4),v' (.nn y0),v' (p' 1 y6),v' (l' y1 y7),v' (.aR y8),v' (o' (.aaO 5) y1 y5 y9)] (R' (o' (.aiq 5) y1 y5 y9) y10)
noncomputable def e57:=e' 57 Tryz.f57 false false [] [] [] [true] t57
theorem ajG:aV Tryz.prog e57:=O' Tryz.func57

noncomputable def t207:T:=W' [v' (.bB 3 y0)] (R' (q' 0 y2) y1)
noncomputable def axo:=e' 207 Tryz.f207 true false [] [] [] [false] t207
theorem avp:aV Tryz.prog axo:=O' Tryz.func207

noncomputable def t25:T:=W' [v' (.bB 6 y0),c' 49 y1 [q' 0 y2,ki 1,ki 200] [true],v' (N' y3),f' y4 (q' 1 y2),f' y4 (.aR y5),.call [(y4,false)] 49 y1 [y6,ki 1,ki 500] [true],f' y4 (N' y7),v' (.ite y4 (kb true) y8),f' y9 (q' 2 y2),.call [(y9,false)] 49 y1 [y10,ki 0,ki 10000] [true],f' y9 (N' y11),v' (.ite y9 (kb true) y12),f' y13 (q' 3 y2),.call [(y13,false)] 49 y1 [y14,ki 0,ki 10000] [true],f' y13 (N' y15),v' (.ite y13 (kb true) y16),f' y17 (q' 4 y2),.call [(y17,false)] 49 y1 [y18,ki 0,ki 1000000000] [true],f' y17 (N' y19),v' (.ite y17 (kb true) y20),f' y21 (q' 5 y2),.call [(y21,false)] 49 y1 [y22,ki 0,ki 1000000000] [true],f' y21 (N' y23),v' (.ite y21 (kb true) y24)] (.ite y25 (R' (ki 2) y1) (W' [v' (.aR (q' 1 y2))] (.join 0 2 (.loop 1 [ki 0] (W' [v' (X' .lss y27 y26)] (.ite y28 (.join 2 16 (W' [v' (.aj 4 (q' 1 y2) y27),v' (.ld true 4 y1 y29),v' (.bB 4 y30),c' 49 y1 [q' 0 y31,ki 1,ki 10000] [true],v' (N' y32),f' y33 (q' 1 y31),.call [(y33,false)] 49 y1 [y34,ki 0,ki 10000000] [true],f' y33 (N' y35),v' (.ite y33 (kb true) y36),f' y37 (q' 2 y31),f' y37 (q' 3 y31),.call [(y37,false)] 49 y1 [y38,ki 0,y39] [true],f' y37 (N' y40),v' (.ite y37 (kb true) y41),f' y42 (q' 3 y31),f' y42 (X' .gtr y43 (ki 36000000)),v' (.ite y42 (kb true) y44)] (.ite y45 (R' (ki 2) y1) (W' [v' (X' .gtr y27 (ki 0))] (.join 3 0 (.ite y46 (W' [v' (M' y27 (ki 1)),v' (.aj 4 (q' 1 y2) y47),v' (.ld true 4 y1 y48),v' (.bB 4 y49),c' 51 y1 [q' 0 y50,q' 0 y31] [true],c' 51 y1 [q' 1 y50,q' 1 y31] [true],v' (.bz (z' y51) (.bz (z' y52) (.const (.bq [])))),c' 50 y1 [y53] [true],v' (X' .geq y54 (ki 0))] (.ite y55 (R' (ki 2) y1) (J' 3 []))) (J' 3 [])) (J' 2 [y29,y30,q' 0 y31,y32,y33,y33,y37,y37,y42,y42,y45,y46,q' 0 y31,q' 1 y31,q' 2 y31,q' 3 y31]))))) (W' [v' (P' y27 (ki 1))] (J' 1 [y45]))) (J' 0 [y27,y28])))) (R' (ki 0) y1))))
noncomputable def e25:=e' 25 Tryz.f25 true false [] [] [] [false] t25
theorem anS:aV Tryz.prog e25:=O' Tryz.func25

noncomputable def t37:T:=.nk y0 false (.ite y2 (R' (.const (.bq [])) y1) (W' [v' (.const (.bq [])),v' (.app 2 16 y3 y0)] (R' y4 y1)))
noncomputable def e37:=e' 37 Tryz.f37 true false [] [] [] [true] t37
theorem ate:aV Tryz.prog e37:=O' Tryz.func37

noncomputable def t69:T:=W' [v' (.nn y0),v' (p' 0 y2),v' (l' y1 y3),v' (.bin .eql .ptr y4 (.const (.v (.pointer none))))] (.join 0 1 (.ite y5 (W' [v' (n' (.tw 142 2) y1 y0),v' (n' (.tw 142 2) y1 y6),v' (.nn y0),v' (p' 0 y8),v' (.gQ 1 y1 y9 y7)] (J' 0 [y10])) (W' [v' (.nn y0),v' (p' 0 y6),v' (l' y1 y7),v' (n' (.peq true) y8 y0)] (.ite y9 (.ret (.deref .nil)) (J' 0 [y1])))) (R' .ax y6))
noncomputable def e69:=e' 69 Tryz.f69 false false [] [9,11] [] [true] t69
theorem ajA:aV Tryz.prog e69:=O' Tryz.func69

noncomputable def t165:T:=W' [v' (.bB 7 y0),v' (.bB 7 y1),c' 51 y2 [q' 0 y3,q' 0 y4] [true],c' 51 y2 [q' 1 y3,q' 1 y4] [true],c' 195 y2 [q' 2 y3,q' 2 y4] [true],c' 51 y2 [q' 3 y3,q' 3 y4] [true],c' 51 y2 [q' 4 y3,q' 4 y4] [true],c' 51 y2 [q' 5 y3,q' 5 y4] [true],v' (.bz (z' y5) (.bz (z' y6) (.bz (z' y7) (.bz (z' y8) (.bz (z' y9) (.bz (z' y10) (.const (.bq [])))))))),c' 50 y2 [y11] [true]] (R' y12 y2)
noncomputable def aqC:=e' 165 Tryz.f165 true false [] [] [] [false,false] t165
theorem aov:aV Tryz.prog aqC:=O' Tryz.func165

noncomputable def t47:T:=W' [v' (X' .geq y0 y1),g' y4 (X' .leq y0 y2),v' (.ite y4 y5 (kb false))] (R' y6 y3)
noncomputable def e47:=e' 47 Tryz.f47 true false [] [] [] [true,true,true] t47
theorem ajM:aV Tryz.prog e47:=O' Tryz.func47

noncomputable def t187:T:=W' [v' (.bB 4 y0),v' (.bB 4 y1),c' 47 y2 [q' 0 y4,ki 0,ki 100000] [true],v' (N' y5),f' y6 (q' 1 y4),.call [(y6,false)] 47 y2 [y7,ki 0,ki 36000000] [true],f' y6 (N' y8),v' (.ite y6 (kb true) y9)] (.ite y10 (R' (kb false) y2) (W' [v' (Q' (q' 0 y3) (ki 1))] (.join 0 6 (W' [v' (Q' (q' 3 y4) (ki 0))] (.ite y12 (W' [g' y11 (q' 1 y4),g' y11 (Q' y13 (ki 0)),v' (.ite y11 y14 (kb false)),g' y15 (q' 2 y4),g' y15 (N' y16),v' (.ite y15 y17 (kb false)),f' y18 (N' y11),f' y18 (G' y19 (q' 1 y4)),f' y18 (G' y19 (X' .gtr y20 (ki 0))),f' y18 (.ite y19 y21 (kb false)),v' (.ite y18 (kb true) y22)] (R' y23 y2)) (W' [v' (Q' (q' 3 y4) (ki 1))] (.ite y13 (W' [v' (N' y11),g' y14 (q' 1 y4),g' y14 (Q' y15 (ki 0)),v' (.ite y14 y16 (kb false))] (R' y17 y2)) (W' [v' (Q' (q' 3 y4) (ki 2))] (.ite y14 (W' [v' (Q' (q' 0 y4) (ki 0)),g' y15 (q' 1 y4),g' y15 (Q' y16 (ki 0)),v' (.ite y15 y17 (kb false)),g' y18 (q' 2 y4),g' y18 (N' y19),v' (.ite y18 y20 (kb false))] (R' y21 y2)) (J' 0 [y12,y12,y13,y13,y14,y14]))))))) (R' (kb false) y2))))
noncomputable def axr:=e' 187 Tryz.f187 true false [] [] [] [false,false] t187
theorem avs:aV Tryz.prog axr:=O' Tryz.func187

noncomputable def t112:T:=W' [v' (.bB 2 y0),v' (.aR (q' 1 y3)),v' (X' .neq y4 y1)] (.join 0 0 (.ite y5 (.kV 113 y2 [ki 3] [] [] [] (J' 0 [])) (J' 0 [])) (W' [v' (.aR (q' 1 y3))] (.join 0 4 (.loop 1 [.const (.bq []),ki 0,y2] (W' [v' (X' .lss y8 y6)] (.ite y10 (.join 2 17 (W' [v' (.aj 1 (q' 1 y3) y8),v' (l' y9 y11),w' 146 y9 [y12] [true,true],v' (N' (t' (s' y13)))] (.join 3 0 (.ite y14 (.kV 113 (t' y13) [ki 3] [] [] [] (J' 3 [])) (J' 3 [])) (W' [v' (.bz (z' (s' (s' y13))) (.const (.bq []))),v' (.app 1 8 y7 y15)] (J' 2 [y16,y12,s' (s' y13),t' (s' y13),y11,y12,C' (s' (s' y13)) (t' (s' y13)),y12,C' (s' (s' y13)) (t' (s' y13)),s' (s' y13),t' (s' y13),t' (s' y13),y14,s' (s' y13),y15,y16,t' y13])))) (W' [v' (P' y8 (ki 1))] (J' 1 [y11,y28,y27]))) (J' 0 [y7,y8,y10,y9])))) (R' y7 y10))))
noncomputable def ag4:=e' 112 Tryz.f112 false false [146] [] [] [false,true] t112
theorem aej:aV Tryz.prog ag4:=O' Tryz.func112

noncomputable def t126:T:=W' [v' (X' .or y0 (K' 32))] (R' y2 y1)
noncomputable def agW:=e' 126 Tryz.f126 true false [] [] [] [true] t126
theorem aeb:aV Tryz.prog agW:=O' Tryz.func126

noncomputable def t50:T:=W' [v' (.aR y0)] (.join 0 2 (.loop 1 [ki 0] (W' [v' (X' .lss y3 y2)] (.ite y4 (.join 2 5 (W' [v' (.aj 1 y0 y3),v' (l' y1 y5),v' (X' .neq y6 (ki 0))] (.ite y7 (R' y6 y1) (J' 2 [y6,y5,y6,y6,y7]))) (W' [v' (P' y3 (ki 1))] (J' 1 [y10]))) (J' 0 [y3,y4])))) (R' (ki 0) y1))
noncomputable def e50:=e' 50 Tryz.f50 true false [] [] [] [true] t50
theorem ayl:aV Tryz.prog e50:=O' Tryz.func50

noncomputable def t81:T:=W' [c' 106 y2 [y0,y1] [true]] (R' y3 y2)
noncomputable def e81:=e' 81 Tryz.f81 true false [] [] [] [true,true] t81
theorem anQ:aV Tryz.prog e81:=O' Tryz.func81

noncomputable def t145:T:=.ite (kb false) (W' [v' (.conv .u32 y0),c' 175 y1 [y2] [true]] (R' y3 y1)) (W' [c' 176 y1 [y0] [true]] (R' y2 y1))
noncomputable def auO:=e' 145 Tryz.f145 true false [] [] [] [true] t145
theorem asU:aV Tryz.prog auO:=O' Tryz.func145

noncomputable def t154:T:=W' [c' 185 y2 [y0,y1] [true],v' (X' .geq y3 (ki 0))] (R' y4 y2)
noncomputable def aC5:=e' 154 Tryz.f154 true false [] [] [] [true,true] t154
theorem aBE:aV Tryz.prog aC5:=O' Tryz.func154

noncomputable def t155:T:=W' [v' (.bB 7 y0),v' (l' y2 y1),c' 156 y2 [y4,fN 7 y3] [true],v' (N' y5)] (R' y6 y2)
noncomputable def axz:=e' 155 Tryz.f155 true false [] [] [] [false,true] t155
theorem avA:aV Tryz.prog axz:=O' Tryz.func155

noncomputable def t78:T:=W' [v' (.aR y0)] (.join 0 2 (.loop 1 [ki 0] (W' [v' (X' .lss y4 y3)] (.ite y5 (.join 2 3 (W' [v' (.aj 2 y0 y4),v' (.ld true 2 y2 y6),.fu [] y1 y2 [y7] [true]] (.ite y8 (R' y4 y2) (J' 2 [y6,y7,y8]))) (W' [v' (P' y4 (ki 1))] (J' 1 [y9]))) (J' 0 [y4,y5])))) (R' (ki (-1)) y2))
noncomputable def e78:=e' 78 Tryz.f78 true false [] [] [] [true,true] t78
theorem ajr:aV Tryz.prog e78:=O' Tryz.func78

noncomputable def t73:T:=W' [v' (m' .aaA y1),v' (.gV 86 (.aa y0 .ax) .ax),v' (.m4 (.put .str) y2 (m' .abR y1) (Z' #[111,112,101,110]) y3),v' (.gV 86 (.aa y0 .ax) .ax),v' (.m4 (.put .str) y4 (m' .abR y1) (Z' #[99,108,111,115,101]) y5),v' (.gV 86 (.aa y0 .ax) .ax),v' (.m4 (.put .str) y6 (m' .abR y1) (Z' #[99,111,118,101,114,101,100]) y7),v' (.gV 86 (.aa y0 .ax) .ax),v' (.m4 (.put .str) y8 (m' .abR y1) (Z' #[117,110,99,111,118,101,114,101,100]) y9),v' (.gV 86 (.aa y0 .ax) .ax),v' (.m4 (.put .str) y10 (m' .abR y1) (Z' #[112,111,115,116]) y11),v' (.gV 86 (.aa y0 .ax) .ax),v' (.m4 (.put .str) y12 (m' .abR y1) (Z' #[114,101,100]) y13),v' (.gV 86 (.aa y0 .ax) .ax),v' (.m4 (.put .str) y14 (m' .abR y1) (Z' #[103,114,101,101,110]) y15),v' (.gV 87 (.aa y0 .ax) .ax),v' (.m4 (.put .str) y16 (m' .abR y1) (Z' #[115,97,102,101]) y17),v' (.gV 87 (.aa y0 .ax) .ax),v' (.m4 (.put .str) y18 (m' .abR y1) (Z' #[102,111,117,110,100]) y19),v' (.gV 88 (.aa y0 .ax) .ax),v' (.m4 (.put .str) y20 (m' .abR y1) (Z' #[115,116,97,114,116]) y21),v' (.gV 89 (.aa y0 .ax) .ax),v' (.m4 (.put .str) y22 (m' .abR y1) (Z' #[112,97,115,115]) y23),v' (.gV 89 (.aa y0 .ax) .ax),v' (.m4 (.put .str) y24 (m' .abR y1) (Z' #[110,111,116]) y25),v' (.gV 90 (.aa y0 .ax) .ax),v' (.m4 (.put .str) y26 (m' .abR y1) (Z' #[111,117,116]) y27),v' (.gV 91 (.aa y0 .ax) .ax),v' (.m4 (.put .str) y28 (m' .abR y1) (Z' #[118,111,105,100]) y29),v' (.gV 92 (.aa y0 .ax) .ax),v' (.m4 (.put .str) y30 (m' .abR y1) (Z' #[99,108,97,115,115]) y31),v' (.gV 93 (.aa y0 .ax) .ax),v' (.m4 (.put .str) y32 (m' .abR y1) (Z' #[108,101,103]) y33),v' (.gV 94 (.aa y0 .ax) .ax),v' (.m4 (.put .str) y34 (m' .abR y1) (Z' #[108,105,110,101]) y35),v' (.gV 95 (.aa y0 .ax) .ax),v' (.m4 (.put .str) y36 (m' .abR y1) (Z' #[116,97,107,101]) y37),v' (.gV 96 (.aa y0 .ax) .ax),v' (.m4 (.put .str) y38 (m' .abR y1) (Z' #[112,117,98,108,105,115,104]) y39),v' (.gV 97 (.aa y0 .ax) .ax),v' (.m4 (.put .str) y40 (m' .abR y1) (Z' #[112,114,111,116,101,115,116]) y41),v' (.gV 98 (.aa y0 .ax) .ax),v' (.m4 (.put .str) y42 (m' .abR y1) (Z' #[100,101,99,105,100,101]) y43),v' (.gV 98 (.aa y0 .ax) .ax),v' (.m4 (.put .str) y44 (m' .abR y1) (Z' #[114,101,106,101,99,116]) y45),v' (.gV 99 (.aa y0 .ax) .ax),v' (.m4 (.put .str) y46 (m' .abR y1) (Z' #[97,112,112,101,97,108]) y47),v' (.gV 98 (.aa y0 .ax) .ax),v' (.m4 (.put .str) y48 (m' .abR y1) (Z' #[106,117,100,103,101]) y49),v' (.gV 98 (.aa y0 .ax) .ax),v' (.m4 (.put .str) y50 (m' .abR y1) (Z' #[100,105,115,109,105,115,115]) y51),v' (.gV 100 (.aa y0 .ax) .ax),v' (.m4 (.put .str) y52 (m' .abR y1) (Z' #[100,114,111,112]) y53)] (R' (m' .abR y1) y54)
noncomputable def e73:=e' 73 Tryz.f73 false false [] [] [] [true] t73
theorem ajw:aV Tryz.prog e73:=O' Tryz.func73

noncomputable def t114:T:=W' [v' (.gE (j' (z' y0) .nil)),v' (.gE (.bB 4 y1)),v' (l' y2 y3),c' 147 y2 [y5] [true],v' (N' y6)] (.ite y7 (R' (ki 1) y2) (W' [v' (l' y2 y3),v' (.ld true 4 y2 y4),c' 148 y2 [y8,y9] [true],v' (N' y10)] (.ite y11 (R' (ki 2) y2) (W' [v' (l' y2 y3),v' (.nn y12),v' (p' 14 y13),v' (l' y2 y14),v' (p' 3 y4),v' (l' y2 y16),v' (.aj 5 y15 y17),v' (.gV 149 .ax (C' y3 y4)),v' (p' 0 y4),v' (l' y2 y20)] (.join 0 3 (W' [v' (Q' y21 (ki 1))] (.join 1 1 (.ite y22 (J' 1 [y22]) (W' [v' (Q' y21 (ki 2))] (J' 1 [y23]))) (.join 1 1 (.ite y23 (W' [v' (l' y2 y3),v' (.nn y24),v' (p' 6 y25),v' (n' (.tN 2 3) y26 (ki 0)),v' (p' 0 y4),v' (l' y2 y28),v' (Q' y29 (ki 1)),v' (p' 1 y4),v' (l' y2 y31),w' 150 y2 [y27,y30,y32,kb false] []] (J' 1 [t' y33])) (W' [v' (Q' y21 (ki 6))] (.join 2 1 (.ite y24 (J' 2 [y24]) (W' [v' (Q' y21 (ki 7))] (J' 2 [y25]))) (.join 2 1 (.ite y25 (W' [v' (l' y2 y3),v' (.nn y26),v' (p' 6 y27),v' (n' (.tN 2 3) y28 (ki 1)),v' (p' 0 y4),v' (l' y2 y30),v' (Q' y31 (ki 6)),v' (p' 1 y4),v' (l' y2 y33),w' 150 y2 [y29,y32,y34,kb false] []] (J' 2 [t' y35])) (W' [v' (Q' y21 (ki 3))] (.join 3 1 (.ite y26 (W' [.fC [] y19 y2 [] []] (J' 3 [t' y27])) (W' [v' (Q' y21 (ki 4))] (.join 4 1 (.ite y27 (J' 4 [y27]) (W' [v' (Q' y21 (ki 5))] (J' 4 [y28]))) (.join 4 1 (.ite y28 (W' [v' (l' y2 y3),v' (.nn y29),v' (p' 12 y30),v' (l' y2 y31),v' (p' 2 y4),v' (l' y2 y33),v' (.aj 3 y32 y34),v' (p' 0 y4),v' (l' y2 y36),v' (Q' y37 (ki 4)),v' (p' 1 y4),v' (l' y2 y39),w' 150 y2 [y35,y38,y40,kb true] [],.fC [] y19 (t' y41) [] []] (J' 4 [t' y42])) (W' [v' (Q' y21 (ki 8))] (.join 5 1 (.ite y29 (W' [v' (.nn y18),v' (p' 0 y30),v' (l' y2 y31)] (.join 6 1 (.ite y32 (W' [v' (.nn y18),v' (p' 2 y33),v' (l' y2 y34),v' (p' 2 y4),v' (l' y2 y36),v' (.mm true y35 y37),v' (.nn y18),v' (p' 2 y39),v' (.gQ 1 y2 y40 y38)] (J' 6 [y41])) (J' 6 [y2])) (W' [.fC [] y19 y33 [] []] (J' 5 [t' y34])))) (W' [v' (Q' y21 (ki 9))] (.join 6 1 (.ite y30 (W' [v' (.nn y18),v' (p' 3 y31),v' (l' y2 y32),f' y33 (.nn y18),f' y33 (p' 0 y34),f' y33 (l' y2 y35),v' (.ite y33 (kb true) y36),v' (.nn y18),v' (p' 3 y38),v' (.gQ 1 y2 y39 y37)] (J' 6 [y40])) (W' [v' (Q' y21 (ki 10))] (.join 7 1 (.ite y31 (W' [v' (.nn y18),v' (p' 4 y32),v' (l' y2 y33),f' y34 (.nn y18),f' y34 (p' 0 y35),f' y34 (l' y2 y36),v' (.ite y34 (kb true) y37),v' (.nn y18),v' (p' 4 y39),v' (.gQ 1 y2 y40 y38)] (J' 7 [y41])) (J' 7 [y2])) (J' 6 [y32])))) (J' 5 [y31])))) (J' 4 [y30])))) (J' 3 [y29]))))) (J' 2 [y27])))) (J' 1 [y26]))))) (J' 0 [y23,y22,y24])))) (R' (ki 0) y24))))))
noncomputable def ag3:=e' 114 Tryz.f114 false false [1000053,1000071,1000089] [] [] [true,false] t114
theorem aei:aV Tryz.prog ag3:=O' Tryz.func114

noncomputable def t117:T:=W' [v' (.gE (j' (z' y0) .nil)),v' (l' y2 y3),c' 153 y2 [y4] [true],v' (N' y5)] (.ite y6 (R' (ki 1) y2) (W' [v' (.gV 155 .ax (.aa y3 .ax)),c' 154 y2 [y1,y7] [true]] (.ite y8 (R' (ki 2) y2) (W' [v' (l' y2 y3),v' (.nn y9),v' (p' 4 y10),v' (l' y2 y11),w' 157 y2 [y12] [true],v' (.aR y1)] (.join 0 3 (.loop 1 [ki 0,t' y13] (W' [v' (X' .lss y15 y14)] (.ite y17 (.join 2 30 (W' [v' (.aj 7 y1 y15),v' (.ld true 7 y16 y18),v' (.bB 7 y19),c' 158 y16 [fN 7 y20] [false],v' (.bB 7 y21),v' (.m4 (.VO (.agg [0,0,0,0,0,0,0])) y16 (s' y13) (fN 7 y22) (ki 0)),v' (N' (t' y23)),f' y24 (q' 6 y20),f' y24 (s' y23),f' y24 (X' .lss y25 y26),v' (.ite y24 (kb true) y27)] (.join 3 1 (.ite y28 (W' [v' (.m4 (.put (.agg [0,0,0,0,0,0,0])) y16 (s' y13) (fN 7 y22) (q' 6 y20))] (J' 3 [y29])) (J' 3 [y16])) (J' 2 [s' y23,t' y23,y18,y19,fN 7 y20,y21,C' (s' y23) (t' y23),fN 7 y22,C' (s' y23) (t' y23),s' y23,t' y23,t' y23,y24,y24,y28,q' 0 y20,q' 1 y20,q' 2 y20,q' 3 y20,q' 4 y20,q' 5 y20,q' 6 y20,q' 0 y22,q' 1 y22,q' 2 y22,q' 3 y22,q' 4 y22,q' 5 y22,q' 6 y22,y29]))) (W' [v' (P' y15 (ki 1))] (J' 1 [y48,y47]))) (J' 0 [y15,y17,y16])))) (W' [v' (n' .aaC y17 (s' y13)),v' (X' .gtr y18 (ki 5000))] (.ite y19 (R' (ki 4) y17) (W' [v' (l' y17 y3),v' (.nn y20),v' (p' 4 y21),v' (.gQ 1 y17 y22 (s' y13))] (R' (ki 0) y23)))))))))
noncomputable def axD:Entry:={ f:=117,kn:=.plain,cf:={ (Js false ([]++Qgy) Qhq [] [] Tryz.f117) with FB:=true,bC:=true,maps:=[122] },own:=false,bX:=[true,true],t:=t117 }
theorem avE:aV Tryz.prog axD:=O' Tryz.func117

noncomputable def t118:T:=W' [v' (.nn y0),v' (p' 33 y4),v' (l' y3 y5),v' (.aj 3 y6 y1),v' (.ld true 3 y3 y7),w' 31 y3 [y8] [false],v' (.cI 66 3 (t' y9) (.const (.agg [.v (.int .i64 0),.cq,.cq]))),v' (.gQ 3 y10 (.aU (t' y9)) (s' y9)),.fC [] y2 y11 [.aU (t' y9)] [],v' (.nn y0),v' (p' 0 y13),v' (p' 10 y14),v' (.ld true 14 (t' y12) y15),v' (.ld true 3 (t' y12) (.aU (t' y9))),c' 159 (t' y12) [y16,y17] [true]] (.kV 113 (t' y12) [y18] [] [] [] (W' [v' (.nn y0),v' (p' 33 y20),v' (l' (t' y12) y21),v' (.ld true 3 (t' y12) (.aU (t' y9))),v' (.aj 3 y22 y1),v' (.gQ 3 (t' y12) y24 y23)] (R' .ax y25)))
noncomputable def ag0:=e' 118 Tryz.f118 false false [31,1000016] [] [] [true,true,true] t118
theorem aef:aV Tryz.prog ag0:=O' Tryz.func118

noncomputable def t150:T:=W' [v' (.nn y0),v' (p' 2 y5),v' (l' y4 y6),v' (N' y7),f' y8 (.nn y0),f' y8 (p' 1 y9),f' y8 (l' y4 y10),f' y8 (X' .gtr y2 y11),v' (.ite y8 (kb true) y12),f' y13 (.nn y0),f' y13 (p' 1 y14),f' y13 (l' y4 y15),f' y13 (Q' y2 y16),f' y13 (G' y17 (.bin .eql .bool y1 y3)),f' y13 (.ite y17 y18 (kb false)),v' (.ite y13 (kb true) y19)] (.join 0 1 (.ite y20 (W' [v' (.nn y0),v' (p' 0 y21),v' (.gQ 1 y4 y22 y1)] (J' 0 [y23])) (J' 0 [y4])) (W' [v' (.nn y0),v' (p' 1 y22),v' (l' y21 y23),v' (.mm true y24 y2),v' (.nn y0),v' (p' 1 y26),v' (.gQ 1 y21 y27 y25),v' (.nn y0),v' (p' 2 y29),v' (.gQ 1 y28 y30 (kb true))] (R' .ax y31)))
noncomputable def axA:=e' 150 Tryz.f150 false false [] [] [] [true,true,true,true] t150
theorem avB:aV Tryz.prog axA:=O' Tryz.func150

noncomputable def t71:T:=W' [v' (m' (.UQ true) y2)] (.join 0 1 (.ite y3 (W' [v' (n' (.Hz 161) y2 (.const (.agg [.v (.int .i64 0)]))),v' (.bB 1 (s' y4)),v' (N' (t' y4))] (.join 1 0 (.ite y6 (.fc (m' .UI y2) y1 [] []) (J' 1 [])) (W' [v' (.gQ 1 y1 y0 (q' 0 y5))] (J' 0 [y7])))) (J' 0 [y1])) (R' .ax y4))
noncomputable def e71:Entry:={ f:=71,kn:=.mz,cf:={ (Js false ([]++Qgy) Qhq [] [] Tryz.f71) with FB:=true,bC:=true },own:=false,bX:=[true],t:=t71 }
theorem ajy:aV Tryz.prog e71:=aV.aau Tryz.func71 (by kernel_rfl) (by kernel_rfl)
end
end Go.Am.Rb
