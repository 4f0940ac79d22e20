/-
  Several texts, one behind the other.
-/
import Derived.Test.YtgebemgmpfpjbaaAmOpentoAmSt2
import Derived.Test.YtgebemgmpfpjbaaAmDraw4toAmDefer2
import Derived.Test.YtgebemgmpfpjbaaProg
import Derived.Test.YtgebemgmpfpjbaaAmBasetoAmTok
set_option linter.unusedSimpArgs false
set_option linter.unusedVariables false
/-
 The specification's functions,as texts.
-/
namespace Go.Am.Wr
open Go.Proofs
def WRA:List Nat:=[21,24,29,33,36,41,42,44,46,47,66,67,78,63,59,85,18,28,92,93,94,95,3,4,5,6,7,8,9,10,11,12,13,14,15,17,45,50,91,116,1999999]
def LOCS:List Nat:=[19,20,22,23,30,31,32,34,35,37,38,40,43,48,49,51,52,53,54,16,27,25,26]
def wcf (ro:Bool)(more:List Nat)(frzs:List (Nat×Nat))(fn:Func):StCfg:={ autoCfg ro WRA [] more frzs fn with maps:=[78,136,139],locs:=LOCS }

abbrev y0 : E := .sym 0
abbrev y1 : E := .sym 1
abbrev y2 : E := .sym 2
abbrev y3 : E := .sym 3
abbrev y4 : E := .sym 4
abbrev y5 : E := .sym 5
abbrev y6 : E := .sym 6
abbrev y7 : E := .sym 7
abbrev y8 : E := .sym 8
abbrev y9 : E := .sym 9
abbrev y10 : E := .sym 10
abbrev y11 : E := .sym 11
abbrev y12 : E := .sym 12
abbrev y13 : E := .sym 13
abbrev y14 : E := .sym 14
abbrev y15 : E := .sym 15
abbrev y16 : E := .sym 16
abbrev y17 : E := .sym 17
abbrev y18 : E := .sym 18
abbrev y19 : E := .sym 19
abbrev y20 : E := .sym 20
abbrev y21 : E := .sym 21
abbrev y22 : E := .sym 22
abbrev y23 : E := .sym 23
abbrev y24 : E := .sym 24
abbrev y25 : E := .sym 25
abbrev y26 : E := .sym 26
abbrev y27 : E := .sym 27
abbrev y28 : E := .sym 28
abbrev y29 : E := .sym 29
abbrev y30 : E := .sym 30
abbrev y31 : E := .sym 31
abbrev y32 : E := .sym 32
abbrev y33 : E := .sym 33
abbrev y34 : E := .sym 34
abbrev y35 : E := .sym 35
abbrev y36 : E := .sym 36
abbrev y37 : E := .sym 37
abbrev y38 : E := .sym 38
abbrev y39 : E := .sym 39
abbrev y40 : E := .sym 40
abbrev y41 : E := .sym 41
abbrev y42 : E := .sym 42
abbrev y43 : E := .sym 43
abbrev y44 : E := .sym 44
abbrev y45 : E := .sym 45
abbrev y46 : E := .sym 46
abbrev y47 : E := .sym 47
abbrev y48 : E := .sym 48
abbrev y49 : E := .sym 49
abbrev y50 : E := .sym 50
abbrev y51 : E := .sym 51
abbrev y52 : E := .sym 52
abbrev y53 : E := .sym 53
abbrev y54 : E := .sym 54
abbrev y55 : E := .sym 55
abbrev y56 : E := .sym 56
abbrev y57 : E := .sym 57
abbrev y58 : E := .sym 58
abbrev y59 : E := .sym 59
abbrev y60 : E := .sym 60
abbrev y61 : E := .sym 61
abbrev y62 : E := .sym 62
abbrev y63 : E := .sym 63
abbrev y64 : E := .sym 64
abbrev y65 : E := .sym 65
abbrev y66 : E := .sym 66
abbrev y67 : E := .sym 67
abbrev y68 : E := .sym 68
abbrev y69 : E := .sym 69
abbrev y70 : E := .sym 70
abbrev y71 : E := .sym 71
abbrev y72 : E := .sym 72
abbrev y73 : E := .sym 73
abbrev y74 : E := .sym 74
abbrev y75 : E := .sym 75
abbrev y76 : E := .sym 76
abbrev y77 : E := .sym 77
abbrev y78 : E := .sym 78
abbrev y79 : E := .sym 79
abbrev y80 : E := .sym 80
abbrev y81 : E := .sym 81
abbrev y82 : E := .sym 82
abbrev y83 : E := .sym 83
abbrev y84 : E := .sym 84
abbrev y85 : E := .sym 85
abbrev y86 : E := .sym 86
abbrev y87 : E := .sym 87
abbrev y88 : E := .sym 88
abbrev y89 : E := .sym 89
abbrev y90 : E := .sym 90
abbrev y91 : E := .sym 91
abbrev y92 : E := .sym 92
abbrev y93 : E := .sym 93
abbrev y94 : E := .sym 94
abbrev y95 : E := .sym 95
abbrev y96 : E := .sym 96
abbrev y97 : E := .sym 97
abbrev y98 : E := .sym 98
abbrev y99 : E := .sym 99

noncomputable def u19:U:=(ups [.chk (.aggN 3 y0),
 .call 54 (.const (.st [])) [(.m4 .noids (.cell 0 y0) .nil .nil .nil),(.m4 .noids (ki 1) .nil .nil .nil),(.m4 .noids (ki 200) .nil .nil .nil)] [true],
 .ev (.un .not y3),
 .chain true y4 (ups [.chk (.cell 1 y0),
 .call 54 (.const (.st [])) [(.m4 .noids (.cell 1 y0) .nil .nil .nil),(.m4 .noids (ki 2) .nil .nil .nil),(.m4 .noids (ki 30) .nil .nil .nil)] [true],
 .ev (.un .not y5)]
 (.ret y6)),
 .chain true y5 (ups [.chk (.cell 2 y0),
 .ev (.lenL (.cell 2 y0)),
 .chk (.cell 1 y0),
 .ev (.bin .sub .int (.cell 1 y0) (ki 1)),
 .ev (.bin .neq .int y6 y7)]
 (.ret y8)),
 .chain true y6 (ups [.ev (.lenL y1),
 .ev (.bin .gtr .int y7 (ki 50))]
 (.ret y8))]
 (.ite y7 (.ret (.tcons (kb false) (.tcons y2 .tnil))) (ups [.join 0 0 (.loop 1 [(ki 0)] (ups [.ev (.lenL (.cell 2 y0)),
 .ev (.bin .lss .int y8 y9)]
 (.ite y10 (ups [.join 2 0 (ups [.ev (.eaddr 1 (.cell 2 y0) y8),
 .ev (.ld false 1 y2 y11),
 .call 54 (.const (.st [])) [(.m4 .noids y12 .nil .nil .nil),(.m4 .noids (ki 0) .nil .nil .nil),(.m4 .noids (ki 100000000) .nil .nil .nil)] [true],
 .ev (.un .not y13)]
 (.ite y14 (.ret (.tcons (kb false) (.tcons y2 .tnil))) (.jump 2 [] []))),
 .ev (.bin .add .int y8 (ki 1))]
 (.jump 1 [y11] [])) (.jump 0 [] [])))),
 .join 0 0 (.loop 1 [(ki 0)] (ups [.ev (.lenL y1),
 .ev (.bin .lss .int y8 y9)]
 (.ite y10 (ups [.join 2 0 (ups [.ev (.eaddr 2 y1 y8),
 .chk (.padd 0 y11),
 .ev (.ld false 1 y2 (.padd 0 y11)),
 .ev (.bin .lss .int y12 (ki 1)),
 .chain true y13 (ups [.ev (.eaddr 2 y1 y8),
 .chk (.padd 0 y14),
 .ev (.ld false 1 y2 (.padd 0 y14)),
 .ev (.bin .gtr .int y15 (ki 3))]
 (.ret y16)),
 .chain true y14 (ups [.ev (.eaddr 2 y1 y8),
 .chk (.padd 1 y15),
 .ev (.ld false 1 y2 (.padd 1 y15)),
 .call 54 (.const (.st [])) [(.m4 .noids y16 .nil .nil .nil),(.m4 .noids (ki 0) .nil .nil .nil),(.m4 .noids (ki 10000000) .nil .nil .nil)] [true],
 .ev (.un .not y17)]
 (.ret y18))]
 (.ite y15 (.ret (.tcons (kb false) (.tcons y2 .tnil))) (.jump 2 [] []))),
 .ev (.bin .add .int y8 (ki 1))]
 (.jump 1 [y11] [])) (.jump 0 [] []))))]
 (.ret (.tcons (kb true) (.tcons y2 .tnil))))))
theorem ku19:UOk Try.prog 19 .plain (wcf true [] [] Try.f19) [false,true] u19:=UOk.plain Try.func19 (by kernel_rfl) (by kernel_rfl)

noncomputable def u20:U:=(ups [.chk (.aggN 5 y0),
 .join 0 0 (.loop 1 [(ki 0)] (ups [.ev (.lenL (.cell 4 y0)),
 .ev (.bin .lss .int y2 y3)]
 (.ite y4 (ups [.join 2 0 (ups [.ev (.eaddr 7 (.cell 4 y0) y2),
 .ev (.ld true 7 y1 y5),
 .call 40 (.const (.st [])) [(.m4 .noids (agc 3 y0) .nil .nil .nil),(.m4 .noids (.cell 3 y0) .nil .nil .nil),(.m4 .noids y6 .nil .nil .nil)] [true],
 .ev (.un .not y7)]
 (.ite y8 (.ret (.tcons (kb false) (.tcons y1 .tnil))) (.jump 2 [] []))),
 .ev (.bin .add .int y2 (ki 1))]
 (.jump 1 [y5] [])) (.jump 0 [] []))))]
 (.ret (.tcons (kb true) (.tcons y1 .tnil))))
theorem ku20:UOk Try.prog 20 .plain (wcf true [] [] Try.f20) [false] u20:=UOk.plain Try.func20 (by kernel_rfl) (by kernel_rfl)

noncomputable def u23:U:=(ups [.ev (.lenL y0),
 .ev (.lenL y1),
 .ev (.bin .neq .int y3 y4)]
 (.ite y5 (.ret (.tcons (kb false) (.tcons y2 .tnil))) (ups [.join 0 0 (.loop 1 [(ki 0)] (ups [.ev (.lenL y0),
 .ev (.bin .lss .int y6 y7)]
 (.ite y8 (ups [.join 2 0 (ups [.ev (.eaddr 7 y0 y6),
 .ev (.ld true 7 y2 y9),
 .ev (.eaddr 7 y1 y6),
 .ev (.ld true 7 y2 y11),
 .ev (.bin .neq (.agg [0,0,0,0,0,0,0]) y10 y12)]
 (.ite y13 (.ret (.tcons (kb false) (.tcons y2 .tnil))) (.jump 2 [] []))),
 .ev (.bin .add .int y6 (ki 1))]
 (.jump 1 [y9] [])) (.jump 0 [] []))))]
 (.ret (.tcons (kb true) (.tcons y2 .tnil))))))
theorem ku23:UOk Try.prog 23 .plain (wcf true [] [] Try.f23) [true,true] u23:=UOk.plain Try.func23 (by kernel_rfl) (by kernel_rfl)

noncomputable def u30:U:=(ups [.ev (.lenL y0),
 .ev (.lenL y1),
 .ev (.bin .neq .int y3 y4)]
 (.ite y5 (.ret (.tcons (kb false) (.tcons y2 .tnil))) (ups [.join 0 0 (.loop 1 [(ki 0)] (ups [.ev (.lenL y0),
 .ev (.bin .lss .int y6 y7)]
 (.ite y8 (ups [.join 2 0 (ups [.ev (.eaddr 6 y0 y6),
 .ev (.ld true 6 y2 y9),
 .ev (.eaddr 6 y1 y6),
 .ev (.ld true 6 y2 y11),
 .ev (.bin .neq (.agg [0,0,1,1,1,1]) y10 y12)]
 (.ite y13 (.ret (.tcons (kb false) (.tcons y2 .tnil))) (.jump 2 [] []))),
 .ev (.bin .add .int y6 (ki 1))]
 (.jump 1 [y9] [])) (.jump 0 [] []))))]
 (.ret (.tcons (kb true) (.tcons y2 .tnil))))))
theorem ku30:UOk Try.prog 30 .plain (wcf true [] [] Try.f30) [true,true] u30:=UOk.plain Try.func30 (by kernel_rfl) (by kernel_rfl)

noncomputable def u32:U:=(ups [.ev (.lenL y0),
 .ev (.rep 1 y3 (.v (.bool false))),
 .ev (.lenL y0),
 .ev (.rep 1 y5 (.v (.bool false))),
 .join 0 1 (.loop 1 [(ki 0),y4] (ups [.ev (.lenL y0),
 .ev (.bin .lss .int y7 y9)]
 (.ite y10 (ups [.join 2 1 (ups [.ev (.eaddr 7 y0 y7),
 .chk (.padd 6 y11),
 .ev (.ld false 1 y2 (.padd 6 y11)),
 .ev (.bin .leq .int y12 y1),
 .ev (.idx y8 y7),
 .ev (.set y8 y7 0 y13)]
 (.jump 2 [y15] [])),
 .ev (.bin .add .int y7 (ki 1))]
 (.jump 1 [y12,y11] [])) (.jump 0 [y8] [])))),
 .join 0 1 (.loop 1 [(ki 0),y6] (ups [.ev (.lenL y0),
 .ev (.bin .lss .int y8 y10)]
 (.ite y11 (ups [.join 2 1 (ups [.ev (.idx y7 y8),
 .ev (.cell 0 (.idx y7 y8)),
 .ev (.idx y9 y8),
 .ev (.set y9 y8 0 y13),
 .join 3 5 (.loop 4 [(ki 0),y15] (ups [.ev (.lenL y0),
 .ev (.bin .lss .int y16 y18)]
 (.ite y19 (ups [.join 5 1 (ups [.ev (.bin .neq .int y16 y8),
 .chain false y20 (ups [.ev (.idx y7 y16),
 .ev (.cell 0 (.idx y7 y16))]
 (.ret y22)),
 .chain false y21 (ups [.ev (.eaddr 7 y0 y16),
 .chk (.padd 0 y22),
 .ev (.ld false 1 y2 (.padd 0 y22)),
 .ev (.eaddr 7 y0 y8),
 .chk (.padd 0 y24),
 .ev (.ld false 1 y2 (.padd 0 y24)),
 .ev (.bin .eql .int y23 y25)]
 (.ret y26)),
 .chain false y22 (ups [.ev (.eaddr 7 y0 y16),
 .chk (.padd 1 y23),
 .ev (.ld false 1 y2 (.padd 1 y23)),
 .ev (.eaddr 7 y0 y8),
 .chk (.padd 1 y25),
 .ev (.ld false 1 y2 (.padd 1 y25)),
 .ev (.bin .eql .int y24 y26)]
 (.ret y27)),
 .join 6 1 (.ite y23 (ups [.ev (.idx y17 y8),
 .ev (.set y17 y8 0 (kb false))]
 (.jump 6 [y25] [])) (.jump 6 [y17] []))]
 (.jump 5 [y24] [])),
 .ev (.bin .add .int y16 (ki 1))]
 (.jump 4 [y21,y20] [])) (.jump 3 [y16,y16,y18,y19,y17] []))))]
 (.jump 2 [y20] [])),
 .ev (.bin .add .int y8 (ki 1))]
 (.jump 1 [y13,y12] [])) (.jump 0 [y9] [])))),
 .ev (.lenL y0),
 .ev (.rep 1 y9 (.v (.bool false))),
 .ev (.lenL y0),
 .ev (.bin .sub .int y11 (ki 1)),
 .join 0 1 (.loop 1 [y12,y10] (ups [.ev (.bin .geq .int y13 (ki 0))]
 (.ite y15 (ups [.join 2 1 (ups [.ev (.idx y8 y13),
 .ev (.cell 0 (.idx y8 y13)),
 .ev (.idx y14 y13),
 .ev (.set y14 y13 0 y17),
 .ev (.bin .add .int y13 (ki 1)),
 .join 3 5 (.loop 4 [y20,y19] (ups [.ev (.lenL y0),
 .ev (.bin .lss .int y21 y23)]
 (.ite y24 (ups [.join 5 1 (ups [.ev (.idx y22 y21),
 .ev (.cell 0 (.idx y22 y21)),
 .chain false y26 (ups [.ev (.eaddr 7 y0 y21),
 .chk (.padd 0 y27),
 .ev (.ld false 1 y2 (.padd 0 y27)),
 .ev (.eaddr 7 y0 y13),
 .chk (.padd 0 y29),
 .ev (.ld false 1 y2 (.padd 0 y29)),
 .ev (.bin .eql .int y28 y30)]
 (.ret y31)),
 .chain false y27 (ups [.ev (.eaddr 7 y0 y21),
 .chk (.padd 2 y28),
 .ev (.ld false 1 y2 (.padd 2 y28)),
 .ev (.bin .eql .int y29 (ki 4))]
 (.ret y30)),
 .chain false y28 (ups [.ev (.eaddr 7 y0 y21),
 .chk (.padd 3 y29),
 .ev (.ld false 1 y2 (.padd 3 y29)),
 .ev (.eaddr 7 y0 y13),
 .chk (.padd 1 y31),
 .ev (.ld false 1 y2 (.padd 1 y31)),
 .ev (.bin .eql .int y30 y32)]
 (.ret y33)),
 .join 6 1 (.ite y29 (ups [.ev (.idx y22 y13),
 .ev (.set y22 y13 0 (kb false))]
 (.jump 6 [y31] [])) (.jump 6 [y22] []))]
 (.jump 5 [y30] [])),
 .ev (.bin .add .int y21 (ki 1))]
 (.jump 4 [y26,y25] [])) (.jump 3 [y21,y21,y23,y24,y22] []))))]
 (.jump 2 [y25] [])),
 .ev (.bin .sub .int y13 (ki 1))]
 (.jump 1 [y17,y16] [])) (.jump 0 [y14] [])))),
 .join 0 1 (.loop 1 [(.const (.lst [])),(ki 0)] (ups [.ev (.lenL y0),
 .ev (.bin .lss .int y15 y16)]
 (.ite y17 (ups [.join 2 1 (ups [.ev (.idx y13 y15),
 .ev (.cell 0 (.idx y13 y15)),
 .join 3 1 (.ite y19 (ups [.ev (.lcons (.scal y15) (.const (.lst []))),
 .ev (.app 1 8 y14 y20)]
 (.jump 3 [y21] [])) (.jump 3 [y14] []))]
 (.jump 2 [y20] [])),
 .ev (.bin .add .int y15 (ki 1))]
 (.jump 1 [y18,y19] [])) (.jump 0 [y14] []))))]
 (.ret (.tcons y14 (.tcons y2 .tnil))))
theorem ku32:UOk Try.prog 32 .plain (wcf true [] [] Try.f32) [true,true] u32:=UOk.plain Try.func32 (by kernel_rfl) (by kernel_rfl)

noncomputable def u34:U:=(ups [.ev (.lenL y0),
 .ev (.lenL y1),
 .ev (.bin .neq .int y3 y4)]
 (.ite y5 (.ret (.tcons (kb false) (.tcons y2 .tnil))) (ups [.join 0 0 (.loop 1 [(ki 0)] (ups [.ev (.lenL y0),
 .ev (.bin .lss .int y6 y7)]
 (.ite y8 (ups [.join 2 0 (ups [.ev (.eaddr 2 y0 y6),
 .ev (.ld true 2 y2 y9),
 .ev (.eaddr 2 y1 y6),
 .ev (.ld true 2 y2 y11),
 .ev (.bin .neq (.agg [0,0]) y10 y12)]
 (.ite y13 (.ret (.tcons (kb false) (.tcons y2 .tnil))) (.jump 2 [] []))),
 .ev (.bin .add .int y6 (ki 1))]
 (.jump 1 [y9] [])) (.jump 0 [] []))))]
 (.ret (.tcons (kb true) (.tcons y2 .tnil))))))
theorem ku34:UOk Try.prog 34 .plain (wcf true [] [] Try.f34) [true,true] u34:=UOk.plain Try.func34 (by kernel_rfl) (by kernel_rfl)

noncomputable def u37:U:=(ups [.ev (.lenL y0),
 .ev (.lenL y1),
 .ev (.bin .neq .int y3 y4)]
 (.ite y5 (.ret (.tcons (kb false) (.tcons y2 .tnil))) (ups [.join 0 0 (.loop 1 [(ki 0)] (ups [.ev (.lenL y0),
 .ev (.bin .lss .int y6 y7)]
 (.ite y8 (ups [.join 2 0 (ups [.ev (.eaddr 1 y0 y6),
 .ev (.ld false 1 y2 y9),
 .ev (.eaddr 1 y1 y6),
 .ev (.ld false 1 y2 y11),
 .ev (.bin .neq .int y10 y12)]
 (.ite y13 (.ret (.tcons (kb false) (.tcons y2 .tnil))) (.jump 2 [] []))),
 .ev (.bin .add .int y6 (ki 1))]
 (.jump 1 [y9] [])) (.jump 0 [] []))))]
 (.ret (.tcons (kb true) (.tcons y2 .tnil))))))
theorem ku37:UOk Try.prog 37 .plain (wcf true [] [] Try.f37) [true,true] u37:=UOk.plain Try.func37 (by kernel_rfl) (by kernel_rfl)

noncomputable def u39:U:=(ups [.chk (.aggN 5 y0),
 .chk (.aggN 7 y1),
 .ev (.bin .eql .int (.cell 2 y1) (ki 4))]
 (.ite y4 (.ret (.tcons (kb true) (.tcons y3 .tnil))) (ups [.ev (.bin .sub .int (.cell 3 y1) (ki 1)),
 .ev (.eaddr 1 y2 y5),
 .ev (.ld false 1 y3 y6),
 .ev (.eaddr 2 (.cell 3 y0) (.cell 0 y1)),
 .chk (.padd 1 y8),
 .ev (.ld false 1 y3 (.padd 1 y8)),
 .join 0 0 (ups [.ev (.bin .eql .int (.cell 2 y1) (ki 1))]
 (.ite y10 (ups [.ev (.lenL y7),
 .ev (.bin .gtr .int y11 (.cell 4 y1)),
 .chain false y12 (ups [.chk (.cell 4 y1),
 .ev (.eaddr 1 y7 (.cell 4 y1)),
 .ev (.ld false 1 y3 y13),
 .chk (.cell 5 y1),
 .ev (.bin .sub .int (.cell 5 y1) y9),
 .ev (.bin .geq .int y14 y15)]
 (.ret y16)),
 .chain false y13 (ups [.chk (.cell 4 y1),
 .ev (.eaddr 1 y7 (.cell 4 y1)),
 .ev (.ld false 1 y3 y14),
 .chk (.cell 5 y1),
 .ev (.bin .add .int (.cell 5 y1) y9),
 .ev (.bin .leq .int y15 y16)]
 (.ret y17)),
 .chain false y14 (ups [.chk (.cell 4 y1),
 .ev (.eaddr 1 y7 (.cell 4 y1)),
 .ev (.ld false 1 y3 y15),
 .chk (.cell 6 y1),
 .ev (.bin .leq .int y16 (.cell 6 y1))]
 (.ret y17))]
 (.ret (.tcons y15 (.tcons y3 .tnil)))) (ups [.ev (.bin .eql .int (.cell 2 y1) (ki 2))]
 (.ite y11 (ups [.ev (.lenL y7),
 .ev (.bin .leq .int y12 (.cell 4 y1)),
 .chain true y13 (ups [.chk (.cell 4 y1),
 .ev (.eaddr 1 y7 (.cell 4 y1)),
 .ev (.ld false 1 y3 y14),
 .chk (.cell 5 y1),
 .ev (.bin .sub .int (.cell 5 y1) y9),
 .ev (.bin .gtr .int y15 y16)]
 (.ret y17))]
 (.ret (.tcons y14 (.tcons y3 .tnil)))) (.jump 0 [] []))))),
 .ev (.lenL y7),
 .ev (.bin .add .int (.cell 4 y1) (ki 1)),
 .ev (.bin .eql .int y10 y11),
 .chain false y12 (ups [.chk (.cell 4 y1),
 .ev (.eaddr 1 y7 (.cell 4 y1)),
 .ev (.ld false 1 y3 y13),
 .chk (.cell 6 y1),
 .ev (.bin .leq .int y14 (.cell 6 y1))]
 (.ret y15))]
 (.ret (.tcons y13 (.tcons y3 .tnil))))))
theorem ku39:UOk Try.prog 39 .plain (wcf true [] [] Try.f39) [false,false,true] u39:=UOk.plain Try.func39 (by kernel_rfl) (by kernel_rfl)

noncomputable def u40:U:=(ups [.chk (.aggN 3 y0),
 .chk (.aggN 7 y2),
 .ev (.lenL y1),
 .ev (.bin .sub .int y4 (ki 1)),
 .call 54 (.const (.st [])) [(.m4 .noids (.cell 0 y2) .nil .nil .nil),(.m4 .noids (ki 0) .nil .nil .nil),(.m4 .noids y5 .nil .nil .nil)] [true],
 .ev (.un .not y6),
 .chain true y7 (ups [.chk (.cell 1 y2),
 .call 54 (.const (.st [])) [(.m4 .noids (.cell 1 y2) .nil .nil .nil),(.m4 .noids (ki 0) .nil .nil .nil),(.m4 .noids (ki 1000000000) .nil .nil .nil)] [true],
 .ev (.un .not y8)]
 (.ret y9)),
 .chain true y8 (ups [.chk (.cell 5 y2),
 .call 54 (.const (.st [])) [(.m4 .noids (.cell 5 y2) .nil .nil .nil),(.m4 .noids (ki 0) .nil .nil .nil),(.m4 .noids (ki 1000000000000) .nil .nil .nil)] [true],
 .ev (.un .not y9)]
 (.ret y10)),
 .chain true y9 (ups [.chk (.cell 6 y2),
 .call 54 (.const (.st [])) [(.m4 .noids (.cell 6 y2) .nil .nil .nil),(.m4 .noids (ki 0) .nil .nil .nil),(.m4 .noids (ki 1000000000000) .nil .nil .nil)] [true],
 .ev (.un .not y10)]
 (.ret y11))]
 (.ite y10 (.ret (.tcons (kb false) (.tcons y3 .tnil))) (ups [.join 0 0 (ups [.ev (.bin .eql .int (.cell 2 y2) (ki 1)),
 .join 1 1 (.ite y11 (.jump 1 [y11] []) (ups [.ev (.bin .eql .int (.cell 2 y2) (ki 2))]
 (.jump 1 [y12] [])))]
 (.ite y12 (ups [.call 54 (.const (.st [])) [(.m4 .noids (.cell 3 y2) .nil .nil .nil),(.m4 .noids (ki 1) .nil .nil .nil),(.m4 .noids (.cell 0 y0) .nil .nil .nil)] [true],
 .chain false y13 (ups [.chk (.cell 4 y2),
 .chk (.cell 1 y0),
 .ev (.bin .sub .int (.cell 1 y0) (ki 1)),
 .call 54 (.const (.st [])) [(.m4 .noids (.cell 4 y2) .nil .nil .nil),(.m4 .noids (ki 0) .nil .nil .nil),(.m4 .noids y14 .nil .nil .nil)] [true]]
 (.ret y15))]
 (.ret (.tcons y14 (.tcons y3 .tnil)))) (ups [.ev (.bin .eql .int (.cell 2 y2) (ki 3))]
 (.ite y13 (ups [.call 54 (.const (.st [])) [(.m4 .noids (.cell 3 y2) .nil .nil .nil),(.m4 .noids (ki 1) .nil .nil .nil),(.m4 .noids (.cell 0 y0) .nil .nil .nil)] [true],
 .chain false y14 (ups [.chk (.cell 4 y2),
 .chk (.cell 1 y0),
 .ev (.bin .sub .int (.cell 1 y0) (ki 1)),
 .call 54 (.const (.st [])) [(.m4 .noids (.cell 4 y2) .nil .nil .nil),(.m4 .noids (ki 0) .nil .nil .nil),(.m4 .noids y15 .nil .nil .nil)] [true]]
 (.ret y16)),
 .chain false y15 (ups [.chk (.cell 5 y2),
 .ev (.bin .eql .int (.cell 5 y2) (ki 0))]
 (.ret y16))]
 (.ret (.tcons y16 (.tcons y3 .tnil)))) (ups [.ev (.bin .eql .int (.cell 2 y2) (ki 4))]
 (.ite y14 (ups [.ev (.bin .sub .int (.cell 1 y2) (ki 1)),
 .call 54 (.const (.st [])) [(.m4 .noids (.cell 3 y2) .nil .nil .nil),(.m4 .noids (ki 0) .nil .nil .nil),(.m4 .noids y15 .nil .nil .nil)] [true],
 .chain false y16 (ups [.chk (.cell 4 y2),
 .ev (.bin .eql .int (.cell 4 y2) (ki 0))]
 (.ret y17)),
 .chain false y17 (ups [.chk (.cell 5 y2),
 .ev (.bin .eql .int (.cell 5 y2) (ki 0))]
 (.ret y18))]
 (.ret (.tcons y18 (.tcons y3 .tnil)))) (.jump 0 [] [])))))))]
 (.ret (.tcons (kb false) (.tcons y3 .tnil))))))
theorem ku40:UOk Try.prog 40 .plain (wcf true [] [] Try.f40) [false,true,false] u40:=UOk.plain Try.func40 (by kernel_rfl) (by kernel_rfl)

noncomputable def u54:U:=(ups [.ev (.bin .geq .int y0 y1),
 .chain false y4 (ups [.ev (.bin .leq .int y0 y2)]
 (.ret y5))]
 (.ret (.tcons y5 (.tcons y3 .tnil))))
theorem ku54:UOk Try.prog 54 .plain (wcf true [] [] Try.f54) [true,true,true] u54:=UOk.plain Try.func54 (by kernel_rfl) (by kernel_rfl)

noncomputable def u61:U:=(ups [.chk (.aggN 7 y0),
 .chk (.aggN 7 y1),
 .ev (.lcons (.scal (.cell 0 y0)) (.lcons (.scal (.cell 1 y0)) (.lcons (.scal (.cell 2 y0)) (.lcons (.scal (.cell 3 y0)) (.lcons (.scal (.cell 4 y0)) (.lcons (.scal (.cell 5 y0)) (.const (.lst [])))))))),
 .ev (.lcons (.scal (.cell 0 y1)) (.lcons (.scal (.cell 1 y1)) (.lcons (.scal (.cell 2 y1)) (.lcons (.scal (.cell 3 y1)) (.lcons (.scal (.cell 4 y1)) (.lcons (.scal (.cell 5 y1)) (.const (.lst [])))))))),
 .join 0 0 (.loop 1 [(ki 0)] (ups [.ev (.lenL y3),
 .ev (.bin .lss .int y5 y6)]
 (.ite y7 (ups [.join 2 0 (ups [.ev (.eaddr 1 y3 y5),
 .ev (.ld false 1 y2 y8),
 .ev (.eaddr 1 y4 y5),
 .ev (.ld false 1 y2 y10),
 .ev (.bin .neq .int y9 y11)]
 (.ite y12 (ups [.ev (.eaddr 1 y3 y5),
 .ev (.ld false 1 y2 y13),
 .ev (.eaddr 1 y4 y5),
 .ev (.ld false 1 y2 y15),
 .ev (.bin .lss .int y14 y16)]
 (.ret (.tcons y17 (.tcons y2 .tnil)))) (.jump 2 [] []))),
 .ev (.bin .add .int y5 (ki 1))]
 (.jump 1 [y8] [])) (.jump 0 [] []))))]
 (.ret (.tcons (kb false) (.tcons y2 .tnil))))
theorem ku61:UOk Try.prog 61 .plain (wcf true [] [] Try.f61) [false,false] u61:=UOk.plain Try.func61 (by kernel_rfl) (by kernel_rfl)

noncomputable def u62:U:=(ups [.chk (.aggN 7 y0),
 .chk (.aggN 7 y1),
 .ev (.bin .eql (.agg [0,0,0,0,0,0,0]) (.cons (.cell 0 y0) (.cons (.cell 1 y0) (.cons (.cell 2 y0) (.cons (.cell 3 y0) (.cons (.cell 4 y0) (.cons (.cell 5 y0) (.cons (.cell 6 y1) .nil))))))) (agc 7 y1))]
 (.ret (.tcons y3 (.tcons y2 .tnil))))
theorem ku62:UOk Try.prog 62 .plain (wcf true [] [] Try.f62) [false,false] u62:=UOk.plain Try.func62 (by kernel_rfl) (by kernel_rfl)

noncomputable def u16:U:=(ups [.chk (.aggN 5 y0),
 .ev (.lenL (.cell 2 y0)),
 .ev (.bin .leq .int y2 (ki 40)),
 .chain false y3 (ups [.chk (.cell 0 y0),
 .ev (.bin .leq .int (.cell 0 y0) (ki 8)),
 .chain true y4 (ups [.chk (.cell 0 y0),
 .ev (.bin .gtr .int (.cell 0 y0) (ki 200))]
 (.ret y5))]
 (.ret y5)),
 .chain false y4 (ups [.chk (.cell 3 y0),
 .ev (.lenL (.cell 3 y0)),
 .ev (.bin .leq .int y5 (ki 60))]
 (.ret y6)),
 .chain false y5 (ups [.chk (.cell 4 y0),
 .ev (.lenL (.cell 4 y0)),
 .ev (.bin .leq .int y6 (ki 25))]
 (.ret y7))]
 (.ret (.tcons y6 (.tcons y1 .tnil))))
theorem ku16:UOk Try.prog 16 .plain (wcf true [] [] Try.f16) [false] u16:=UOk.plain Try.func16 (by kernel_rfl) (by kernel_rfl)

noncomputable def u27:U:=(ups [.chk (.aggN 5 y0),
 .call 16 (.const (.st [])) [(.m4 .noids (agc 5 y0) .nil .nil .nil)] [true],
 .chain false y2 (ups [.chk (.cell 3 y0),
 .call 19 (.const (.st [])) [(.m4 .noids (agc 3 y0) .nil .nil .nil),(.m4 .noids (.cell 3 y0) .nil .nil .nil)] [true]]
 (.ret y3)),
 .chain false y3 (ups [.call 20 (.const (.st [])) [(.m4 .noids (agc 5 y0) .nil .nil .nil)] [true]]
 (.ret y4))]
 (.ret (.tcons y4 (.tcons y1 .tnil))))
theorem ku27:UOk Try.prog 27 .plain (wcf true [] [] Try.f27) [false] u27:=UOk.plain Try.func27 (by kernel_rfl) (by kernel_rfl)

noncomputable def u25:U:=(ups [.ev (.lcons (.scal (ki 100)) (.lcons (.scal (ki 100)) (.const (.lst [])))),
 .ev (.cons (.scal (ki 2)) (.cons (.scal (ki 3)) (.cons (.scal y1) .nil))),
 .chk (.aggN 3 y2)]
 (.ret (.tcons (agc 3 y2) (.tcons y0 .tnil))))
theorem ku25:UOk Try.prog 25 .plain (wcf true [] [] Try.f25) [] u25:=UOk.plain Try.func25 (by kernel_rfl) (by kernel_rfl)

noncomputable def u26:U:=(ups [.ev (.cons (.scal (ki 1)) (.cons (.scal (ki 1)) .nil)),
 .ev (.cons (.scal (ki 3)) (.cons (.scal (ki 50)) .nil)),
 .ev (.lcons (.aggN 2 y1) (.lcons (.aggN 2 y2) (.const (.lst []))))]
 (.ret (.tcons y3 (.tcons y0 .tnil))))
theorem ku26:UOk Try.prog 26 .plain (wcf true [] [] Try.f26) [] u26:=UOk.plain Try.func26 (by kernel_rfl) (by kernel_rfl)

noncomputable def u22:U:=(ups [.join 0 2 (.loop 1 [(.const .snil),(ki 0),y1] (ups [.ev (.lenL y0),
 .ev (.bin .lss .int y3 y5)]
 (.ite y6 (ups [.join 2 2 (ups [.join 3 6 (.loop 4 [(ki 0)] (ups [.ev (.lenL y2),
 .ev (.bin .lss .int y7 y8),
 .chain false y9 (ups [.ev (.eaddr 7 y2 y7),
 .ev (.ld true 7 y4 y10),
 .ev (.eaddr 7 y0 y3),
 .ev (.ld true 7 y4 y12),
 .call 61 y4 [y11,y13] [true]]
 (.ret y14))]
 (.ite y10 (ups [.join 5 1 (ups [.ev (.bin .add .int y7 (ki 1))]
 (.jump 5 [y11] []))]
 (.jump 4 [y11] [])) (.jump 3 [y7,y7,y8,y9,y9,y10] [])))),
 .ev (.lenL y2),
 .ev (.bin .lss .int y7 y13),
 .chain false y14 (ups [.ev (.eaddr 7 y2 y7),
 .ev (.ld true 7 y4 y15),
 .ev (.eaddr 7 y0 y3),
 .ev (.ld true 7 y4 y17),
 .call 62 y4 [y16,y18] [true]]
 (.ret y19))]
 (.ite y15 (ups [.ev (.eaddr 7 y2 y7),
 .chk (.padd 6 y16),
 .ev (.ld false 1 y4 (.padd 6 y16)),
 .ev (.eaddr 7 y0 y3),
 .chk (.padd 6 y18),
 .ev (.ld false 1 y4 (.padd 6 y18)),
 .ev (.mm false y17 y19),
 .ev (.eaddr 7 y2 y7),
 .chk (.padd 6 y21),
 .ev (.sto 1 y4 (.padd 6 y21) y20)]
 (.jump 2 [y2,y22] [])) (ups [.ev (.sub 7 y2 (ki 0) y7),
 .ev (.apph 45 7 56 y4 (.const .snil) y16),
 .ev (.eaddr 7 y0 y3),
 .ev (.ld true 7 y17 y18),
 .ev (.lcons (.aggN 7 y19) (.const (.lst []))),
 .ev (.apph 45 7 56 y17 (.apps y4 (.const .snil) y16) y20),
 .ev (.sub 7 y2 y7 (.lenL y2)),
 .ev (.apph 45 7 56 y21 (.apps y17 (.apps y4 (.const .snil) y16) y20) y22),
 .ev (.m4 .same (.ld true 7 y17 y18) (.ld true 7 y4 y18) .nil .nil)]
 (.jump 2 [(.apps y21 (.apps y17 (.apps y4 (.const .snil) y16) y20) y22),y23] [])))),
 .ev (.bin .add .int y3 (ki 1))]
 (.jump 1 [y7,y9,y8] [])) (.jump 0 [y2,y4] []))))]
 (.ret (.tcons y2 (.tcons y3 .tnil))))
theorem ku22:UOk Try.prog 22 .plain (wcf false [3,62,67,68,72] [(11,3)] Try.f22) [true] u22:=UOk.plain Try.func22 (by kernel_rfl) (by kernel_rfl)

end Go.Am.Wr

/-
 The wire's functions,as texts.
-/
namespace Go.Am.Wr
open Go.Proofs

noncomputable def u51:U:=(ups [.chk (.aggN 3 y0),
 .call 75 y2 [(.cell 0 y0),(ki 1),(ki 200)] [true],
 .ev (.un .not y3),
 .chain true y4 (ups [.chk (.cell 1 y0),
 .call 75 y2 [(.cell 1 y0),(ki 2),(ki 30)] [true],
 .ev (.un .not y5)]
 (.ret y6)),
 .chain true y5 (ups [.chk (.cell 2 y0),
 .ev (.lenL (.cell 2 y0)),
 .chk (.cell 1 y0),
 .ev (.bin .sub .int (.cell 1 y0) (ki 1)),
 .ev (.bin .neq .int y6 y7)]
 (.ret y8)),
 .chain true y6 (ups [.ev (.lenL y1),
 .ev (.bin .gtr .int y7 (ki 50))]
 (.ret y8))]
 (.ite y7 (.ret (.tcons (kb false) (.tcons y2 .tnil))) (ups [.call 80 y2 [(.cell 2 y0),(.const (.fn 81 [] []))] [true],
 .ev (.un .not y8),
 .chain false y9 (ups [.call 82 y2 [y1,(.const (.fn 83 [] []))] [true],
 .ev (.un .not y10)]
 (.ret y11))]
 (.ret (.tcons y10 (.tcons y2 .tnil))))))
theorem ku51:UOk Try.prog 51 .plain (wcf true [] [] Try.f51) [false,true] u51:=UOk.plain Try.func51 (by kernel_rfl) (by kernel_rfl)

noncomputable def u52:U:=(ups [.nilq y0 false]
 (.ite y2 (.ret (.tcons (.const (.lst [])) (.tcons y1 .tnil))) (ups [.ev (.app 1 8 (.const (.lst [])) y0)]
 (.ret (.tcons y3 (.tcons y1 .tnil))))))
theorem ku52:UOk Try.prog 52 .plain (wcf true [] [] Try.f52) [true] u52:=UOk.plain Try.func52 (by kernel_rfl) (by kernel_rfl)

noncomputable def u53:U:=(ups [.nilq y0 false]
 (.ite y2 (.ret (.tcons (.const (.lst [])) (.tcons y1 .tnil))) (ups [.ev (.app 2 16 (.const (.lst [])) y0)]
 (.ret (.tcons y3 (.tcons y1 .tnil))))))
theorem ku53:UOk Try.prog 53 .plain (wcf true [] [] Try.f53) [true] u53:=UOk.plain Try.func53 (by kernel_rfl) (by kernel_rfl)

noncomputable def u55:U:=(ups [.ev (.bin .neq .ptr y0 (.const (.v (.pointer none)))),
 .chain false y2 (ups [.chk (.nn y0),
 .chk (.padd 4 y0),
 .ev (.ld false 1 y1 (.padd 4 y0)),
 .ev (.bin .neq .mp y3 (.const (.v (.map none))))]
 (.ret y4))]
 (.ret (.tcons y3 (.tcons y1 .tnil))))
theorem ku55:UOk Try.prog 55 .plain (wcf true [] [] Try.f55) [true] u55:=UOk.plain Try.func55 (by kernel_rfl) (by kernel_rfl)

noncomputable def u56:U:=(ups [.call 84 y2 [y0,y1] [true],
 .ev (.bin .geq .int y3 (ki 0))]
 (.ret (.tcons y4 (.tcons y2 .tnil))))
theorem ku56:UOk Try.prog 56 .plain (wcf true [] [] Try.f56) [true,true] u56:=UOk.plain Try.func56 (by kernel_rfl) (by kernel_rfl)

noncomputable def u57:U:=(ups [.chk (.aggN 7 y0),
 .ev (.ld false 1 y2 y1),
 .call 58 y2 [y3,(agc 7 y0)] [true],
 .ev (.un .not y4)]
 (.ret (.tcons y5 (.tcons y2 .tnil))))
theorem ku57:UOk Try.prog 57 .plain (wcf true [] [] Try.f57) [false,true] u57:=UOk.plain Try.func57 (by kernel_rfl) (by kernel_rfl)

noncomputable def u58:U:=(ups [.chk (.aggN 7 y1),
 .chk (.nn y0),
 .chk (.padd 3 y0),
 .ev (.ld false 1 y2 (.padd 3 y0)),
 .ev (.lenL y3),
 .ev (.bin .sub .int y4 (ki 1)),
 .call 75 y2 [(.cell 0 y1),(ki 0),y5] [true],
 .ev (.un .not y6),
 .chain true y7 (ups [.chk (.cell 1 y1),
 .call 75 y2 [(.cell 1 y1),(ki 0),(ki 1000000000)] [true],
 .ev (.un .not y8)]
 (.ret y9)),
 .chain true y8 (ups [.chk (.cell 6 y1),
 .call 75 y2 [(.cell 6 y1),(ki 0),(ki 1000000000000)] [true],
 .ev (.un .not y9)]
 (.ret y10))]
 (.ite y9 (.ret (.tcons (kb false) (.tcons y2 .tnil))) (ups [.ev (.bin .eql .int (.cell 2 y1) (ki 4))]
 (.ite y10 (ups [.ev (.bin .sub .int (.cell 1 y1) (ki 1)),
 .call 75 y2 [(.cell 3 y1),(ki 0),y11] [true],
 .chain false y12 (ups [.chk (.cell 4 y1),
 .ev (.bin .eql .int (.cell 4 y1) (ki 0))]
 (.ret y13)),
 .chain false y13 (ups [.chk (.cell 5 y1),
 .ev (.bin .eql .int (.cell 5 y1) (ki 0))]
 (.ret y14))]
 (.ret (.tcons y14 (.tcons y2 .tnil)))) (ups [.chk (.nn y0),
 .chk (.padd 0 y0),
 .chk (.padd 0 (.padd 0 y0)),
 .ev (.ld false 1 y2 (.padd 0 (.padd 0 y0))),
 .call 75 y2 [(.cell 3 y1),(ki 1),y11] [true],
 .ev (.un .not y12),
 .chain true y13 (ups [.chk (.cell 4 y1),
 .chk (.nn y0),
 .chk (.padd 0 y0),
 .chk (.padd 1 (.padd 0 y0)),
 .ev (.ld false 1 y2 (.padd 1 (.padd 0 y0))),
 .ev (.bin .sub .int y14 (ki 1)),
 .call 75 y2 [(.cell 4 y1),(ki 0),y15] [true],
 .ev (.un .not y16)]
 (.ret y17))]
 (.ite y14 (.ret (.tcons (kb false) (.tcons y2 .tnil))) (ups [.join 0 0 (ups [.ev (.bin .eql .int (.cell 2 y1) (ki 1)),
 .join 1 1 (.ite y15 (.jump 1 [y15] []) (ups [.ev (.bin .eql .int (.cell 2 y1) (ki 2))]
 (.jump 1 [y16] [])))]
 (.ite y16 (ups [.call 75 y2 [(.cell 5 y1),(ki 0),(ki 1000000000000)] [true]]
 (.ret (.tcons y17 (.tcons y2 .tnil)))) (ups [.ev (.bin .eql .int (.cell 2 y1) (ki 3))]
 (.ite y17 (ups [.ev (.bin .eql .int (.cell 5 y1) (ki 0))]
 (.ret (.tcons y18 (.tcons y2 .tnil)))) (.jump 0 [] [])))))]
 (.ret (.tcons (kb false) (.tcons y2 .tnil))))))))))
theorem ku58:UOk Try.prog 58 .plain (wcf true [] [] Try.f58) [true,false] u58:=UOk.plain Try.func58 (by kernel_rfl) (by kernel_rfl)

noncomputable def u60:U:=(ups [.chk (.aggN 7 y0)]
 (.ret (.tcons (.cons (.cell 0 y0) (.cons (.cell 1 y0) (.cons (.cell 2 y0) (.cons (.cell 3 y0) (.cons (.cell 4 y0) (.cons (.cell 5 y0) (.cons (ki 0) .nil))))))) (.tcons y1 .tnil))))
theorem ku60:UOk Try.prog 60 .plain (wcf true [] [] Try.f60) [false] u60:=UOk.plain Try.func60 (by kernel_rfl) (by kernel_rfl)

noncomputable def u64:U:=(ups [.chk (.aggN 7 y0),
 .chk (.aggN 7 y1),
 .call 89 y2 [(.cell 0 y0),(.cell 0 y1)] [true],
 .call 89 y2 [(.cell 1 y0),(.cell 1 y1)] [true],
 .call 90 y2 [(.cell 2 y0),(.cell 2 y1)] [true],
 .call 89 y2 [(.cell 3 y0),(.cell 3 y1)] [true],
 .call 89 y2 [(.cell 4 y0),(.cell 4 y1)] [true],
 .call 89 y2 [(.cell 5 y0),(.cell 5 y1)] [true],
 .ev (.lcons (.scal y3) (.lcons (.scal y4) (.lcons (.scal y5) (.lcons (.scal y6) (.lcons (.scal y7) (.lcons (.scal y8) (.const (.lst [])))))))),
 .call 88 y2 [y9] [true]]
 (.ret (.tcons y10 (.tcons y2 .tnil))))
theorem ku64:UOk Try.prog 64 .plain (wcf true [] [] Try.f64) [false,false] u64:=UOk.plain Try.func64 (by kernel_rfl) (by kernel_rfl)

noncomputable def u65:U:=(ups [.call 55 y4 [y0] [true],
 .ev (.un .not y5)]
 (.ite y6 (.ret (.tcons (ki 1) (.tcons y4 .tnil))) (ups [.chk (.nn y0),
 .chk (.padd 0 y0),
 .chk (.padd 0 (.padd 0 y0)),
 .ev (.ld false 1 y4 (.padd 0 (.padd 0 y0))),
 .call 75 y4 [y1,(ki 1),y7] [true],
 .ev (.un .not y8),
 .chain true y9 (ups [.chk (.nn y0),
 .chk (.padd 0 y0),
 .chk (.padd 1 (.padd 0 y0)),
 .ev (.ld false 1 y4 (.padd 1 (.padd 0 y0))),
 .ev (.bin .sub .int y10 (ki 1)),
 .call 75 y4 [y2,(ki 0),y11] [true],
 .ev (.un .not y12)]
 (.ret y13)),
 .chain true y10 (ups [.call 75 y4 [y3,(ki 0),(ki 1000000000000)] [true],
 .ev (.un .not y11)]
 (.ret y12))]
 (.ite y11 (.ret (.tcons (ki 2) (.tcons y4 .tnil))) (.ret (.tcons (ki 0) (.tcons y4 .tnil)))))))
theorem ku65:UOk Try.prog 65 .plain (wcf true [] [] Try.f65) [true,true,true,true] u65:=UOk.plain Try.func65 (by kernel_rfl) (by kernel_rfl)

noncomputable def u69:U:=(ups [.ev (.mkptr (.cons (.scal y0) .nil)),
 .ev (.mkptr (.cons (.scal y1) .nil)),
 .ev (.mkfn 95 .tnil (.tcons y3 (.tcons y4 .tnil)))]
 (.ret (.tcons y5 (.tcons y2 .tnil))))
theorem ku69:UOk Try.prog 69 .plain (wcf true [] [] Try.f69) [true,true] u69:=UOk.plain Try.func69 (by kernel_rfl) (by kernel_rfl)

noncomputable def u70:U:=(ups [.chk (.aggN 7 y1),
 .chk (.aggN 7 y2),
 .call 96 y3 [y0,(agc 7 y2)] [true,true],
 .ev (.un .not (.tget 1 y4))]
 (.ite y5 (.ret (.tcons (kb false) (.tcons y3 .tnil))) (ups [.join 0 1 (.loop 1 [(ki 0),(.cell 4 y1)] (ups [.ev (.bin .lss .int y7 (.cell 4 y2))]
 (.ite y8 (ups [.join 2 1 (ups [.chk (.nn y0),
 .chk (.padd 0 y0),
 .ev (.ld false 1 y3 (.padd 0 y0)),
 .chk (.nn y9),
 .chk (.padd 0 y9),
 .chk (.padd 2 (.padd 0 y9)),
 .ev (.ld false 1 y3 (.padd 2 (.padd 0 y9))),
 .ev (.eaddr 1 y10 y7),
 .ev (.ld false 1 y3 y11),
 .ev (.bin .add .int y6 y12)]
 (.jump 2 [y13] [])),
 .ev (.bin .add .int y7 (ki 1))]
 (.jump 1 [y9,y10] [])) (.jump 0 [y6] [])))),
 .call 97 y3 [y0,(agc 7 y1)] [true],
 .ev (.bin .add .int y7 y6),
 .ev (.bin .lss .int (.tget 0 y4) y8)]
 (.ret (.tcons y9 (.tcons y3 .tnil))))))
theorem ku70:UOk Try.prog 70 .plain (wcf true [] [] Try.f70) [true,false,false] u70:=UOk.plain Try.func70 (by kernel_rfl) (by kernel_rfl)

noncomputable def u73:U:=(ups [.call 98 y2 [y0,y1] [true],
 .ev (.bin .geq .int y3 (ki 0))]
 (.ret (.tcons y4 (.tcons y2 .tnil))))
theorem ku73:UOk Try.prog 73 .plain (wcf true [] [] Try.f73) [true,true] u73:=UOk.plain Try.func73 (by kernel_rfl) (by kernel_rfl)

noncomputable def u74:U:=(ups [.chk (.aggN 6 y0)]
 (.ret (.tcons (.cell 3 y0) (.tcons y1 .tnil))))
theorem ku74:UOk Try.prog 74 .plain (wcf true [] [] Try.f74) [false] u74:=UOk.plain Try.func74 (by kernel_rfl) (by kernel_rfl)

noncomputable def u75:U:=(ups [.ev (.bin .geq .int y0 y1),
 .chain false y4 (ups [.ev (.bin .leq .int y0 y2)]
 (.ret y5))]
 (.ret (.tcons y5 (.tcons y3 .tnil))))
theorem ku75:UOk Try.prog 75 .plain (wcf true [] [] Try.f75) [true,true,true] u75:=UOk.plain Try.func75 (by kernel_rfl) (by kernel_rfl)

noncomputable def u80:U:=(ups [.call 102 y2 [y0,y1] [true],
 .ev (.bin .geq .int y3 (ki 0))]
 (.ret (.tcons y4 (.tcons y2 .tnil))))
theorem ku80:UOk Try.prog 80 .plain (wcf true [] [] Try.f80) [true,true] u80:=UOk.plain Try.func80 (by kernel_rfl) (by kernel_rfl)

noncomputable def u81:U:=(ups [.call 75 y1 [y0,(ki 0),(ki 100000000)] [true],
 .ev (.un .not y2)]
 (.ret (.tcons y3 (.tcons y1 .tnil))))
theorem ku81:UOk Try.prog 81 .plain (wcf true [] [] Try.f81) [true] u81:=UOk.plain Try.func81 (by kernel_rfl) (by kernel_rfl)

noncomputable def u82:U:=(ups [.call 103 y2 [y0,y1] [true],
 .ev (.bin .geq .int y3 (ki 0))]
 (.ret (.tcons y4 (.tcons y2 .tnil))))
theorem ku82:UOk Try.prog 82 .plain (wcf true [] [] Try.f82) [true,true] u82:=UOk.plain Try.func82 (by kernel_rfl) (by kernel_rfl)

noncomputable def u83:U:=(ups [.chk (.aggN 2 y0),
 .ev (.bin .lss .int (.cell 0 y0) (ki 1)),
 .chain true y2 (ups [.chk (.cell 0 y0),
 .ev (.bin .gtr .int (.cell 0 y0) (ki 3))]
 (.ret y3)),
 .chain true y3 (ups [.chk (.cell 1 y0),
 .call 75 y1 [(.cell 1 y0),(ki 0),(ki 10000000)] [true],
 .ev (.un .not y4)]
 (.ret y5))]
 (.ret (.tcons y4 (.tcons y1 .tnil))))
theorem ku83:UOk Try.prog 83 .plain (wcf true [] [] Try.f83) [false] u83:=UOk.plain Try.func83 (by kernel_rfl) (by kernel_rfl)

noncomputable def u84:U:=(ups [.ev (.lenL y0),
 .join 0 0 (.loop 1 [(ki 0)] (ups [.ev (.bin .lss .int y4 y3)]
 (.ite y5 (ups [.join 2 0 (ups [.ev (.eaddr 7 y0 y4),
 .ev (.ld true 7 y2 y6),
 .callv y1 y2 [y7] [true]]
 (.ite y8 (.ret (.tcons y4 (.tcons y2 .tnil))) (.jump 2 [] []))),
 .ev (.bin .add .int y4 (ki 1))]
 (.jump 1 [y6] [])) (.jump 0 [] []))))]
 (.ret (.tcons (ki (-1)) (.tcons y2 .tnil))))
theorem ku84:UOk Try.prog 84 .plain (wcf true [] [] Try.f84) [true,true] u84:=UOk.plain Try.func84 (by kernel_rfl) (by kernel_rfl)

noncomputable def u88:U:=(ups [.ev (.lenL y0),
 .join 0 0 (.loop 1 [(ki 0)] (ups [.ev (.bin .lss .int y3 y2)]
 (.ite y4 (ups [.join 2 0 (ups [.ev (.eaddr 1 y0 y3),
 .ev (.ld false 1 y1 y5),
 .ev (.bin .neq .int y6 (ki 0))]
 (.ite y7 (.ret (.tcons y6 (.tcons y1 .tnil))) (.jump 2 [] []))),
 .ev (.bin .add .int y3 (ki 1))]
 (.jump 1 [y5] [])) (.jump 0 [] []))))]
 (.ret (.tcons (ki 0) (.tcons y1 .tnil))))
theorem ku88:UOk Try.prog 88 .plain (wcf true [] [] Try.f88) [true] u88:=UOk.plain Try.func88 (by kernel_rfl) (by kernel_rfl)

noncomputable def u89:U:=(ups [.call 114 y2 [y0] [true],
 .call 114 y2 [y1] [true]]
 (.ite y3 (.ite y4 (.ret (.tcons (ki 0) (.tcons y2 .tnil))) (.ret (.tcons (ki (-1)) (.tcons y2 .tnil)))) (.ite y4 (.ret (.tcons (ki 1) (.tcons y2 .tnil))) (ups [.ev (.bin .lss .int y0 y1)]
 (.ite y5 (.ret (.tcons (ki (-1)) (.tcons y2 .tnil))) (ups [.ev (.bin .gtr .int y0 y1)]
 (.ite y6 (.ret (.tcons (ki 1) (.tcons y2 .tnil))) (.ret (.tcons (ki 0) (.tcons y2 .tnil))))))))))
theorem ku89:UOk Try.prog 89 .plain (wcf true [] [] Try.f89) [true,true] u89:=UOk.plain Try.func89 (by kernel_rfl) (by kernel_rfl)

noncomputable def u90:U:=(ups [.call 115 y2 [y0] [true],
 .call 115 y2 [y1] [true]]
 (.ite y3 (.ite y4 (.ret (.tcons (ki 0) (.tcons y2 .tnil))) (.ret (.tcons (ki (-1)) (.tcons y2 .tnil)))) (.ite y4 (.ret (.tcons (ki 1) (.tcons y2 .tnil))) (ups [.ev (.bin .lss .int y0 y1)]
 (.ite y5 (.ret (.tcons (ki (-1)) (.tcons y2 .tnil))) (ups [.ev (.bin .gtr .int y0 y1)]
 (.ite y6 (.ret (.tcons (ki 1) (.tcons y2 .tnil))) (.ret (.tcons (ki 0) (.tcons y2 .tnil))))))))))
theorem ku90:UOk Try.prog 90 .plain (wcf true [] [] Try.f90) [true,true] u90:=UOk.plain Try.func90 (by kernel_rfl) (by kernel_rfl)

noncomputable def u96:U:=(ups [.chk (.aggN 7 y1),
 .chk (.nn y0),
 .chk (.padd 0 y0),
 .ev (.ld false 1 y2 (.padd 0 y0)),
 .chk (.nn y3),
 .chk (.padd 3 y3),
 .ev (.ld false 1 y2 (.padd 3 y3)),
 .ev (.eaddr 2 y4 (.cell 0 y1)),
 .chk (.padd 1 y5),
 .ev (.ld false 1 y2 (.padd 1 y5)),
 .ev (.bin .add .int (.cell 5 y1) y6),
 .ev (.bin .eql .int (.cell 2 y1) (ki 1))]
 (.ret (.tcons (.tcons y7 (.tcons y8 .tnil)) (.tcons y2 .tnil))))
theorem ku96:UOk Try.prog 96 .plain (wcf true [] [] Try.f96) [true,false] u96:=UOk.plain Try.func96 (by kernel_rfl) (by kernel_rfl)

noncomputable def u97:U:=(ups [.chk (.aggN 7 y1),
 .chk (.nn y0),
 .chk (.padd 0 y0),
 .ev (.ld false 1 y2 (.padd 0 y0)),
 .chk (.nn y3),
 .chk (.padd 3 y3),
 .ev (.ld false 1 y2 (.padd 3 y3)),
 .ev (.eaddr 2 y4 (.cell 0 y1)),
 .chk (.padd 1 y5),
 .ev (.ld false 1 y2 (.padd 1 y5)),
 .ev (.bin .sub .int (.cell 5 y1) y6),
 .ev (.bin .eql .int (.cell 2 y1) (ki 2)),
 .join 0 1 (.ite y8 (ups [.ev (.bin .add .int y7 (ki 1))]
 (.jump 0 [y9] [])) (.jump 0 [y7] []))]
 (.ret (.tcons y9 (.tcons y2 .tnil))))
theorem ku97:UOk Try.prog 97 .plain (wcf true [] [] Try.f97) [true,false] u97:=UOk.plain Try.func97 (by kernel_rfl) (by kernel_rfl)

noncomputable def u98:U:=(ups [.ev (.lenL y0),
 .join 0 0 (.loop 1 [(ki 0)] (ups [.ev (.bin .lss .int y4 y3)]
 (.ite y5 (ups [.join 2 0 (ups [.ev (.eaddr 6 y0 y4),
 .ev (.ld true 6 y2 y6),
 .callv y1 y2 [y7] [true]]
 (.ite y8 (.ret (.tcons y4 (.tcons y2 .tnil))) (.jump 2 [] []))),
 .ev (.bin .add .int y4 (ki 1))]
 (.jump 1 [y6] [])) (.jump 0 [] []))))]
 (.ret (.tcons (ki (-1)) (.tcons y2 .tnil))))
theorem ku98:UOk Try.prog 98 .plain (wcf true [] [] Try.f98) [true,true] u98:=UOk.plain Try.func98 (by kernel_rfl) (by kernel_rfl)

noncomputable def u102:U:=(ups [.ev (.lenL y0),
 .join 0 0 (.loop 1 [(ki 0)] (ups [.ev (.bin .lss .int y4 y3)]
 (.ite y5 (ups [.join 2 0 (ups [.ev (.eaddr 1 y0 y4),
 .ev (.ld false 1 y2 y6),
 .callv y1 y2 [y7] [true]]
 (.ite y8 (.ret (.tcons y4 (.tcons y2 .tnil))) (.jump 2 [] []))),
 .ev (.bin .add .int y4 (ki 1))]
 (.jump 1 [y6] [])) (.jump 0 [] []))))]
 (.ret (.tcons (ki (-1)) (.tcons y2 .tnil))))
theorem ku102:UOk Try.prog 102 .plain (wcf true [] [] Try.f102) [true,true] u102:=UOk.plain Try.func102 (by kernel_rfl) (by kernel_rfl)

noncomputable def u103:U:=(ups [.ev (.lenL y0),
 .join 0 0 (.loop 1 [(ki 0)] (ups [.ev (.bin .lss .int y4 y3)]
 (.ite y5 (ups [.join 2 0 (ups [.ev (.eaddr 2 y0 y4),
 .ev (.ld true 2 y2 y6),
 .callv y1 y2 [y7] [true]]
 (.ite y8 (.ret (.tcons y4 (.tcons y2 .tnil))) (.jump 2 [] []))),
 .ev (.bin .add .int y4 (ki 1))]
 (.jump 1 [y6] [])) (.jump 0 [] []))))]
 (.ret (.tcons (ki (-1)) (.tcons y2 .tnil))))
theorem ku103:UOk Try.prog 103 .plain (wcf true [] [] Try.f103) [true,true] u103:=UOk.plain Try.func103 (by kernel_rfl) (by kernel_rfl)

noncomputable def u24:U:=(ups [.call 55 y1 [y0] [true],
 .ev (.un .not y2)]
 (.ite y3 (.ret (.tcons (.const (.lst [])) (.tcons y1 .tnil))) (ups [.chk (.nn y0),
 .chk (.padd 4 y0),
 .ev (.ld false 1 y1 (.padd 4 y0)),
 .ev (.m4 .rng y1 y4 .nil .nil),
 .join 0 2 (.loop 1 [(.const .snil),y5] (ups [.pick (.m4 .next y7 (.fstid y1) .nil .nil),
 .chk (.tget 0 y8)]
 (.ite (.tget 0 y8) (ups [.join 2 2 (ups [.ev (.m4 .entry y9 (.fstid y1) .nil .nil),
 .chk (.aggN 7 (.tget 0 y10)),
 .chk (.scal (.tget 1 y10)),
 .ev (.lcons (.aggN 7 (.cons (.cell 0 (.tget 0 y10)) (.cons (.cell 1 (.tget 0 y10)) (.cons (.cell 2 (.tget 0 y10)) (.cons (.cell 3 (.tget 0 y10)) (.cons (.cell 4 (.tget 0 y10)) (.cons (.cell 5 (.tget 0 y10)) (.cons (.tget 1 y10) .nil)))))))) (.const (.lst []))),
 .ev (.apph 45 7 56 y9 y6 y11)]
 (.jump 2 [(.apps y9 y6 y11),y12] [(.tget 1 y10),(.tcons (.tget 0 y10) (.tcons (.tget 1 y10) .tnil)),(.tget 0 y10),(.tget 1 y10),(.tget 1 y10),(.cons (.cell 0 (.tget 0 y10)) (.cons (.cell 1 (.tget 0 y10)) (.cons (.cell 2 (.tget 0 y10)) (.cons (.cell 3 (.tget 0 y10)) (.cons (.cell 4 (.tget 0 y10)) (.cons (.cell 5 (.tget 0 y10)) (.cons (.tget 1 y10) .nil))))))),(.apps y9 y6 y11),(.cell 0 (.tget 0 y10)),(.cell 1 (.tget 0 y10)),(.cell 2 (.tget 0 y10)),(.cell 3 (.tget 0 y10)),(.cell 4 (.tget 0 y10)),(.cell 5 (.tget 0 y10)),(.tget 1 y10)]))]
 (.jump 1 [y10,y11] [])) (.jump 0 [y6,y9] [y8])))),
 .wcall 63 y7 [y6,(.const (.fn 64 [] []))] []]
 (.ret (.tcons y6 (.tcons y9 .tnil))))))
theorem ku24:UOk Try.prog 24 .plain (wcf false [3] [] Try.f24) [true] u24:=UOk.plain Try.func24 (by kernel_rfl) (by kernel_rfl)

noncomputable def u28:U:=(ups [.chk (.aggN 5 y0),
 .wcall 18 y1 [(agc 3 y0),(.cell 3 y0)] [true,true],
 .ev (.bin .neq .int (.tget 1 y2) (ki 0)),
 .chain true y4 (ups [.chk (.tget 0 y2),
 .ev (.bin .eql .ptr (.tget 0 y2) (.const (.v (.pointer none))))]
 (.ret y5))]
 (.ite y5 (.ret (.tcons (.tcons (.const (.v (.pointer none))) (.tcons (kb false) .tnil)) (.tcons y3 .tnil))) (ups [.wcall 21 y3 [(.tget 0 y2),(.cell 4 y0)] [true],
 .ev (.bin .eql .int y6 (ki 0))]
 (.ret (.tcons (.tcons (.tget 0 y2) (.tcons y8 .tnil)) (.tcons y7 .tnil))))))
theorem ku28:UOk Try.prog 28 .plain (wcf false [] [] Try.f28) [false] u28:=UOk.plain Try.func28 (by kernel_rfl) (by kernel_rfl)

noncomputable def u29:U:=(ups [.call 65 y3 [y0,y1,(ki 0),y2] [true],
 .ev (.bin .neq .int y4 (ki 0))]
 (.ite y5 (.ret (.tcons (.tcons (.const (.lst [])) (.tcons y4 .tnil)) (.tcons y3 .tnil))) (ups [.wcall 66 y3 [y0,y2] [true],
 .wcall 67 y7 [y6,y1] [true]]
 (.ret (.tcons (.tcons y8 (.tcons (ki 0) .tnil)) (.tcons y9 .tnil))))))
theorem ku29:UOk Try.prog 29 .plain (wcf false [] [] Try.f29) [true,true,true] u29:=UOk.plain Try.func29 (by kernel_rfl) (by kernel_rfl)

noncomputable def u36:U:=(ups [.call 65 y4 [y0,(ki 1),(ki 0),y3] [true],
 .ev (.bin .neq .int y5 (ki 0))]
 (.ite y6 (.ret (.tcons (.tcons (.const (.lst [])) (.tcons y5 .tnil)) (.tcons y4 .tnil))) (ups [.ev (.bin .lss .int y1 (ki 0)),
 .chain true y7 (ups [.ev (.bin .geq .int y1 y2)]
 (.ret y8)),
 .chain true y8 (ups [.chk (.nn y0),
 .chk (.padd 0 y0),
 .chk (.padd 1 (.padd 0 y0)),
 .ev (.ld false 1 y4 (.padd 1 (.padd 0 y0))),
 .ev (.bin .geq .int y2 y9)]
 (.ret y10))]
 (.ite y9 (.ret (.tcons (.tcons (.const (.lst [])) (.tcons (ki 2) .tnil)) (.tcons y4 .tnil))) (ups [.wcall 66 y4 [y0,y3] [true],
 .join 0 2 (.loop 1 [(.const (.lst [])),(ki 1),y11] (ups [.chk (.nn y0),
 .chk (.padd 0 y0),
 .chk (.padd 0 (.padd 0 y0)),
 .ev (.ld false 1 y14 (.padd 0 (.padd 0 y0))),
 .ev (.bin .leq .int y13 y15)]
 (.ite y16 (ups [.join 2 2 (ups [.wcall 67 y14 [y10,y13] [true],
 .ev (.sub 6 y17 (ki 0) y1),
 .call 73 y18 [y19,(.const (.fn 74 [] []))] [true],
 .ev (.eaddr 6 y17 y2),
 .chk (.padd 2 y21),
 .ev (.ld false 1 y18 (.padd 2 y21)),
 .ev (.un .not y22),
 .chain false y23 (ups [.ev (.eaddr 6 y17 y1),
 .chk (.padd 2 y24),
 .ev (.ld false 1 y18 (.padd 2 y24)),
 .chain true y25 (ups [.ev (.un .not y20),
 .chain false y26 (ups [.ev (.eaddr 6 y17 y1),
 .chk (.padd 0 y27),
 .ev (.ld false 1 y18 (.padd 0 y27)),
 .ev (.bin .leq .int y28 y3)]
 (.ret y29))]
 (.ret y27))]
 (.ret y26)),
 .join 3 1 (.ite y24 (ups [.ev (.lcons (.scal y13) (.const (.lst []))),
 .ev (.app 1 8 y12 y25)]
 (.jump 3 [y26] [])) (.jump 3 [y12] []))]
 (.jump 2 [y25,y18] [y17,y17,y17,y17])),
 .ev (.bin .add .int y13 (ki 1))]
 (.jump 1 [y17,y19,y18] [])) (.jump 0 [y12,y14] []))))]
 (.ret (.tcons (.tcons y12 (.tcons (ki 0) .tnil)) (.tcons y13 .tnil))))))))
theorem ku36:UOk Try.prog 36 .plain (wcf false [] [] Try.f36) [true,true,true,true] u36:=UOk.plain Try.func36 (by kernel_rfl) (by kernel_rfl)

noncomputable def u42:U:=(ups [.call 55 y2 [y0] [true],
 .ev (.un .not y3)]
 (.ite y4 (.ret (.tcons (.tcons (.const (.lst [])) (.tcons (ki 1) .tnil)) (.tcons y2 .tnil))) (ups [.chk (.nn y0),
 .chk (.padd 3 y0),
 .ev (.ld false 1 y2 (.padd 3 y0)),
 .ev (.lenL y5),
 .ev (.bin .sub .int y6 (ki 1)),
 .call 75 y2 [y1,(ki 0),y7] [true],
 .ev (.un .not y8)]
 (.ite y9 (.ret (.tcons (.tcons (.const (.lst [])) (.tcons (ki 2) .tnil)) (.tcons y2 .tnil))) (ups [.wcall 24 y2 [y0] [true],
 .ev (.lenL y10),
 .join 0 1 (.loop 1 [(.const (.lst [])),(ki 0),(ki 0)] (ups [.ev (.bin .lss .int y15 y12)]
 (.ite y16 (ups [.join 2 2 (ups [.ev (.eaddr 7 y10 y15),
 .ev (.ld true 7 y11 y17),
 .chk (.aggN 7 y18),
 .ev (.bin .neq .int (.cell 0 y18) y1)]
 (.ite y19 (.jump 2 [y13,y14] [(.cell 0 y18),(.cell 0 y18),(.cell 1 y18),(.cell 2 y18),(.cell 3 y18),(.cell 4 y18),(.cell 5 y18),(.cell 6 y18)]) (ups [.join 3 2 (.loop 4 [y13,y14] (ups [.ev (.bin .lss .int y21 (.cell 1 y18)),
 .chain false y22 (ups [.ev (.lenL y20),
 .ev (.bin .lss .int y23 (ki 1000))]
 (.ret y24))]
 (.ite y23 (ups [.join 5 1 (ups [.ev (.lcons (.scal y21) (.const (.lst []))),
 .ev (.app 1 8 y20 y24)]
 (.jump 5 [y25] [])),
 .ev (.bin .add .int y21 (ki 1))]
 (.jump 4 [y24,y25] [])) (.jump 3 [y20,y21] [])))),
 .ev (.bin .add .int (.cell 1 y18) (ki 1)),
 .ev (.mm true y21 y22)]
 (.jump 2 [y20,y23] [(.cell 0 y18),(.cell 0 y18),(.cell 1 y18),(.cell 2 y18),(.cell 3 y18),(.cell 4 y18),(.cell 5 y18),(.cell 6 y18)])))),
 .ev (.bin .add .int y15 (ki 1))]
 (.jump 1 [y17,y18,y19] [])) (.jump 0 [y13] []))))]
 (.ret (.tcons (.tcons y13 (.tcons (ki 0) .tnil)) (.tcons y11 .tnil))))))))
theorem ku42:UOk Try.prog 42 .plain (wcf false [] [] Try.f42) [true,true] u42:=UOk.plain Try.func42 (by kernel_rfl) (by kernel_rfl)

noncomputable def u91:U:=(ups [.ev (.mkptr (.cons (.scal y0) .nil)),
 .ev (.mkfn 116 .tnil (.tcons y2 .tnil))]
 (.ret (.tcons y3 (.tcons y1 .tnil))))
theorem ku91:UOk Try.prog 91 .plain (wcf false [] [] Try.f91) [true] u91:=UOk.plain Try.func91 (by kernel_rfl) (by kernel_rfl)

noncomputable def u92:U:=(ups [.chk (.aggN 7 y1),
 .chk (.nn y0),
 .chk (.padd 0 y0),
 .ev (.ld false 1 y4 (.padd 0 y0)),
 .ev (.eaddr 6 y5 (.cell 4 y1)),
 .chk (.nn y6),
 .chk (.padd 0 y6),
 .ev (.ld false 1 y4 (.padd 0 y6)),
 .ev (.bin .sub .int (.cell 5 y1) y2),
 .ev (.mm true y7 y8),
 .chk (.nn y6),
 .chk (.padd 1 y6),
 .ev (.ld false 1 y4 (.padd 1 y6)),
 .ev (.bin .add .int (.cell 5 y1) y2),
 .ev (.mm false y10 y11),
 .chk (.nn y6),
 .chk (.padd 0 y6),
 .ev (.sto 1 y4 (.padd 0 y6) y9),
 .chk (.nn y6),
 .chk (.padd 1 y6),
 .ev (.sto 1 y13 (.padd 1 y6) y12),
 .chk (.nn y0),
 .chk (.padd 1 y0),
 .ev (.ld false 1 y14 (.padd 1 y0)),
 .ev (.mm true y15 (.cell 4 y1)),
 .chk (.nn y0),
 .chk (.padd 1 y0),
 .ev (.sto 1 y14 (.padd 1 y0) y16),
 .ev (.bin .neq .int y3 (ki 3)),
 .join 0 1 (.ite y18 (ups [.chk (.nn y0),
 .chk (.padd 3 y0),
 .ev (.ld false 1 y17 (.padd 3 y0)),
 .ev (.eaddr 1 y19 (.cell 4 y1)),
 .ev (.sto 1 y17 y20 (kb true))]
 (.jump 0 [y21] [])) (.jump 0 [y17] []))]
 (.ret (.tcons .tnil (.tcons y19 .tnil))))
theorem ku92:UOk Try.prog 92 .plain (wcf false [] [] Try.f92) [true,false,true,true] u92:=UOk.plain Try.func92 (by kernel_rfl) (by kernel_rfl)

noncomputable def u93:U:=(ups [.chk (.aggN 7 y1),
 .chk (.nn y0),
 .chk (.padd 0 y0),
 .ev (.ld false 1 y4 (.padd 0 y0)),
 .ev (.eaddr 6 y5 (.cell 4 y1)),
 .chk (.nn y6),
 .chk (.padd 0 y6),
 .ev (.ld false 1 y4 (.padd 0 y6)),
 .ev (.bin .sub .int (.cell 5 y1) y2),
 .ev (.bin .add .int y8 (ki 1)),
 .ev (.mm true y7 y9),
 .chk (.nn y6),
 .chk (.padd 0 y6),
 .ev (.sto 1 y4 (.padd 0 y6) y10)]
 (.ret (.tcons .tnil (.tcons y11 .tnil))))
theorem ku93:UOk Try.prog 93 .plain (wcf false [] [] Try.f93) [true,false,true,true] u93:=UOk.plain Try.func93 (by kernel_rfl) (by kernel_rfl)

noncomputable def u94:U:=(ups [.chk (.aggN 7 y1),
 .chk (.nn y0),
 .chk (.padd 1 y0),
 .ev (.ld false 1 y4 (.padd 1 y0)),
 .ev (.mm true y5 (.cell 4 y1)),
 .chk (.nn y0),
 .chk (.padd 1 y0),
 .ev (.sto 1 y4 (.padd 1 y0) y6),
 .chk (.nn y0),
 .chk (.padd 2 y0),
 .ev (.ld false 1 y7 (.padd 2 y0)),
 .ev (.mm false y8 (.cell 4 y1)),
 .chk (.nn y0),
 .chk (.padd 2 y0),
 .ev (.sto 1 y7 (.padd 2 y0) y9)]
 (.ret (.tcons .tnil (.tcons y10 .tnil))))
theorem ku94:UOk Try.prog 94 .plain (wcf false [] [] Try.f94) [true,false,true,true] u94:=UOk.plain Try.func94 (by kernel_rfl) (by kernel_rfl)

noncomputable def u18:U:=(ups [.chk (.aggN 3 y0),
 .call 51 (.const (.st [])) [(.m4 .noids (agc 3 y0) .nil .nil .nil),(.m4 .noids y1 .nil .nil .nil)] [true],
 .ev (.un .not y3)]
 (.ite y4 (.ret (.tcons (.tcons (.const (.v (.pointer none))) (.tcons (ki 2) .tnil)) (.tcons y2 .tnil))) (ups [.call 52 (.const (.st [])) [(.m4 .noids (.cell 2 y0) .nil .nil .nil)] [true],
 .call 53 (.const (.st [])) [(.m4 .noids y1 .nil .nil .nil)] [true],
 .ev (.m4 .newm y2 .nil .nil .nil),
 .ev (.cons (.aggN 3 (.cons (.cell 0 y0) (.cons (.cell 1 y0) (.cons y5 .nil)))) (.cons (.scal y6) (.cons (.scal (.m4 .fstm y2 .nil .nil .nil)) .nil))),
 .ev (.newb 80 5 y7 (.aggN 5 y8))]
 (.ret (.tcons (.tcons (.fstid y7) (.tcons (ki 0) .tnil)) (.tcons y9 .tnil))))))
theorem ku18:UOk Try.prog 18 .plain (wcf false [19] [] Try.f18) [false,true] u18:=UOk.plain Try.func18 (by kernel_rfl) (by kernel_rfl)

noncomputable def u21:U:=(ups [.ev (.mkptr (.cons (.scal y0) .nil)),
 .ev (.ld false 1 y2 y3),
 .call 55 y2 [y4] [true],
 .ev (.un .not y5)]
 (.ite y6 (.ret (.tcons (ki 1) (.tcons y2 .tnil))) (ups [.ev (.mkfn 57 .tnil (.tcons y3 .tnil)),
 .call 56 y2 [y1,y7] [true]]
 (.ite y8 (.ret (.tcons (ki 2) (.tcons y2 .tnil))) (ups [.ev (.ld false 1 y2 y3),
 .chk (.nn y9),
 .chk (.padd 4 y9),
 .ev (.ld false 1 y2 (.padd 4 y9)),
 .wcall 59 y2 [y10] [true],
 .ev (.lenL y1),
 .join 0 1 (.loop 1 [(ki 0),y12] (ups [.ev (.bin .lss .int y14 y13)]
 (.ite y16 (ups [.join 2 1 (ups [.ev (.eaddr 7 y1 y14),
 .ev (.ld true 7 y15 y17),
 .chk (.aggN 7 y18),
 .call 60 y15 [(agc 7 y18)] [false],
 .chk (.aggN 7 y19),
 .ev (.m4 (.getok (.agg [0,0,0,0,0,0,0])) y15 y11 (agc 7 y19) (ki 0)),
 .ev (.un .not (.tget 1 y20)),
 .chain true y21 (ups [.chk (.cell 6 y18),
 .chk (.tget 0 y20),
 .ev (.bin .lss .int (.cell 6 y18) (.tget 0 y20))]
 (.ret y22)),
 .join 3 1 (.ite y22 (ups [.ev (.m4 (.put (.agg [0,0,0,0,0,0,0])) y15 y11 (agc 7 y19) (.cell 6 y18))]
 (.jump 3 [y23] [])) (.jump 3 [y15] []))]
 (.jump 2 [y23] [(.tget 0 y20),(.tget 1 y20),(agc 7 y18),(.tcons (.tget 0 y20) (.tcons (.tget 1 y20) .tnil)),(agc 7 y19),(.tcons (.tget 0 y20) (.tcons (.tget 1 y20) .tnil)),(.tget 0 y20),(.tget 1 y20),(.tget 1 y20),(.cell 0 y18),(.cell 1 y18),(.cell 2 y18),(.cell 3 y18),(.cell 4 y18),(.cell 5 y18),(.cell 6 y18),(.cell 0 y19),(.cell 1 y19),(.cell 2 y19),(.cell 3 y19),(.cell 4 y19),(.cell 5 y19),(.cell 6 y19)])),
 .ev (.bin .add .int y14 (ki 1))]
 (.jump 1 [y18,y17] [])) (.jump 0 [y15] [])))),
 .ev (.m4 .mlen y14 y11 .nil .nil),
 .ev (.bin .gtr .int y15 (ki 5000))]
 (.ite y16 (.ret (.tcons (ki 4) (.tcons y14 .tnil))) (ups [.ev (.ld false 1 y14 y3),
 .chk (.nn y17),
 .chk (.padd 4 y17),
 .ev (.sto 1 y14 (.padd 4 y17) y11)]
 (.ret (.tcons (ki 0) (.tcons y18 .tnil))))))))))
theorem ku21:UOk Try.prog 21 .plain (wcf false [] [] Try.f21) [true,true] u21:=UOk.plain Try.func21 (by kernel_rfl) (by kernel_rfl)

end Go.Am.Wr

/-
 The wire's functions,as texts: those that hand over to functions that write.
-/
namespace Go.Am.Wr
open Go.Proofs
def wcg (wr:List Nat)(nils:Bool)(more:List Nat)(frzs:List (Nat×Nat))(fn:Func):StCfg:={ autoCfg false (wr++WRA) [] more frzs fn with maps:=[78,136,139],locs:=LOCS,nils:=nils }

noncomputable def u33:U:=(ups [.ev (.mkptr (.cons (.scal y1) .nil)),
 .ev (.ld false 1 y3 y4),
 .call 65 y3 [y0,y5,(ki 0),y2] [true],
 .ev (.bin .neq .int y6 (ki 0))]
 (.ite y7 (.ret (.tcons (.tcons (.const (.lst [])) (.tcons y6 .tnil)) (.tcons y3 .tnil))) (ups [.wcall 66 y3 [y0,y2] [true],
 .ev (.newb 106 1 y9 (.const (.agg [(.v (.pointer none))]))),
 .ev (.sto 1 y10 (.fstid y9) y8),
 .ev (.newb 56 1 y11 (.const (.agg [.snil]))),
 .ev (.ld false 1 y12 (.fstid y9)),
 .ev (.ld false 1 y12 y4),
 .call 69 y12 [y13,y14] [true],
 .join 0 1 (ups [.rfor y15 y12 [0,1,2,4,7,8,9,10,15,16,17,18,19,20,22,23,24,25,26,27] [y0,y1,y2,y4,(ki 0),y6,(.fstid y9),(.fstid y11),y0,y5,y2,y6,y6,y7,y0,y2,y8,y13,y14,y15] 2 1 (ups [.ev (.newb 3 1 y16 (.const (.agg [(.v (.int .i64 0))]))),
 .ev (.sto 1 y19 (.fstid y16) y17),
 .ev (.newb 45 7 y20 (.const (.agg [(.v (.int .i64 0)),(.v (.int .i64 0)),(.v (.int .i64 0)),(.v (.int .i64 0)),(.v (.int .i64 0)),(.v (.int .i64 0)),(.v (.int .i64 0))]))),
 .ev (.sto 7 y21 (.fstid y20) y18),
 .join 2 1 (ups [.ev (.ld false 1 y22 (.fstid y9)),
 .ev (.ld false 1 y22 y4),
 .call 69 y22 [y23,y24] [true],
 .join 3 1 (ups [.rfor y25 y22 [0,1,2,4,7,8,9,10,11,12,15,16,17,18,19,20,22,23,24,25,26,27,28,29,30,31,32] [y0,y1,y2,y4,(ki 0),y6,(.fstid y9),(.fstid y11),(.fstid y16),(.fstid y20),y0,y5,y2,y6,y6,y7,y0,y2,y8,y13,y14,y15,y17,y18,y23,y24,y25] 2 4 (ups [.ev (.newb 45 7 y26 (.const (.agg [(.v (.int .i64 0)),(.v (.int .i64 0)),(.v (.int .i64 0)),(.v (.int .i64 0)),(.v (.int .i64 0)),(.v (.int .i64 0)),(.v (.int .i64 0))]))),
 .ev (.sto 7 y29 (.fstid y26) y28),
 .join 5 1 (ups [.ev (.ld false 1 y30 (.fstid y16)),
 .ev (.bin .geq .int y31 y27),
 .chain true y32 (ups [.ev (.padd 2 (.fstid y20)),
 .ev (.ld false 1 y30 y33),
 .ev (.bin .eql .int y34 (ki 3))]
 (.ret y35)),
 .chain true y33 (ups [.ev (.padd 2 (.fstid y26)),
 .ev (.ld false 1 y30 y34),
 .ev (.bin .eql .int y35 (ki 3))]
 (.ret y36)),
 .chain true y34 (ups [.ev (.padd 2 (.fstid y20)),
 .ev (.ld false 1 y30 y35),
 .ev (.bin .eql .int y36 (ki 2)),
 .chain false y37 (ups [.ev (.padd 2 (.fstid y26)),
 .ev (.ld false 1 y30 y38),
 .ev (.bin .eql .int y39 (ki 2))]
 (.ret y40))]
 (.ret y38))]
 (.ite y35 (.jump 5 [y30] []) (ups [.ev (.padd 4 (.fstid y20)),
 .ev (.ld false 1 y30 y36),
 .ev (.padd 4 (.fstid y26)),
 .ev (.ld false 1 y30 y38),
 .ev (.bin .leq .int y37 y39),
 .chain false y40 (ups [.ev (.ld false 1 y30 (.fstid y9)),
 .ev (.ld true 7 y30 (.fstid y20)),
 .ev (.ld true 7 y30 (.fstid y26)),
 .call 70 y30 [y41,y42,y43] [true]]
 (.ret y44)),
 .chain true y41 (ups [.ev (.padd 4 (.fstid y26)),
 .ev (.ld false 1 y30 y42),
 .ev (.padd 4 (.fstid y20)),
 .ev (.ld false 1 y30 y44),
 .ev (.bin .leq .int y43 y45),
 .chain false y46 (ups [.ev (.ld false 1 y30 (.fstid y9)),
 .ev (.ld true 7 y30 (.fstid y26)),
 .ev (.ld true 7 y30 (.fstid y20)),
 .call 70 y30 [y47,y48,y49] [true]]
 (.ret y50))]
 (.ret y47)),
 .join 6 1 (.ite y42 (ups [.ev (.ld false 1 y30 (.fstid y11)),
 .ev (.ld false 1 y30 (.fstid y16)),
 .ev (.cons (.scal y44) (.cons (.scal y27) .nil)),
 .ev (.lcons (.aggN 2 y45) (.const (.lst []))),
 .ev (.apph 94 2 16 y30 y43 y46),
 .ev (.sto 1 y47 (.fstid y11) (.apps y30 y43 y46))]
 (.jump 6 [y48] [])) (.jump 6 [y30] []))]
 (.jump 5 [y43] []))))]
 (.jump 4 [y31] []))]
 (.jump 3 [y26] []))]
 (.jump 2 [y26] []))]
 (.jump 1 [y23] []))]
 (.jump 0 [y16] [])),
 .ev (.ld false 1 y16 (.fstid y11))]
 (.ret (.tcons (.tcons y17 (.tcons (ki 0) .tnil)) (.tcons y16 .tnil))))))
theorem ku33:UOk Try.prog 33 .plain (wcg [] true [] [] Try.f33) [true,true,true] u33:=UOk.plain Try.func33 (by kernel_rfl) (by kernel_rfl)

noncomputable def u95:U:=(ups [.ev (.ld false 1 y3 y1),
 .chk (.nn y4),
 .chk (.padd 2 y4),
 .ev (.ld false 1 y3 (.padd 2 y4)),
 .ev (.lenL y5),
 .join 0 1 (.loop 1 [(ki 0),y3] (ups [.ev (.bin .lss .int y7 y6)]
 (.ite y9 (ups [.join 2 1 (ups [.ev (.eaddr 1 y5 y7),
 .ev (.ld false 1 y8 y10),
 .ev (.ld false 1 y8 y1),
 .chk (.nn y12),
 .chk (.padd 1 y12),
 .ev (.ld false 1 y8 (.padd 1 y12)),
 .ev (.eaddr 7 y13 y11),
 .ev (.ld true 7 y8 y14),
 .chk (.aggN 7 y15),
 .ev (.bin .neq .int (.cell 2 y15) (ki 4)),
 .chain false y16 (ups [.chk (.cell 3 y15),
 .ev (.ld false 1 y8 y2),
 .ev (.bin .eql .int (.cell 3 y15) y17)]
 (.ret y18)),
 .gen (.wcallv [(y17,true)] y0 y8 [y11,(agc 7 y15)] [true]),
 .chain false y17 (ups [.ev (.un .not (.tget 0 y18))]
 (.ret y19))]
 (.ite y19 (.ret (.tcons .tnil (.tcons (.tget 1 y18) .tnil))) (.jump 2 [(.tget 1 y18)] [(.cell 2 y15),(.cell 0 y15),(.cell 1 y15),(.cell 2 y15),(.cell 3 y15),(.cell 4 y15),(.cell 5 y15),(.cell 6 y15)]))),
 .ev (.bin .add .int y7 (ki 1))]
 (.jump 1 [y11,y10] [])) (.jump 0 [y8] []))))]
 (.ret (.tcons .tnil (.tcons y7 .tnil))))
theorem ku95:UOk Try.prog 95 .plain (wcg [1000036] false [] [] Try.f95) [true,true,true] u95:=UOk.plain Try.func95 (by kernel_rfl) (by kernel_rfl)

noncomputable def u116:U:=(ups [.ev (.ld false 1 y2 y1),
 .ev (.lenL y3),
 .ev (.bin .sub .int y4 (ki 1)),
 .join 0 1 (.loop 1 [y5,y2] (ups [.ev (.bin .geq .int y6 (ki 0))]
 (.ite y8 (ups [.join 2 1 (ups [.ev (.ld false 1 y7 y1),
 .ev (.eaddr 7 y9 y6),
 .ev (.ld true 7 y7 y10),
 .gen (.wcallv [] y0 y7 [y6,y11] [true]),
 .ev (.un .not (.tget 0 y12))]
 (.ite y13 (.ret (.tcons .tnil (.tcons (.tget 1 y12) .tnil))) (.jump 2 [(.tget 1 y12)] [(.tget 0 y12)]))),
 .ev (.bin .sub .int y6 (ki 1))]
 (.jump 1 [y10,y9] [])) (.jump 0 [y7] []))))]
 (.ret (.tcons .tnil (.tcons y6 .tnil))))
theorem ku116:UOk Try.prog 116 .plain (wcg [1000017] false [] [] Try.f116) [true,true] u116:=UOk.plain Try.func116 (by kernel_rfl) (by kernel_rfl)

noncomputable def u66:U:=(ups [.ev (.mkptr (.cons (.scal y1) .nil)),
 .wcall 24 y2 [y0] [true],
 .ev (.cons (.scal y0) (.cons (.scal y4) (.cons (.const (.agg [.snil])) .nil))),
 .ev (.newb 121 3 y5 (.aggN 3 y6)),
 .ev (.m4 .newm y7 .nil .nil .nil),
 .ev (.newb 136 1 y8 (.const (.agg [(.v (.map none))]))),
 .ev (.sto 1 y9 (.fstid y8) (.m4 .fstm y7 .nil .nil .nil)),
 .ev (.nn (.fstid y5)),
 .chk (.padd 1 y11),
 .ev (.ld false 1 y10 (.padd 1 y11)),
 .ev (.lenL y12),
 .join 0 3 (.loop 1 [(ki 0),y10] (ups [.ev (.bin .lss .int y14 y13)]
 (.ite y16 (ups [.join 2 1 (ups [.ev (.eaddr 7 y12 y14),
 .ev (.ld true 7 y15 y17),
 .chk (.aggN 7 y18),
 .ev (.ld false 1 y15 y3),
 .ev (.bin .leq .int (.cell 6 y18) y19),
 .join 3 1 (.ite y20 (ups [.ev (.ld false 1 y15 (.fstid y8)),
 .ev (.cons (.scal (.cell 0 y18)) (.cons (.scal (.cell 1 y18)) .nil)),
 .ev (.m4 (.get (.agg [0,0]) false) y15 y21 y22 (ki 0)),
 .ev (.bin .add .int y23 (ki 1)),
 .ev (.m4 (.entm (.agg [0,0])) y15 y21 y22 (ki 0)),
 .ev (.m4 .ents y25 y21 (.tget 1 (.m4 (.entv (.agg [0,0])) y15 y21 y22 (ki 0))) y24),
 .ev (.m4 .same (.m4 (.get (.agg [0,0]) false) y15 y21 y22 (ki 0)) (.m4 (.get (.agg [0,0]) false) y25 y21 y22 (ki 0)) .nil .nil)]
 (.jump 3 [y26] [])) (.jump 3 [y15] []))]
 (.jump 2 [y21] [(.cell 6 y18),(.cell 0 y18),(.cell 1 y18),(.cell 2 y18),(.cell 3 y18),(.cell 4 y18),(.cell 5 y18),(.cell 6 y18)])),
 .ev (.bin .add .int y14 (ki 1))]
 (.jump 1 [y18,y17] [])) (.jump 0 [y14,y16,y15] [])))),
 .ev (.m4 .newm y16 .nil .nil .nil),
 .ev (.newb 139 1 y17 (.const (.agg [(.v (.map none))]))),
 .ev (.sto 1 y18 (.fstid y17) (.m4 .fstm y16 .nil .nil .nil)),
 .ev (.nn (.fstid y5)),
 .chk (.padd 1 y20),
 .ev (.ld false 1 y19 (.padd 1 y20)),
 .wcall 91 y19 [y21] [true],
 .join 0 1 (ups [.rfor y22 y23 [0,1,3,4,5,6,9,16,17,18,19,20,21,22,23,24,25,26,27,28,46,47,48,49,50,51] [y0,y1,y3,(.const (.v (.pointer none))),(.fstid y5),(.fstid y8),(.fstid y17),y0,y0,y4,y6,(.fstid y5),(.m4 .fstm y7 .nil .nil .nil),(.fstid y5),y11,(.padd 1 y11),y12,y13,y14,y15,(.m4 .fstm y16 .nil .nil .nil),(.fstid y5),y20,(.padd 1 y20),y21,y22] 2 1 (ups [.ev (.newb 45 7 y24 (.const (.agg [(.v (.int .i64 0)),(.v (.int .i64 0)),(.v (.int .i64 0)),(.v (.int .i64 0)),(.v (.int .i64 0)),(.v (.int .i64 0)),(.v (.int .i64 0))]))),
 .ev (.sto 7 y27 (.fstid y24) y26),
 .join 2 1 (ups [.ev (.padd 0 (.fstid y24)),
 .ev (.ld false 1 y28 y29),
 .ev (.padd 1 (.fstid y24)),
 .ev (.ld false 1 y28 y31),
 .ev (.cons (.scal y30) (.cons (.scal y32) .nil)),
 .ev (.newb 138 2 y28 (.const (.agg [(.v (.int .i64 0)),(.v (.int .i64 0))]))),
 .ev (.sto 2 y34 (.fstid y28) y33),
 .ev (.padd 2 (.fstid y24)),
 .ev (.ld false 1 y35 y36),
 .ev (.bin .eql .int y37 (ki 4)),
 .chain false y38 (ups [.ev (.padd 6 (.fstid y24)),
 .ev (.ld false 1 y35 y39),
 .ev (.ld false 1 y35 y3),
 .ev (.bin .leq .int y40 y41)]
 (.ret y42)),
 .chain false y39 (ups [.ev (.ld false 1 y35 (.fstid y8)),
 .ev (.ld true 2 y35 (.fstid y28)),
 .ev (.m4 (.get (.agg [0,0]) false) y35 y40 y41 (ki 0)),
 .ev (.bin .eql .int y42 (ki 1))]
 (.ret y43)),
 .chain false y40 (ups [.ev (.ld false 1 y35 (.fstid y17)),
 .ev (.ld true 2 y35 (.fstid y28)),
 .ev (.m4 (.get (.agg [0,0]) false) y35 y41 y42 (kb false)),
 .ev (.un .not y43)]
 (.ret y44)),
 .join 3 1 (.ite y41 (ups [.ev (.ld false 1 y35 (.fstid y17)),
 .ev (.padd 0 (.fstid y24)),
 .ev (.ld false 1 y35 y43),
 .ev (.padd 3 (.fstid y24)),
 .ev (.ld false 1 y35 y45),
 .ev (.cons (.scal y44) (.cons (.scal y46) .nil)),
 .ev (.m4 (.put (.agg [0,0])) y35 y42 y47 (kb true))]
 (.jump 3 [y48] [])) (.jump 3 [y35] []))]
 (.jump 2 [y42] []))]
 (.jump 1 [y29] []))]
 (.jump 0 [y24] [])),
 .ev (.nn (.fstid y5)),
 .chk (.padd 1 y25),
 .ev (.ld false 1 y24 (.padd 1 y25)),
 .ev (.lenL y26),
 .join 0 1 (.loop 1 [(ki 0),y24] (ups [.ev (.bin .lss .int y28 y27)]
 (.ite y30 (ups [.join 2 1 (ups [.ev (.eaddr 7 y26 y28),
 .ev (.ld true 7 y29 y31),
 .chk (.aggN 7 y32),
 .ev (.cons (.scal (.cell 0 y32)) (.cons (.scal (.cell 1 y32)) .nil)),
 .chk (.aggN 2 y33),
 .ev (.ld false 1 y29 y3),
 .ev (.bin .leq .int (.cell 6 y32) y34),
 .chain false y35 (ups [.ev (.ld false 1 y29 (.fstid y8)),
 .ev (.m4 (.get (.agg [0,0]) false) y29 y36 (agc 2 y33) (ki 0)),
 .ev (.bin .eql .int y37 (ki 1))]
 (.ret y38)),
 .chain false y36 (ups [.ev (.ld false 1 y29 (.fstid y17)),
 .ev (.m4 (.get (.agg [0,0]) false) y29 y37 (agc 2 y33) (kb false)),
 .ev (.un .not y38)]
 (.ret y39)),
 .join 3 1 (.ite y37 (ups [.ev (.nn (.fstid y5)),
 .chk (.padd 2 y38),
 .ev (.ld false 1 y29 (.padd 2 y38)),
 .ev (.lcons (.scal y28) (.const (.lst []))),
 .ev (.apph 3 1 8 y29 y39 y40),
 .ev (.nn (.fstid y5)),
 .chk (.padd 2 y42),
 .ev (.sto 1 y41 (.padd 2 y42) (.apps y29 y39 y40))]
 (.jump 3 [y43] [])) (.jump 3 [y29] []))]
 (.jump 2 [y38] [(.cell 0 y32),(.cell 1 y32),(.cell 6 y32),(.cell 0 y32),(.cell 1 y32),(.cell 2 y32),(.cell 3 y32),(.cell 4 y32),(.cell 5 y32),(.cell 6 y32),(.cell 0 y33),(.cell 1 y33)])),
 .ev (.bin .add .int y28 (ki 1))]
 (.jump 1 [y32,y31] [])) (.jump 0 [y29] []))))]
 (.ret (.tcons (.fstid y5) (.tcons y28 .tnil))))
theorem ku66:UOk Try.prog 66 .plain (wcg [] true [20] [] Try.f66) [true,true] u66:=UOk.plain Try.func66 (by kernel_rfl) (by kernel_rfl)

noncomputable def u67:U:=(ups [.ev (.mkptr (.cons (.scal y0) .nil)),
 .ev (.ld false 1 y2 y3),
 .chk (.nn y4),
 .chk (.padd 0 y4),
 .ev (.ld false 1 y2 (.padd 0 y4)),
 .chk (.nn y5),
 .chk (.padd 0 y5),
 .chk (.padd 1 (.padd 0 y5)),
 .ev (.ld false 1 y2 (.padd 1 (.padd 0 y5))),
 .ev (.rep 24 y6 (.agg [(.v (.int .i64 0)),(.v (.int .i64 0)),(.v (.bool false)),(.v (.bool false)),(.v (.bool false)),(.v (.bool false))])),
 .ev (.ld false 1 y2 y3),
 .chk (.nn y8),
 .chk (.padd 0 y8),
 .ev (.ld false 1 y2 (.padd 0 y8)),
 .chk (.nn y9),
 .chk (.padd 0 y9),
 .chk (.padd 1 (.padd 0 y9)),
 .ev (.ld false 1 y2 (.padd 1 (.padd 0 y9))),
 .ev (.ld false 1 y2 y3),
 .chk (.nn y11),
 .chk (.padd 0 y11),
 .ev (.ld false 1 y2 (.padd 0 y11)),
 .chk (.nn y12),
 .chk (.padd 0 y12),
 .chk (.padd 1 (.padd 0 y12)),
 .ev (.ld false 1 y2 (.padd 1 (.padd 0 y12))),
 .ev (.rep 1 y13 (.v (.bool false))),
 .ev (.ld false 1 (.newb 1000000000 4 (.newv 1000000000 1 (.newv 1000000000 6 y2 y7) y14) (.cons (.fstsl y2 y7) (.cons (ki (-1)) (.cons y10 (.cons (.fstsl (.newv 1000000000 6 y2 y7) y14) .nil))))) (.mkptr (.cons (.fstid (.newv 1000000000 1 (.newv 1000000000 6 y2 y7) y14)) .nil))),
 .chk (.nn y15),
 .chk (.padd 0 y15),
 .ev (.ld false 1 (.newb 1000000000 4 (.newv 1000000000 1 (.newv 1000000000 6 y2 y7) y14) (.cons (.fstsl y2 y7) (.cons (ki (-1)) (.cons y10 (.cons (.fstsl (.newv 1000000000 6 y2 y7) y14) .nil))))) (.padd 0 y15)),
 .ev (.lenL y16),
 .join 0 3 (.loop 1 [(ki 0),(.newb 1000000000 4 (.newv 1000000000 1 (.newv 1000000000 6 y2 y7) y14) (.cons (.fstsl y2 y7) (.cons (ki (-1)) (.cons y10 (.cons (.fstsl (.newv 1000000000 6 y2 y7) y14) .nil)))))] (ups [.ev (.bin .lss .int y18 y17)]
 (.ite y20 (ups [.join 2 1 (ups [.ev (.ld false 1 y19 (.mkptr (.cons (.fstid (.newv 1000000000 1 (.newv 1000000000 6 y2 y7) y14)) .nil))),
 .chk (.nn y21),
 .chk (.padd 0 y21),
 .ev (.ld false 1 y19 (.padd 0 y21)),
 .ev (.ld false 1 y19 (.mkptr (.cons (.fstid (.newv 1000000000 1 (.newv 1000000000 6 y2 y7) y14)) .nil))),
 .chk (.nn y23),
 .chk (.padd 0 y23),
 .ev (.ld false 1 y19 (.padd 0 y23)),
 .ev (.eaddr 6 y22 y18),
 .chk (.padd 0 y25),
 .ev (.sto 1 y19 (.padd 0 y25) (ki (-10000000000000))),
 .ev (.eaddr 6 y24 y18),
 .chk (.padd 1 y27),
 .ev (.sto 1 y26 (.padd 1 y27) (ki 10000000000000))]
 (.jump 2 [y28] [])),
 .ev (.bin .add .int y18 (ki 1))]
 (.jump 1 [y22,y21] [])) (.jump 0 [y18,y20,y19] [])))),
 .ev (.ld false 1 y20 y3),
 .call 69 y20 [y21,y1] [true],
 .join 0 1 (ups [.rfor y22 y20 [0,1,2,5,7,16,17,18,19,20,21,22,23,24,25,26,27,28,29,30,31,32,33,34,35,36,37,38,39,40,41,43,44,45,46,47,48,49,50,68,69,70] [y0,y1,y3,(.mkptr (.cons (.fstid (.newv 1000000000 1 (.newv 1000000000 6 y2 y7) y14)) .nil)),(.mkptr (.cons (.const (.v .nilFunc)) (.cons (.const (.fn 92 [] [])) (.cons (.const (.fn 93 [] [])) (.cons (.const (.fn 94 [] [])) .nil))))),y4,y4,(.padd 0 y4),y5,y5,(.padd 0 y5),(.padd 1 (.padd 0 y5)),y6,(.fstsl y2 y7),y8,y8,(.padd 0 y8),y9,y9,(.padd 0 y9),(.padd 1 (.padd 0 y9)),y10,y11,y11,(.padd 0 y11),y12,y12,(.padd 0 y12),(.padd 1 (.padd 0 y12)),y13,(.fstsl (.newv 1000000000 6 y2 y7) y14),(.fstid (.newv 1000000000 1 (.newv 1000000000 6 y2 y7) y14)),y15,y15,(.padd 0 y15),y16,y17,y18,y19,y21,y1,y22] 2 1 (ups [.ev (.newb 45 7 y23 (.const (.agg [(.v (.int .i64 0)),(.v (.int .i64 0)),(.v (.int .i64 0)),(.v (.int .i64 0)),(.v (.int .i64 0)),(.v (.int .i64 0)),(.v (.int .i64 0))]))),
 .ev (.sto 7 y26 (.fstid y23) y25),
 .join 2 1 (ups [.ev (.ld false 1 y27 y3),
 .chk (.nn y28),
 .chk (.padd 0 y28),
 .ev (.ld false 1 y27 (.padd 0 y28)),
 .chk (.nn y29),
 .chk (.padd 3 y29),
 .ev (.ld false 1 y27 (.padd 3 y29)),
 .ev (.padd 0 (.fstid y23)),
 .ev (.ld false 1 y27 y31),
 .ev (.eaddr 2 y30 y32),
 .ev (.ld true 2 y27 y33),
 .ev (.newb 76 2 y27 (.const (.agg [(.v (.int .i64 0)),(.v (.int .i64 0))]))),
 .ev (.sto 2 y35 (.fstid y27) y34),
 .ev (.m4 .same (.ld false 1 y27 y3) (.ld false 1 y35 y3) .nil .nil),
 .ev (.m4 .same (.ld false 1 y27 (.padd 0 y28)) (.ld false 1 y35 (.padd 0 y28)) .nil .nil),
 .ev (.m4 .same (.ld false 1 y27 (.padd 3 y29)) (.ld false 1 y35 (.padd 3 y29)) .nil .nil),
 .ev (.m4 .same (.ld false 1 y27 y31) (.ld false 1 y35 y31) .nil .nil),
 .ev (.m4 .same (.ld true 2 y27 y33) (.ld true 2 y35 y33) .nil .nil),
 .ev (.padd 2 (.fstid y23)),
 .ev (.ld false 1 y36 y42),
 .ev (.m4 (.elemA 4 1) (.mkptr (.cons (.const (.v .nilFunc)) (.cons (.const (.fn 92 [] [])) (.cons (.const (.fn 93 [] [])) (.cons (.const (.fn 94 [] [])) .nil))))) y43 .nil .nil),
 .ev (.ld false 1 y36 y44),
 .ev (.ld false 1 y36 (.mkptr (.cons (.fstid (.newv 1000000000 1 (.newv 1000000000 6 y2 y7) y14)) .nil))),
 .ev (.ld true 7 y36 (.fstid y23)),
 .ev (.padd 1 (.fstid y27)),
 .ev (.ld false 1 y36 y48),
 .ev (.padd 0 (.fstid y27)),
 .ev (.ld false 1 y36 y50),
 .gen (.wcallv [] y45 y36 [y46,y47,y49,y51] [])]
 (.jump 2 [(.tget 1 y52)] []))]
 (.jump 1 [y28] []))]
 (.jump 0 [y23] [])),
 .ev (.ld false 1 y23 (.mkptr (.cons (.fstid (.newv 1000000000 1 (.newv 1000000000 6 y2 y7) y14)) .nil))),
 .chk (.nn y24),
 .chk (.padd 0 y24),
 .ev (.ld false 1 y23 (.padd 0 y24)),
 .join 0 1 (.loop 1 [(ki 1),y23] (ups [.ev (.ld false 1 y27 y3),
 .chk (.nn y28),
 .chk (.padd 0 y28),
 .ev (.ld false 1 y27 (.padd 0 y28)),
 .chk (.nn y29),
 .chk (.padd 0 y29),
 .chk (.padd 1 (.padd 0 y29)),
 .ev (.ld false 1 y27 (.padd 1 (.padd 0 y29))),
 .ev (.bin .lss .int y26 y30)]
 (.ite y31 (ups [.join 2 1 (ups [.ev (.eaddr 6 y25 y26),
 .chk (.padd 0 y32),
 .ev (.ld false 1 y27 (.padd 0 y32)),
 .ev (.bin .sub .int y26 (ki 1)),
 .ev (.eaddr 6 y25 y34),
 .chk (.padd 0 y35),
 .ev (.ld false 1 y27 (.padd 0 y35)),
 .ev (.ld false 1 y27 y3),
 .chk (.nn y37),
 .chk (.padd 0 y37),
 .ev (.ld false 1 y27 (.padd 0 y37)),
 .chk (.nn y38),
 .chk (.padd 0 y38),
 .chk (.padd 2 (.padd 0 y38)),
 .ev (.ld false 1 y27 (.padd 2 (.padd 0 y38))),
 .ev (.bin .sub .int y26 (ki 1)),
 .ev (.eaddr 1 y39 y40),
 .ev (.ld false 1 y27 y41),
 .ev (.bin .add .int y36 y42),
 .ev (.mm true y33 y43),
 .ev (.eaddr 6 y25 y26),
 .chk (.padd 0 y45),
 .ev (.sto 1 y27 (.padd 0 y45) y44)]
 (.jump 2 [y46] [])),
 .ev (.bin .add .int y26 (ki 1))]
 (.jump 1 [y33,y32] [])) (.jump 0 [y27] [])))),
 .ev (.ld false 1 y26 y3),
 .chk (.nn y27),
 .chk (.padd 0 y27),
 .ev (.ld false 1 y26 (.padd 0 y27)),
 .chk (.nn y28),
 .chk (.padd 0 y28),
 .chk (.padd 1 (.padd 0 y28)),
 .ev (.ld false 1 y26 (.padd 1 (.padd 0 y28))),
 .ev (.bin .sub .int y29 (ki 2)),
 .join 0 1 (.loop 1 [y30,y26] (ups [.ev (.bin .geq .int y31 (ki 0))]
 (.ite y33 (ups [.join 2 1 (ups [.ev (.eaddr 6 y25 y31),
 .chk (.padd 1 y34),
 .ev (.ld false 1 y32 (.padd 1 y34)),
 .ev (.bin .add .int y31 (ki 1)),
 .ev (.eaddr 6 y25 y36),
 .chk (.padd 1 y37),
 .ev (.ld false 1 y32 (.padd 1 y37)),
 .ev (.ld false 1 y32 y3),
 .chk (.nn y39),
 .chk (.padd 0 y39),
 .ev (.ld false 1 y32 (.padd 0 y39)),
 .chk (.nn y40),
 .chk (.padd 0 y40),
 .chk (.padd 2 (.padd 0 y40)),
 .ev (.ld false 1 y32 (.padd 2 (.padd 0 y40))),
 .ev (.eaddr 1 y41 y31),
 .ev (.ld false 1 y32 y42),
 .ev (.bin .sub .int y38 y43),
 .ev (.mm false y35 y44),
 .ev (.eaddr 6 y25 y31),
 .chk (.padd 1 y46),
 .ev (.sto 1 y32 (.padd 1 y46) y45)]
 (.jump 2 [y47] [])),
 .ev (.bin .sub .int y31 (ki 1))]
 (.jump 1 [y35,y34] [])) (.jump 0 [y32] [])))),
 .ev (.lenL y25),
 .join 0 1 (.loop 1 [(ki 0),y31] (ups [.ev (.bin .lss .int y33 y32)]
 (.ite y35 (ups [.join 2 1 (ups [.ev (.eaddr 6 y25 y33),
 .ev (.ld false 1 y34 (.mkptr (.cons (.fstid (.newv 1000000000 1 (.newv 1000000000 6 y2 y7) y14)) .nil))),
 .chk (.nn y37),
 .chk (.padd 1 y37),
 .ev (.ld false 1 y34 (.padd 1 y37)),
 .ev (.bin .leq .int y33 y38),
 .chk (.nn y36),
 .chk (.padd 2 y36),
 .ev (.sto 1 y34 (.padd 2 y36) y39),
 .ev (.ld false 1 y40 (.mkptr (.cons (.fstid (.newv 1000000000 1 (.newv 1000000000 6 y2 y7) y14)) .nil))),
 .chk (.nn y41),
 .chk (.padd 2 y41),
 .ev (.ld false 1 y40 (.padd 2 y41)),
 .ev (.bin .eql .int y33 y42),
 .chk (.nn y36),
 .chk (.padd 3 y36),
 .ev (.sto 1 y40 (.padd 3 y36) y43),
 .chk (.nn y36),
 .chk (.padd 0 y36),
 .ev (.ld false 1 y44 (.padd 0 y36)),
 .chk (.nn y36),
 .chk (.padd 1 y36),
 .ev (.ld false 1 y44 (.padd 1 y36)),
 .ev (.bin .gtr .int y45 y46),
 .chain true y47 (ups [.chk (.nn y36),
 .chk (.padd 2 y36),
 .ev (.ld false 1 y44 (.padd 2 y36)),
 .chain false y48 (ups [.ev (.ld false 1 y44 (.mkptr (.cons (.fstid (.newv 1000000000 1 (.newv 1000000000 6 y2 y7) y14)) .nil))),
 .chk (.nn y49),
 .chk (.padd 2 y49),
 .ev (.ld false 1 y44 (.padd 2 y49)),
 .ev (.bin .lss .int y50 y33)]
 (.ret y51))]
 (.ret y49)),
 .chk (.nn y36),
 .chk (.padd 5 y36),
 .ev (.sto 1 y44 (.padd 5 y36) y48),
 .chk (.nn y36),
 .chk (.padd 2 y36),
 .ev (.ld false 1 y49 (.padd 2 y36)),
 .chain false y50 (ups [.ev (.ld false 1 y49 (.mkptr (.cons (.fstid (.newv 1000000000 1 (.newv 1000000000 6 y2 y7) y14)) .nil))),
 .chk (.nn y51),
 .chk (.padd 3 y51),
 .ev (.ld false 1 y49 (.padd 3 y51)),
 .ev (.eaddr 1 y52 y33),
 .ev (.ld false 1 y49 y53),
 .ev (.un .not y54)]
 (.ret y55)),
 .chain true y51 (ups [.chk (.nn y36),
 .chk (.padd 5 y36),
 .ev (.ld false 1 y49 (.padd 5 y36))]
 (.ret y52)),
 .chk (.nn y36),
 .chk (.padd 4 y36),
 .ev (.sto 1 y49 (.padd 4 y36) y52)]
 (.jump 2 [y53] [])),
 .ev (.bin .add .int y33 (ki 1))]
 (.jump 1 [y37,y36] [])) (.jump 0 [y34] []))))]
 (.ret (.tcons y25 (.tcons y33 .tnil))))
theorem ku67:UOk Try.prog 67 .plain (wcg [1000094] false [] [(2,1000024),(2,1000041),(2,1000043),(2,5),(8,7)] Try.f67) [true,true] u67:=UOk.plain Try.func67 (by kernel_rfl) (by kernel_rfl)

end Go.Am.Wr

/-
 Reports in order,each one once: what a map of them gives when it is sorted is what inserting gives.
-/
namespace Go.Am.Wr

structure Rep where
 source:Int
 number:Int
 kind:Int
 car:Int
 place:Int
 time:Int
 arrived:Int
deriving DecidableEq

def key (r:Rep):List Int:=[r.source,r.number,r.kind,r.car,r.place,r.time]
def plainR (r:Rep):Rep:={ r with arrived:=0 }
def setA (r:Rep)(a:Int):Rep:={ r with arrived:=a }

def lx:List Int→List Int→Bool
 | [],[]=>false
 | [],_ :: _=>true
 | _ :: _,[]=>false
 | x :: xs,y :: ys=>if x=y then lx xs ys else decide (x<y)

theorem lx_irr:∀xs:List Int,lx xs xs=false
 | []=>rfl
 | x :: xs=>by simp[lx,lx_irr xs]

theorem lx_trans:∀{xs ys zs:List Int},lx xs ys=true→lx ys zs=true→lx xs zs=true
 | [],[],_,h,_=>by simp[lx] at h
 | [],_ :: _,[],_,h=>by simp[lx] at h
 | [],_ :: _,_ :: _,_,_=>rfl
 | _ :: _,[],_,h,_=>by simp[lx] at h
 | _ :: _,_ :: _,[],_,h=>by simp[lx] at h
 | x :: xs,y :: ys,z :: zs,h1,h2=>by
  simp only[lx] at h1 h2 ⊢
  by_cases e1:x=y
  ·rw[if_pos e1] at h1
   by_cases e2:y=z
   ·rw[if_pos e2] at h2
    rw[if_pos (e1.trans e2)]
    exact lx_trans h1 h2
   ·rw[if_neg e2] at h2
    rw[if_neg (by omega)]
    simp at h2 ⊢
    omega
  ·rw[if_neg e1] at h1
   simp at h1
   by_cases e2:y=z
   ·rw[if_neg (by omega)]
    simp
    omega
   ·rw[if_neg e2] at h2
    simp at h2
    rw[if_neg (by omega)]
    simp
    omega

theorem lx_tot:∀{xs ys:List Int},xs.length=ys.length→lx xs ys=false→lx ys xs=false→xs=ys
 | [],[],_,_,_=>rfl
 | [],_ :: _,h,_,_=>by simp at h
 | _ :: _,[],h,_,_=>by simp at h
 | x :: xs,y :: ys,hl,h1,h2=>by
  simp only[lx] at h1 h2
  by_cases e:x=y
  ·subst e
   simp at h1 h2
   rw[lx_tot (by simpa using hl) h1 h2]
  ·rw[if_neg e] at h1
   rw[if_neg (by omega)] at h2
   simp at h1 h2
   omega

def before (a b:Rep):Bool:=lx (key a) (key b)

theorem before_irr (a:Rep):before a a=false:=lx_irr _
theorem before_trans {a b d:Rep}(h1:before a b=true)(h2:before b d=true):before a d=true:=lx_trans h1 h2
theorem before_asym {a b:Rep}(h:before a b=true):before b a=false:=by
 cases e:before b a
 ·rfl
 ·have:=before_trans h e
  rw[before_irr] at this
  cases this
theorem key_of_not {a b:Rep}(h1:before a b=false)(h2:before b a=false):key a=key b:=lx_tot rfl h1 h2
theorem not_of_key {a b:Rep}(h:key a=key b):before a b=false:=by
 unfold before
 rw[h]
 exact lx_irr _

theorem rep_ext {a b:Rep}(h:key a=key b)(h2:a.arrived=b.arrived):a=b:=by
 cases a
 cases b
 simp[key] at h h2 ⊢
 exact⟨h.1,h.2.1,h.2.2.1,h.2.2.2.1,h.2.2.2.2.1,h.2.2.2.2.2,h2⟩

theorem key_set (r:Rep)(a:Int):key (setA r a)=key r:=rfl
theorem plain_iff {a b:Rep}:plainR a=plainR b↔key a=key b:=by
 constructor
 ·intro h
  have:=congrArg key h
  exact this
 ·intro h
  exact rep_ext h rfl

def ins (r:Rep):List Rep→List Rep
 | []=>[r]
 | x :: xs=>if before x r=true then x :: ins r xs else if key x=key r then setA x (min x.arrived r.arrived) :: xs else r :: x :: xs

def logR (l:List Rep):List Rep:=l.foldl (fun o r=>ins r o) []

abbrev Ord (o:List Rep):Prop:=o.Pairwise fun a b=>before a b=true

theorem before_key {a b d:Rep}(h:key a=key b):before a d=before b d:=by unfold before;rw[h]
theorem before_key2 {a b d:Rep}(h:key a=key b):before d a=before d b:=by unfold before;rw[h]

theorem mem_ins {r:Rep}:∀{o:List Rep},Ord o→∀x,x∈ins r o↔(x∈o∧key x≠key r)∨((∃y,y∈o∧key y=key r∧x=setA y (min y.arrived r.arrived))∨((∀y,y∈o→key y≠key r)∧x=r))
 | [],_,x=>by simp[ins]
 | z :: o,h,x=>by
  rw[Ord,List.pairwise_cons] at h
  unfold ins
  by_cases hb:before z r=true
  ·have hk:key z≠key r:=fun e=>by rw[not_of_key e] at hb;cases hb
   rw[if_pos hb,List.mem_cons,mem_ins h.2]
   constructor
   ·rintro(rfl | h1 | ⟨y,h1,h2,h3⟩ | ⟨h1,h2⟩)
    ·exact .inl ⟨List.mem_cons_self,hk⟩
    ·exact .inl ⟨List.mem_cons_of_mem _ h1.1,h1.2⟩
    ·exact .inr (.inl ⟨y,List.mem_cons_of_mem _ h1,h2,h3⟩)
    ·refine .inr (.inr ⟨fun y hy=>?_,h2⟩)
     rcases List.mem_cons.1 hy with rfl | hy
     ·exact hk
     ·exact h1 y hy
   ·rintro(⟨h1,h2⟩ | ⟨y,h1,h2,h3⟩ | ⟨h1,h2⟩)
    ·rcases List.mem_cons.1 h1 with rfl | h1
     ·exact .inl rfl
     ·exact .inr (.inl ⟨h1,h2⟩)
    ·rcases List.mem_cons.1 h1 with rfl | h1
     ·exact absurd h2 hk
     ·exact .inr (.inr (.inl ⟨y,h1,h2,h3⟩))
    ·exact .inr (.inr (.inr ⟨fun y hy=>h1 y (List.mem_cons_of_mem _ hy),h2⟩))
  ·rw[if_neg hb]
   by_cases hk:key z=key r
   ·have hn:∀y,y∈o→key y≠key r:=fun y hy e=>by
     have:=h.1 y hy
     rw[before_key2 (e.trans hk.symm),before_irr] at this
     cases this
    rw[if_pos hk,List.mem_cons]
    constructor
    ·rintro(rfl | h1)
     ·exact .inr (.inl ⟨z,List.mem_cons_self,hk,rfl⟩)
     ·exact .inl ⟨List.mem_cons_of_mem _ h1,hn x h1⟩
    ·rintro(⟨h1,h2⟩ | ⟨y,h1,h2,h3⟩ | ⟨h1,h2⟩)
     ·rcases List.mem_cons.1 h1 with rfl | h1
      ·exact absurd hk h2
      ·exact .inr h1
     ·rcases List.mem_cons.1 h1 with rfl | h1
      ·exact .inl h3
      ·exact absurd h2 (hn y h1)
     ·exact absurd hk (h1 z List.mem_cons_self)
   ·have hzr:before r z=true:=by
     cases e:before r z
     ·exact absurd (key_of_not (by simpa using hb) e) hk
     ·rfl
    have hn:∀y,y∈z :: o→key y≠key r:=fun y hy e=>by
     rcases List.mem_cons.1 hy with rfl | hy
     ·exact hk e
     ·have h1:=h.1 y hy
      rw[before_key2 e] at h1
      exact absurd h1 (by simpa using hb)
    rw[if_neg hk,List.mem_cons]
    constructor
    ·rintro(rfl | h1)
     ·exact .inr (.inr ⟨hn,rfl⟩)
     ·exact .inl ⟨h1,hn x h1⟩
    ·rintro(⟨h1,_⟩ | ⟨y,h1,h2,_⟩ | ⟨_,h2⟩)
     ·exact .inr h1
     ·exact absurd h2 (hn y h1)
     ·exact .inl h2

theorem ord_ins {r:Rep}:∀{o:List Rep},Ord o→Ord (ins r o)
 | [],_=>by simp[ins]
 | z :: o,h=>by
  have h':=h
  rw[Ord,List.pairwise_cons] at h
  unfold ins
  by_cases hb:before z r=true
  ·rw[if_pos hb,Ord,List.pairwise_cons]
   refine⟨fun x hx=>?_,ord_ins h.2⟩
   rcases(mem_ins h.2 x).1 hx with⟨h1,_⟩ | ⟨y,h1,_,rfl⟩ | ⟨_,rfl⟩
   ·exact h.1 x h1
   ·rw[before_key2 (key_set y _)];exact h.1 y h1
   ·exact hb
  ·rw[if_neg hb]
   by_cases hk:key z=key r
   ·rw[if_pos hk,Ord,List.pairwise_cons]
    exact⟨fun x hx=>by rw[before_key (key_set z _)];exact h.1 x hx,h.2⟩
   ·have hzr:before r z=true:=by
     cases e:before r z
     ·exact absurd (key_of_not (by simpa using hb) e) hk
     ·rfl
    rw[if_neg hk,Ord,List.pairwise_cons]
    refine⟨fun x hx=>?_,h'⟩
    rcases List.mem_cons.1 hx with rfl | hx
    ·exact hzr
    ·exact before_trans hzr (h.1 x hx)

def put (m:List (Rep×Int))(r:Rep):List (Rep×Int):=
 if m.any (fun e=>decide (e.1=plainR r))=true then m.map fun e=>if e.1=plainR r∧r.arrived<e.2 then(e.1,r.arrived) else e
 else m++[(plainR r,r.arrived)]

def repOf (e:Rep×Int):Rep:=setA e.1 e.2

structure MapOk (m:List (Rep×Int)):Prop where
 pl:∀e,e∈m→plainR e.1=e.1
 nd:m.Pairwise fun a b=>a.1≠b.1

theorem MapOk.inj {m:List (Rep×Int)}(h:MapOk m){a b:Rep×Int}(ha:a∈m)(hb:b∈m)(he:a.1=b.1):a=b:=by
 obtain⟨i,hi,rfl⟩:=List.mem_iff_getElem.1 ha
 obtain⟨j,hj,rfl⟩:=List.mem_iff_getElem.1 hb
 rcases Nat.lt_trichotomy i j with h1 | h1 | h1
 ·exact absurd he (List.pairwise_iff_getElem.1 h.nd i j hi hj h1)
 ·subst h1;rfl
 ·exact absurd he.symm (List.pairwise_iff_getElem.1 h.nd j i hj hi h1)

theorem put_len_has {m:List (Rep×Int)}{r:Rep}(h:m.any (fun e=>decide (e.1=plainR r))=true):(put m r).length=m.length:=by
 unfold put
 rw[if_pos h,List.length_map]
theorem put_len_new {m:List (Rep×Int)}{r:Rep}(h:m.any (fun e=>decide (e.1=plainR r))=false):(put m r).length=m.length+1:=by
 unfold put
 rw[if_neg (by rw[h];simp),List.length_append]
 rfl

theorem put_ok {m:List (Rep×Int)}(h:MapOk m)(r:Rep):MapOk (put m r):=by
 unfold put
 split
 ·refine⟨fun e he=>?_,?_⟩
  ·obtain⟨e',h1,rfl⟩:=List.mem_map.1 he
   split
   ·exact h.pl e' h1
   ·exact h.pl e' h1
  ·rw[List.pairwise_map]
   refine h.nd.imp fun {a b} hab=>?_
   have key:∀e:Rep×Int,(if e.1=plainR r∧r.arrived<e.2 then(e.1,r.arrived) else e).1=e.1:=fun e=>by split <;> rfl
   rw[key,key]
   exact hab
 ·rename_i hn
  refine⟨fun e he=>?_,?_⟩
  ·rcases List.mem_append.1 he with he | he
   ·exact h.pl e he
   ·rw[List.mem_singleton] at he
    subst he
    rfl
  ·rw[List.pairwise_append]
   refine⟨h.nd,by simp,fun a ha b hb=>?_⟩
   rw[List.mem_singleton] at hb
   subst hb
   intro e
   refine hn (List.any_eq_true.2 ⟨a,ha,?_⟩)
   simpa using e

theorem key_plain (r:Rep):key (plainR r)=key r:=rfl
theorem key_rep (e:Rep×Int):key (repOf e)=key e.1:=rfl

theorem mem_put {m:List (Rep×Int)}(h:MapOk m)(r:Rep)(x:Rep) :
  x∈(put m r).map repOf↔(x∈m.map repOf∧key x≠key r)∨((∃y,y∈m.map repOf∧key y=key r∧x=setA y (min y.arrived r.arrived))∨((∀y,y∈m.map repOf→key y≠key r)∧x=r)):=by
 have hk:∀e:Rep×Int,e∈m→(e.1=plainR r↔key (repOf e)=key r):=fun e he=>by
  rw[key_rep]
  constructor
  ·intro h1;rw[h1];rfl
  ·intro h1;rw[←h.pl e he,plain_iff];exact h1
 unfold put
 split
 ·rename_i ha
  rw[List.any_eq_true] at ha
  obtain⟨e0,he0,hk0⟩:=ha
  have hk0:e0.1=plainR r:=by simpa using hk0
  have hk0':=(hk e0 he0).1 hk0
  constructor
  ·intro hx
   rw[List.map_map,List.mem_map] at hx
   obtain⟨e,he,rfl⟩:=hx
   by_cases h1:e.1=plainR r
   ·right;left
    refine⟨repOf e,List.mem_map_of_mem he,(hk e he).1 h1,?_⟩
    show repOf (if e.1=plainR r∧r.arrived<e.2 then(e.1,r.arrived) else e)=setA (repOf e) (min e.2 r.arrived)
    split
    ·rename_i h2
     rw[Int.min_eq_right (Int.le_of_lt h2.2)]
     rfl
    ·rename_i h2
     rw[Int.min_eq_left (by
      rcases Int.lt_or_le r.arrived e.2 with h3 | h3
      ·exact absurd ⟨h1,h3⟩ h2
      ·exact h3)]
     rfl
   ·left
    have e2:(if e.1=plainR r∧r.arrived<e.2 then(e.1,r.arrived) else e)=e:=if_neg fun h2=>h1 h2.1
    show repOf (if e.1=plainR r∧r.arrived<e.2 then(e.1,r.arrived) else e)∈_∧key (repOf (if e.1=plainR r∧r.arrived<e.2 then(e.1,r.arrived) else e))≠_
    rw[e2]
    exact⟨List.mem_map_of_mem he,fun h3=>h1 ((hk e he).2 h3)⟩
  ·rintro(⟨h1,h2⟩ | ⟨y,h1,h2,rfl⟩ | ⟨h1,_⟩)
   ·obtain⟨e,he,rfl⟩:=List.mem_map.1 h1
    have e2:(if e.1=plainR r∧r.arrived<e.2 then(e.1,r.arrived) else e)=e:=if_neg fun h3=>h2 ((hk e he).1 h3.1)
    rw[List.map_map,List.mem_map]
    exact⟨e,he,by show repOf (if e.1=plainR r∧r.arrived<e.2 then(e.1,r.arrived) else e)=repOf e;rw[e2]⟩
   ·obtain⟨e,he,rfl⟩:=List.mem_map.1 h1
    have h1':=(hk e he).2 h2
    rw[List.map_map,List.mem_map]
    refine⟨e,he,?_⟩
    show repOf (if e.1=plainR r∧r.arrived<e.2 then(e.1,r.arrived) else e)=setA (repOf e) (min e.2 r.arrived)
    split
    ·rename_i h2
     rw[Int.min_eq_right (Int.le_of_lt h2.2)]
     rfl
    ·rename_i h2
     rw[Int.min_eq_left (by
      rcases Int.lt_or_le r.arrived e.2 with h3 | h3
      ·exact absurd ⟨h1',h3⟩ h2
      ·exact h3)]
     rfl
   ·exact absurd hk0' (h1 _ (List.mem_map_of_mem he0))
 ·rename_i ha
  have hn:∀y,y∈m.map repOf→key y≠key r:=fun y hy e=>by
   obtain⟨e',he,rfl⟩:=List.mem_map.1 hy
   exact ha (List.any_eq_true.2 ⟨e',he,by simpa using(hk e' he).2 e⟩)
  rw[List.map_append,List.mem_append]
  constructor
  ·rintro(h1 | h1)
   ·exact .inl ⟨h1,hn x h1⟩
   ·have:x=r:=by simpa[repOf,setA,plainR] using h1
    exact .inr (.inr ⟨hn,this⟩)
  ·rintro(⟨h1,_⟩ | ⟨y,h1,h2,_⟩ | ⟨_,rfl⟩)
   ·exact .inl h1
   ·exact absurd h2 (hn y h1)
   ·exact .inr (by simp[repOf,setA,plainR])

theorem ord_ext:∀{a b:List Rep},Ord a→Ord b→(∀x,x∈a↔x∈b)→a=b
 | [],[],_,_,_=>rfl
 | [],y :: b,_,_,h=>by have:=(h y).2 List.mem_cons_self;cases this
 | x :: a,[],_,_,h=>by have:=(h x).1 List.mem_cons_self;cases this
 | x :: a,y :: b,ha,hb,h=>by
  rw[Ord,List.pairwise_cons] at ha hb
  have e:x=y:=by
   rcases List.mem_cons.1 ((h x).1 List.mem_cons_self) with h1 | h1
   ·exact h1
   ·rcases List.mem_cons.1 ((h y).2 List.mem_cons_self) with h2 | h2
    ·exact h2.symm
    ·have:=before_asym (hb.1 x h1)
     rw[ha.1 y h2] at this
     cases this
  subst e
  rw[ord_ext ha.2 hb.2 fun z=>?_]
  constructor
  ·intro hz
   rcases List.mem_cons.1 ((h z).1 (List.mem_cons_of_mem _ hz)) with rfl | h1
   ·have:=ha.1 z hz;rw[before_irr] at this;cases this
   ·exact h1
  ·intro hz
   rcases List.mem_cons.1 ((h z).2 (List.mem_cons_of_mem _ hz)) with rfl | h1
   ·have:=hb.1 z hz;rw[before_irr] at this;cases this
   ·exact h1

theorem fold_same:∀(l:List Rep) (m:List (Rep×Int)) (o:List Rep),MapOk m→Ord o→(∀x,x∈m.map repOf↔x∈o) →
  MapOk (l.foldl put m)∧Ord (l.foldl (fun o r=>ins r o) o)∧∀x,x∈(l.foldl put m).map repOf↔x∈l.foldl (fun o r=>ins r o) o
 | [],m,o,h1,h2,h3=>⟨h1,h2,h3⟩
 | r :: l,m,o,h1,h2,h3=>by
  refine fold_same l (put m r) (ins r o) (put_ok h1 r) (ord_ins h2) fun x=>?_
  rw[mem_put h1,mem_ins h2]
  simp only[h3]

theorem map_nil:MapOk [] where
 pl:=fun e h=>(by cases h)
 nd:=List.Pairwise.nil

theorem sorted_log {l s:List Rep}(hp:∀x,x∈s↔x∈(l.foldl put []).map repOf)(hs:Ord s):s=logR l:=by
 obtain⟨_,h2,h3⟩:=fold_same l [] [] map_nil List.Pairwise.nil fun x=>by simp
 exact ord_ext hs h2 fun x=>(hp x).trans (h3 x)

end Go.Am.Wr

/-
 Which reports count: the two ways of finding it agree.
-/
namespace Go.Am.Wr

def there (t:Int)(r:Rep):Bool:=decide (r.arrived≤t)
def named (W:List Rep)(t s n:Int):Nat:=(W.filter fun r=>there t r&&(r.source==s&&r.number==n)).length
def sureB (W:List Rep)(t:Int)(r:Rep):Bool:=there t r&&named W t r.source r.number==1

def vs (W:List Rep)(t:Int):List Rep→List (Int×Int)
 | []=>[]
 | r :: l=>if r.kind=4∧sureB W t r=true∧(vs W t l).contains (r.source,r.number)=false then(r.source,r.car) :: vs W t l else vs W t l

def pB (W:List Rep)(t:Int)(r:Rep):Bool:=sureB W t r&&!(vs W t W).contains (r.source,r.number)

def anyV (l:List Rep)(bs:List Bool)(s n:Int):Bool:=(l.zip bs).any fun p=>p.2&&(p.1.source==s&&(p.1.kind==4&&p.1.car==n))

def cl (W:List Rep)(t:Int):List Rep→List Bool
 | []=>[]
 | r :: l=>(sureB W t r&&!anyV l (cl W t l) r.source r.number) :: cl W t l

theorem cl_len (W:List Rep)(t:Int):∀l,(cl W t l).length=l.length
 | []=>rfl
 | r :: l=>by simp[cl,cl_len W t l]

theorem vs_any (W:List Rep)(t:Int)(s n:Int):∀l,(vs W t l).contains (s,n)=anyV l (cl W t l) s n
 | []=>rfl
 | r :: l=>by
  have ih:=vs_any W t s n l
  have ih2:=vs_any W t r.source r.number l
  unfold vs
  have e:anyV (r :: l) (cl W t (r :: l)) s n=((sureB W t r&&!anyV l (cl W t l) r.source r.number)&&(r.source==s&&(r.kind==4&&r.car==n))||anyV l (cl W t l) s n):=by
   simp[anyV,cl]
  rw[e,←ih,←ih2]
  by_cases h4:r.kind=4
  ·cases hs:sureB W t r
   ·simp[h4]
   ·cases hc:(vs W t l).contains (r.source,r.number)
    ·simp only[h4,true_and,if_true,List.contains_cons]
     congr 1
     rw[Bool.eq_iff_iff]
     simp[Prod.ext_iff]
     constructor
     ·rintro⟨rfl,rfl⟩;exact⟨rfl,rfl⟩
     ·rintro⟨rfl,rfl⟩;exact⟨rfl,rfl⟩
    ·simp
  ·simp[h4]

def Low (W:List Rep):Prop:=∀r,r∈W→r.kind=4→r.car<r.number

theorem before_num {a b:Rep}(h:before a b=true)(hs:a.source=b.source):a.number≤b.number:=by
 unfold before key lx at h
 rw[if_pos hs] at h
 unfold lx at h
 split at h
 ·omega
 ·simp at h
  omega

theorem vs_pre (W:List Rep)(t:Int)(r:Rep)(rest:List Rep):∀pre:List Rep,(∀p,p∈pre→before p r=true)→Low (pre++r :: rest)→(vs W t (pre++r :: rest)).contains (r.source,r.number)=(vs W t rest).contains (r.source,r.number)
 | [],_,hl=>by
  rw[List.nil_append,vs]
  split
  ·rename_i h
   have:=hl r (by simp) h.1
   rw[List.contains_cons]
   have:((r.source,r.number)==(r.source,r.car))=false:=by
    simp
    omega
   rw[this,Bool.false_or]
  ·rfl
 | p :: pre,hb,hl=>by
  have ih:=vs_pre W t r rest pre (fun q hq=>hb q (List.mem_cons_of_mem _ hq)) fun q hq=>hl q (by simp at hq ⊢;exact .inr hq)
  rw[←ih,List.cons_append]
  rw[vs]
  split
  ·rename_i h
   have h1:=hl p (by simp) h.1
   rw[List.contains_cons]
   have:((r.source,r.number)==(p.source,p.car))=false:=by
    by_cases e:p.source=r.source
    ·have:=before_num (hb p List.mem_cons_self) e
     simp
     omega
    ·simp
     intro h2
     exact absurd h2.symm e
   rw[this,Bool.false_or]
  ·rfl

theorem cl_drop (W:List Rep)(t:Int):∀(l:List Rep) (i:Nat),i<l.length→(cl W t l)[i]? = (l[i]?).map fun r=>sureB W t r&&!(vs W t (l.drop (i+1))).contains (r.source,r.number)
 | [],i,h=>absurd h (Nat.not_lt_zero _)
 | r :: l,0,_=>by simp only[cl,List.getElem?_cons_zero,Option.map_some,Nat.zero_add,List.drop_succ_cons,List.drop_zero,vs_any]
 | r :: l,i+1,h=>by
  simp only[cl,List.getElem?_cons_succ,List.drop_succ_cons]
  exact cl_drop W t l i (by simpa using h)

theorem cl_eq {W:List Rep}(ho:Ord W)(hl:Low W)(t:Int):cl W t W=W.map (pB W t):=by
 refine List.ext_getElem? fun i=>?_
 rcases Nat.lt_or_ge i W.length with h | h
 ·rw[cl_drop W t W i h,List.getElem?_map,List.getElem?_eq_getElem h]
  simp only[Option.map_some]
  unfold pB
  have e:W=W.take i++W[i] :: W.drop (i+1):=by rw[←List.drop_eq_getElem_cons h,List.take_append_drop]
  have:=vs_pre W t W[i] (W.drop (i+1)) (W.take i) (fun p hp=>?_) (by rw[←e];exact hl)
  ·rw[←this,←e]
  ·obtain⟨k,hk,rfl⟩:=List.mem_iff_getElem.1 hp
   rw[List.length_take] at hk
   rw[List.getElem_take]
   exact List.pairwise_iff_getElem.1 ho k i (by omega) h (by omega)
 ·rw[List.getElem?_eq_none (by rw[cl_len];exact h),List.getElem?_eq_none (by rw[List.length_map];exact h)]

theorem filter_one {α:Type}(P:α→Bool){l:List α}{i:Nat}(h:i<l.length)(hP:P l[i]=true):((l.filter P).length==1)=true↔∀k (hk:k<l.length),k≠i→P l[k]=false:=by
 have e:l=l.take i++l[i] :: l.drop (i+1):=by rw[←List.drop_eq_getElem_cons h,List.take_append_drop]
 have hlen:(l.filter P).length=((l.take i).filter P).length+(1+((l.drop (i+1)).filter P).length):=by
  conv=>lhs;rw[e]
  rw[List.filter_append,List.length_append,List.filter_cons,if_pos hP,List.length_cons]
  omega
 rw[beq_iff_eq,hlen]
 constructor
 ·intro h1 k hk hki
  have h2:((l.take i).filter P)=[]:=List.eq_nil_of_length_eq_zero (by omega)
  have h3:((l.drop (i+1)).filter P)=[]:=List.eq_nil_of_length_eq_zero (by omega)
  rw[List.filter_eq_nil_iff] at h2 h3
  rcases Nat.lt_or_ge k i with h4 | h4
  ·have:l[k]∈l.take i:=List.mem_take_iff_getElem.2 ⟨k,by omega,rfl⟩
   simpa using h2 _ this
  ·have:l[k]∈l.drop (i+1):=List.mem_drop_iff_getElem.2 ⟨k-(i+1),by omega,by congr 1;omega⟩
   simpa using h3 _ this
 ·intro h1
  have h2:((l.take i).filter P)=[]:=List.filter_eq_nil_iff.2 fun x hx=>by
   obtain⟨k,hk,rfl⟩:=List.mem_take_iff_getElem.1 hx
   simp[h1 k (by omega) (by omega)]
  have h3:((l.drop (i+1)).filter P)=[]:=List.filter_eq_nil_iff.2 fun x hx=>by
   obtain⟨k,hk,rfl⟩:=List.mem_drop_iff_getElem.1 hx
   simp[h1 (i+1+k) (by omega) (by omega)]
  rw[h2,h3]
  rfl

end Go.Am.Wr

/-
 What is known of a car,place by place.
-/
namespace Go.Am.Wr


structure Src where
 kind:Int
 error:Int

def srcOf (ss:List Src)(r:Rep):Src:=ss.getD r.source.toNat ⟨0,0⟩

def lowB (ss:List Src)(r:Rep):Int:=if r.kind=1 then r.time-(srcOf ss r).error else if r.kind=2 then r.time-(srcOf ss r).error+1 else -10000000000000
def highB (ss:List Src)(r:Rep):Int:=if r.kind=1 then r.time+(srcOf ss r).error else 10000000000000

def low0 (ss:List Src)(rs:List Rep)(p:Nat):Int:=rs.foldl (fun(b:Int) (r:Rep)=>if r.place=(p:Int) then max b (lowB ss r) else b) (-10000000000000)
def high0 (ss:List Src)(rs:List Rep)(p:Nat):Int:=rs.foldl (fun(b:Int) (r:Rep)=>if r.place=(p:Int) then min b (highB ss r) else b) 10000000000000
def passedB (rs:List Rep)(p:Nat):Bool:=rs.any fun r=>(r.kind==1||r.kind==3)&&decide ((p:Int)≤r.place)
def outAt (n:Int)(rs:List Rep):Int:=rs.foldl (fun b r=>if r.kind=3 then min b r.place else b) n
def trustB (ss:List Src)(rs:List Rep)(p:Nat):Bool:=rs.any fun r=>r.kind==1&&((srcOf ss r).kind != 3&&r.place==(p:Int))

def lowF (least:List Int)(f:Nat→Int):Nat→Int
 | 0=>f 0
 | p+1=>max (f (p+1)) (lowF least f p+least.getD p 0)
def highF (least:List Int)(f:Nat→Int)(last:Nat):Nat→Int
 | 0=>f last
 | d+1=>min (f (last-(d+1))) (highF least f last d-least.getD (last-(d+1)) 0)

structure Kn where
 low:Int
 high:Int
 passed:Bool
 out:Bool
 prov:Bool
 wrong:Bool
deriving DecidableEq

def knAt (ss:List Src)(least:List Int)(n:Nat)(rs:List Rep)(p:Nat):Kn:=
 let lo:=lowF least (low0 ss rs) p
 let hi:=highF least (high0 ss rs) (n-1) (n-1-p)
 let ps:=passedB rs p
 let o:=outAt n rs
 let wr:=decide (lo > hi)||(ps&&decide (o<p))
 ⟨lo,hi,ps,decide ((p:Int)=o),(ps&&!trustB ss rs p)||wr,wr⟩

def knR (ss:List Src)(least:List Int)(n:Nat)(rs:List Rep):List Kn:=(List.range n).map (knAt ss least n rs)

def ofCar (W:List Rep)(t car:Int):List Rep:=(W.filter (pB W t)).filter fun r=>r.kind != 4&&r.car==car

/-! ## what the bounds are -/

theorem foldl_max (ss:List Src)(P:Rep→Bool)(f:Rep→Int):∀(rs:List Rep) (b x:Int),(rs.foldl (fun b r=>if P r=true then max b (f r) else b) b)≤x↔b≤x∧∀r,r∈rs→P r=true→f r≤x
 | [],b,x=>by simp
 | r :: rs,b,x=>by
  rw[List.foldl_cons,foldl_max ss P f rs]
  by_cases h:P r=true
  ·rw[if_pos h]
   constructor
   ·rintro⟨h1,h2⟩
    refine⟨by omega,fun q hq hP=>?_⟩
    rcases List.mem_cons.1 hq with rfl | hq
    ·omega
    ·exact h2 q hq hP
   ·rintro⟨h1,h2⟩
    have:=h2 r List.mem_cons_self h
    exact⟨by omega,fun q hq hP=>h2 q (List.mem_cons_of_mem _ hq) hP⟩
  ·rw[if_neg h]
   constructor
   ·rintro⟨h1,h2⟩
    refine⟨h1,fun q hq hP=>?_⟩
    rcases List.mem_cons.1 hq with rfl | hq
    ·exact absurd hP h
    ·exact h2 q hq hP
   ·rintro⟨h1,h2⟩
    exact⟨h1,fun q hq hP=>h2 q (List.mem_cons_of_mem _ hq) hP⟩

theorem foldl_min (ss:List Src)(P:Rep→Bool)(f:Rep→Int):∀(rs:List Rep) (b x:Int),x≤(rs.foldl (fun b r=>if P r=true then min b (f r) else b) b)↔x≤b∧∀r,r∈rs→P r=true→x≤f r
 | [],b,x=>by simp
 | r :: rs,b,x=>by
  rw[List.foldl_cons,foldl_min ss P f rs]
  by_cases h:P r=true
  ·rw[if_pos h]
   constructor
   ·rintro⟨h1,h2⟩
    refine⟨by omega,fun q hq hP=>?_⟩
    rcases List.mem_cons.1 hq with rfl | hq
    ·omega
    ·exact h2 q hq hP
   ·rintro⟨h1,h2⟩
    have:=h2 r List.mem_cons_self h
    exact⟨by omega,fun q hq hP=>h2 q (List.mem_cons_of_mem _ hq) hP⟩
  ·rw[if_neg h]
   constructor
   ·rintro⟨h1,h2⟩
    refine⟨h1,fun q hq hP=>?_⟩
    rcases List.mem_cons.1 hq with rfl | hq
    ·exact absurd hP h
    ·exact h2 q hq hP
   ·rintro⟨h1,h2⟩
    exact⟨h1,fun q hq hP=>h2 q (List.mem_cons_of_mem _ hq) hP⟩

theorem low0_le {ss:List Src}{rs:List Rep}{p:Nat}{x:Int}:low0 ss rs p≤x↔-10000000000000≤x∧∀r,r∈rs→r.place=(p:Int)→lowB ss r≤x:=by
 have:=foldl_max ss (fun r=>decide (r.place=(p:Int))) (lowB ss) rs (-10000000000000) x
 unfold low0
 simpa only[decide_eq_true_eq] using this

theorem le_high0 {ss:List Src}{rs:List Rep}{p:Nat}{x:Int}:x≤high0 ss rs p↔x≤10000000000000∧∀r,r∈rs→r.place=(p:Int)→x≤highB ss r:=by
 have:=foldl_min ss (fun r=>decide (r.place=(p:Int))) (highB ss) rs 10000000000000 x
 unfold high0
 simpa only[decide_eq_true_eq] using this

def btw (least:List Int)(a:Nat):Nat→Int
 | 0=>0
 | d+1=>btw least a d+least.getD (a+d) 0

theorem btw_succ (least:List Int)(a d:Nat):btw least a (d+1)=least.getD a 0+btw least (a+1) d:=by
 induction d with
 | zero=>simp[btw]
 | succ d ih=>
  rw[btw,ih,btw,show a+1+d=a+(d+1) by omega]
  omega

theorem btw_add (least:List Int)(a d e:Nat):btw least a (d+e)=btw least a d+btw least (a+d) e:=by
 induction e with
 | zero=>simp[btw]
 | succ e ih=>
  show btw least a (d+e+1)=_
  rw[btw,ih,btw,show a+d+e=a+(d+e) by omega]
  omega

theorem lowF_le {least:List Int}{f:Nat→Int}:∀{p:Nat} {x:Int},lowF least f p≤x↔∀q,q≤p→f q+btw least q (p-q)≤x
 | 0,x=>by
  constructor
  ·intro h q hq
   rw[show q=0 by omega]
   simpa[lowF,btw] using h
  ·intro h
   simpa[lowF,btw] using h 0 (Nat.le_refl _)
 | p+1,x=>by
  have ih:=@lowF_le least f p (x-least.getD p 0)
  rw[lowF]
  constructor
  ·intro h q hq
   rcases Nat.lt_or_ge p q with h1 | h1
   ·rw[show q=p+1 by omega,Nat.sub_self]
    simp[btw]
    omega
   ·have h2:=ih.1 (by omega) q h1
    rw[show p+1-q=p-q+1 by omega,btw,show q+(p-q)=p by omega]
    omega
  ·intro h
   have h1:=h (p+1) (Nat.le_refl _)
   rw[Nat.sub_self] at h1
   simp[btw] at h1
   have h2:lowF least f p≤x-least.getD p 0:=ih.2 fun q hq=>by
    have h3:=h q (by omega)
    rw[show p+1-q=p-q+1 by omega,btw,show q+(p-q)=p by omega] at h3
    omega
   omega

theorem le_highF {least:List Int}{f:Nat→Int}{last:Nat}:∀{d:Nat} {x:Int},d≤last→(x≤highF least f last d↔∀e,e≤d→x+btw least (last-d) (d-e)≤f (last-e))
 | 0,x,_=>by
  constructor
  ·intro h e he
   rw[show e=0 by omega]
   simpa[highF,btw] using h
  ·intro h
   simpa[highF,btw] using h 0 (Nat.le_refl _)
 | d+1,x,hd=>by
  have ih:=@le_highF least f last d (x+least.getD (last-(d+1)) 0) (by omega)
  rw[highF]
  constructor
  ·intro h e he
   rcases Nat.lt_or_ge d e with h1 | h1
   ·rw[show e=d+1 by omega,Nat.sub_self]
    simp[btw]
    omega
   ·have h2:=ih.1 (by omega) e h1
    rw[show d+1-e=d-e+1 by omega,btw_succ,show last-(d+1)+1=last-d by omega]
    omega
  ·intro h
   have h1:=h (d+1) (Nat.le_refl _)
   rw[Nat.sub_self] at h1
   simp[btw] at h1
   have h2:=ih.2 fun e he=>by
    have h3:=h e (by omega)
    rw[show d+1-e=d-e+1 by omega,btw_succ,show last-(d+1)+1=last-d by omega] at h3
    omega
   omega

end Go.Am.Wr

/-
 A car has a quarrel just if some interval is empty.
-/
namespace Go.Am.Wr

structure FOk (n:Nat)(least:List Int)(ss:List Src):Prop where
 lo:2≤n
 hi:n≤30
 len:least.length=n-1
 lst:∀x,x∈least→0≤x∧x≤100000000
 src:∀s,s∈ss→(1≤s.kind∧s.kind≤3)∧0≤s.error∧s.error≤10000000

structure ROk (n:Nat)(ss:List Src)(r:Rep):Prop where
 src:0≤r.source∧r.source<ss.length
 kind:r.kind=1∨r.kind=2∨r.kind=3
 place:0≤r.place∧r.place<n
 time:0≤r.time∧r.time≤1000000000000

variable {n:Nat} {least:List Int} {ss:List Src} {rs:List Rep}

theorem ROk.err (F:FOk n least ss){r:Rep}(h:ROk n ss r):0≤(srcOf ss r).error∧(srcOf ss r).error≤10000000:=by
 have h1:=h.src
 have h2:r.source.toNat<ss.length:=by omega
 have:srcOf ss r=ss[r.source.toNat]:=by unfold srcOf;simp[h2]
 rw[this]
 exact(F.src _ (List.getElem_mem h2)).2

theorem least_bd (F:FOk n least ss)(i:Nat):0≤least.getD i 0∧least.getD i 0≤100000000:=by
 rcases Nat.lt_or_ge i least.length with h | h
 ·have:least.getD i 0=least[i]:=by simp[h]
  rw[this]
  exact F.lst _ (List.getElem_mem h)
 ·have:least.getD i 0=0:=by simp[h]
  rw[this]
  omega

theorem btw_bd (F:FOk n least ss)(a:Nat):∀d:Nat,0≤btw least a d∧btw least a d≤d*100000000
 | 0=>by simp[btw]
 | d+1=>by
  have h1:=btw_bd F a d
  have h2:=least_bd F (a+d)
  rw[btw]
  refine⟨by omega,?_⟩
  have:((d+1:Nat):Int)*100000000=(d:Int)*100000000+100000000:=by omega
  omega

theorem btw_small (F:FOk n least ss)(a:Nat){d:Nat}(hd:d≤30):0≤btw least a d∧btw least a d≤3000000000:=by
 have:=btw_bd F a d
 omega

def clashB (ss:List Src)(least:List Int)(a b:Rep):Bool:=decide (a.place≤b.place)&&(b.kind==1&&((a.kind==1||a.kind==2)&&decide (highB ss b<lowB ss a+btw least a.place.toNat (b.place.toNat-a.place.toNat))))

theorem lowB_bd (F:FOk n least ss){r:Rep}(h:ROk n ss r):lowB ss r≤1000000000001∧(r.kind=3→lowB ss r=-10000000000000):=by
 have h1:=h.err F
 have h2:=h.time
 have h3:=h.kind
 unfold lowB
 refine⟨?_,fun h4=>by rw[if_neg (by omega),if_neg (by omega)]⟩
 split
 ·omega
 ·split
  ·omega
  ·omega

theorem highB_bd (F:FOk n least ss){r:Rep}(h:ROk n ss r):0≤highB ss r∧(r.kind≠1→highB ss r=10000000000000):=by
 have h1:=h.err F
 have h2:=h.time
 unfold highB
 refine⟨?_,fun h4=>if_neg h4⟩
 split
 ·omega
 ·omega

theorem clash_self (F:FOk n least ss){r:Rep}(h:ROk n ss r):clashB ss least r r=false:=by
 cases e:clashB ss least r r
 ·rfl
 ·exfalso
  unfold clashB at e
  simp only[Bool.and_eq_true,decide_eq_true_eq,beq_iff_eq] at e
  obtain⟨_,c2,_,c4⟩:=e
  rw[Nat.sub_self] at c4
  have:=h.err F
  unfold highB lowB btw at c4
  rw[if_pos c2,if_pos c2] at c4
  omega

end Go.Am.Wr

/-
 The theorem of cover: what true reports say of a car is true.
-/
namespace Go.Am.Wr

variable {n:Nat} {least:List Int} {ss:List Src} {rs:List Rep} {t:List Int}

structure TOk (n:Nat)(least:List Int)(t:List Int):Prop where
 len:t.length≤n
 rng:∀x,x∈t→0≤x∧x≤1000000000000
 step:∀p,p+1<t.length→t.getD p 0+least.getD p 0≤t.getD (p+1) 0

def holdsT (ss:List Src)(t:List Int)(r:Rep):Prop:=
 (r.kind=1→r.place<t.length∧r.time-(srcOf ss r).error≤t.getD r.place.toNat 0∧t.getD r.place.toNat 0≤r.time+(srcOf ss r).error∧t.getD r.place.toNat 0≤r.arrived) ∧
 (r.kind=2→t.length≤r.place∨r.time-(srcOf ss r).error<t.getD r.place.toNat 0) ∧
 (r.kind=3→t.length=r.place+1∧t.getD r.place.toNat 0≤r.arrived)

theorem TOk.bd (T:TOk n least t){p:Nat}(hp:p<t.length):0≤t.getD p 0∧t.getD p 0≤1000000000000:=by
 have:t.getD p 0=t[p]:=by simp[hp]
 rw[this]
 exact T.rng _ (List.getElem_mem hp)

theorem TOk.btw (T:TOk n least t)(q:Nat):∀d,q+d<t.length→t.getD q 0+Wr.btw least q d≤t.getD (q+d) 0
 | 0,_=>by simp[Wr.btw]
 | d+1,h=>by
  have h1:=T.btw q d (by omega)
  have h2:=T.step (q+d) (by omega)
  rw[Wr.btw,show q+(d+1)=q+d+1 by omega]
  omega

theorem TOk.mono (F:FOk n least ss)(T:TOk n least t){q p:Nat}(h:q≤p)(hp:p<t.length):t.getD q 0≤t.getD p 0:=by
 have h1:=T.btw q (p-q) (by omega)
 have h2:=btw_bd F q (p-q)
 rw[show q+(p-q)=p by omega] at h1
 omega

theorem low_true (F:FOk n least ss)(T:TOk n least t)(hr:∀r,r∈rs→ROk n ss r)(ht:∀r,r∈rs→holdsT ss t r){p:Nat}(hp:p<t.length):lowF least (low0 ss rs) p≤t.getD p 0:=by
 rw[lowF_le]
 intro q hq
 have h1:=T.btw q (p-q) (by omega)
 rw[show q+(p-q)=p by omega] at h1
 have h2:low0 ss rs q≤t.getD q 0:=by
  rw[low0_le]
  have hb:=T.bd (p:=q) (by omega)
  refine⟨by omega,fun r hm hpl=>?_⟩
  obtain⟨a1,a2,a3⟩:=ht r hm
  have hpl2:r.place.toNat=q:=by omega
  rw[hpl2] at a1 a2 a3
  unfold lowB
  split
  ·rename_i h;exact(a1 h).2.1
  ·split
   ·rename_i h
    rcases a2 h with h3 | h3 <;> omega
   ·omega
 omega

theorem high_true (F:FOk n least ss)(T:TOk n least t)(hr:∀r,r∈rs→ROk n ss r)(ht:∀r,r∈rs→holdsT ss t r){p:Nat}(hp:p<t.length):t.getD p 0≤highF least (high0 ss rs) (n-1) (n-1-p):=by
 have hn:=F.lo
 have hn2:=F.hi
 have hl:=T.len
 rw[le_highF (by omega)]
 intro e he
 rw[show n-1-(n-1-p)=p by omega,le_high0]
 have hb:=T.bd hp
 have hw:=btw_small F p (d:=n-1-p-e) (by omega)
 refine⟨by omega,fun r hm hpl=>?_⟩
 obtain⟨a1,_,_⟩:=ht r hm
 unfold highB
 split
 ·rename_i h
  obtain⟨b1,_,b3,_⟩:=a1 h
  have hpl2:r.place.toNat=n-1-e:=by omega
  rw[hpl2] at b3
  have h1:=T.btw p (n-1-p-e) (by omega)
  rw[show p+(n-1-p-e)=n-1-e by omega] at h1
  omega
 ·omega

theorem no_clash (F:FOk n least ss)(T:TOk n least t)(hr:∀r,r∈rs→ROk n ss r)(ht:∀r,r∈rs→holdsT ss t r){a b:Rep}(ha:a∈rs)(hb:b∈rs):clashB ss least a b=false:=by
 cases e:clashB ss least a b
 ·rfl
 ·exfalso
  unfold clashB at e
  simp only[Bool.and_eq_true,Bool.or_eq_true,decide_eq_true_eq,beq_iff_eq] at e
  obtain⟨c1,c2,c3,c4⟩:=e
  have pa:=(hr a ha).place
  have pb:=(hr b hb).place
  obtain⟨b1,_,b3,_⟩:=(ht b hb).1 c2
  have h1:=T.btw a.place.toNat (b.place.toNat-a.place.toNat) (by omega)
  rw[show a.place.toNat+(b.place.toNat-a.place.toNat)=b.place.toNat by omega] at h1
  have h2:lowB ss a≤t.getD a.place.toNat 0:=by
   obtain⟨a1,a2,_⟩:=ht a ha
   unfold lowB
   rcases c3 with h | h
   ·rw[if_pos h];exact(a1 h).2.1
   ·rw[if_neg (by omega),if_pos h]
    rcases a2 h with h3 | h3 <;> omega
  unfold highB at c4
  rw[if_pos c2] at c4
  omega

theorem not_passed (F:FOk n least ss)(T:TOk n least t)(hr:∀r,r∈rs→ROk n ss r)(ht:∀r,r∈rs→holdsT ss t r){m:Int}(hm:∀r,r∈rs→r.arrived≤m){to:Nat}(h:t.length≤to∨m<t.getD to 0):passedB rs to=false:=by
 unfold passedB
 rw[List.any_eq_false]
 intro r hmem
 simp only[Bool.and_eq_true,Bool.or_eq_true,beq_iff_eq,decide_eq_true_eq,not_and]
 intro hk hpl
 have pr:=(hr r hmem).place
 obtain⟨a1,_,a3⟩:=ht r hmem
 have hma:=hm r hmem
 have key:r.place<t.length∧t.getD r.place.toNat 0≤r.arrived:=by
  rcases hk with h1 | h1
  ·exact⟨(a1 h1).1,(a1 h1).2.2.2⟩
  ·exact⟨by have:=(a3 h1).1;omega,(a3 h1).2⟩
 rcases h with h | h
 ·omega
 ·have:=T.mono F (q:=to) (p:=r.place.toNat) (by omega) (by omega)
  omega

theorem outAt_mem:∀(rs:List Rep) (b:Int),(rs.foldl (fun b r=>if r.kind=3 then min b r.place else b) b=b)∨∃r,r∈rs∧r.kind=3∧rs.foldl (fun b r=>if r.kind=3 then min b r.place else b) b=r.place
 | [],b=>.inl rfl
 | r :: rs,b=>by
  rw[List.foldl_cons]
  by_cases h:r.kind=3
  ·rw[if_pos h]
   rcases outAt_mem rs (min b r.place) with h1 | ⟨q,q1,q2,q3⟩
   ·rw[h1]
    rcases Int.le_total b r.place with h2 | h2
    ·exact .inl (Int.min_eq_left h2)
    ·exact .inr ⟨r,List.mem_cons_self,h,Int.min_eq_right h2⟩
   ·exact .inr ⟨q,List.mem_cons_of_mem _ q1,q2,q3⟩
  ·rw[if_neg h]
   rcases outAt_mem rs b with h1 | ⟨q,q1,q2,q3⟩
   ·exact .inl h1
   ·exact .inr ⟨q,List.mem_cons_of_mem _ q1,q2,q3⟩

theorem not_out (hr:∀r,r∈rs→ROk n ss r)(ht:∀r,r∈rs→holdsT ss t r){p:Nat}(hp:p<n)(h:p+1<t.length):¬((p:Int)=outAt n rs):=by
 intro e
 unfold outAt at e
 rcases outAt_mem rs (n:Int) with h1 | ⟨r,r1,r2,r3⟩
 ·omega
 ·have:=((ht r r1).2.2 r2).1
  omega

end Go.Am.Wr

/-
 A log does not depend on the order in which reports come,nor on how often;another report that counts narrows what is known.
-/
namespace Go.Am.Wr

theorem ord_log (l:List Rep):Ord (logR l):=by
 have:=fold_same l [] [] map_nil List.Pairwise.nil fun x=>by simp
 exact this.2.1

theorem log_snoc (l:List Rep)(r:Rep):logR (l++[r])=ins r (logR l):=by simp[logR]

theorem mem_log {l:List Rep}:∀x,x∈logR l↔x∈l∧∀r,r∈l→key r=key x→x.arrived≤r.arrived:=by
 have step:∀(l:List Rep) (r:Rep),(∀x,x∈logR l↔x∈l∧∀r,r∈l→key r=key x→x.arrived≤r.arrived)→∀x,x∈logR (l++[r])↔x∈l++[r]∧∀q,q∈l++[r]→key q=key x→x.arrived≤q.arrived:=by
  intro l r ih x
  rw[log_snoc,mem_ins (ord_log l)]
  have least:∀q,q∈l→∃y,y∈logR l∧key y=key q∧y.arrived≤q.arrived:=by
   intro q hq
   have:∀n:Nat,∀q,q∈l→(q.arrived-(l.foldl (fun b z=>min b z.arrived) q.arrived)).toNat≤n→True:=fun _ _ _ _=>trivial
   have ex:∀L:List Rep,(∃z,z∈L∧key z=key q)→∃y,y∈L∧key y=key q∧∀z,z∈L→key z=key q→y.arrived≤z.arrived:=by
    intro L
    induction L with
    | nil=>rintro⟨z,hz,_⟩;cases hz
    | cons a L ihL=>
     intro _
     by_cases hL:∃z,z∈L∧key z=key q
     ·obtain⟨y,y1,y2,y3⟩:=ihL hL
      by_cases ha:key a=key q
      ·rcases Int.le_total a.arrived y.arrived with h | h
       ·refine⟨a,List.mem_cons_self,ha,fun z hz hk=>?_⟩
        rcases List.mem_cons.1 hz with rfl | hz
        ·exact Int.le_refl _
        ·exact Int.le_trans h (y3 z hz hk)
       ·refine⟨y,List.mem_cons_of_mem _ y1,y2,fun z hz hk=>?_⟩
        rcases List.mem_cons.1 hz with rfl | hz
        ·exact h
        ·exact y3 z hz hk
      ·refine⟨y,List.mem_cons_of_mem _ y1,y2,fun z hz hk=>?_⟩
       rcases List.mem_cons.1 hz with rfl | hz
       ·exact absurd hk ha
       ·exact y3 z hz hk
     ·rename_i h0
      obtain⟨z,hz,hk⟩:=h0
      have ha:z=a:=by
       rcases List.mem_cons.1 hz with rfl | hz
       ·rfl
       ·exact absurd ⟨z,hz,hk⟩ hL
      subst ha
      refine⟨z,List.mem_cons_self,hk,fun w hw hkw=>?_⟩
      rcases List.mem_cons.1 hw with rfl | hw
      ·exact Int.le_refl _
      ·exact absurd ⟨w,hw,hkw⟩ hL
   obtain⟨y,y1,y2,y3⟩:=ex l ⟨q,hq,rfl⟩
   exact⟨y,(ih y).2 ⟨y1,fun z hz hk=>y3 z hz (hk.trans y2)⟩,y2,y3 q hq rfl⟩
  constructor
  ·rintro(⟨h1,h2⟩ | ⟨y,h1,h2,rfl⟩ | ⟨h1,rfl⟩)
   ·obtain⟨a,b⟩:=(ih x).1 h1
    refine⟨List.mem_append_left _ a,fun q hq hk=>?_⟩
    rcases List.mem_append.1 hq with hq | hq
    ·exact b q hq hk
    ·rw[List.mem_singleton] at hq
     subst hq
     exact absurd hk.symm h2
   ·obtain⟨a,b⟩:=(ih y).1 h1
    refine⟨?_,fun q hq hk=>?_⟩
    ·rcases Int.le_total y.arrived r.arrived with h | h
     ·rw[Int.min_eq_left h]
      exact List.mem_append_left _ a
     ·rw[Int.min_eq_right h]
      refine List.mem_append_right _ ?_
      rw[List.mem_singleton]
      exact rep_ext h2 rfl
    ·show min y.arrived r.arrived≤q.arrived
     rcases List.mem_append.1 hq with hq | hq
     ·have:=b q hq hk
      omega
     ·rw[List.mem_singleton] at hq
      subst hq
      omega
   ·refine⟨by simp,fun q hq hk=>?_⟩
    rcases List.mem_append.1 hq with hq | hq
    ·obtain⟨y,y1,y2,_⟩:=least q hq
     exact absurd (y2.trans hk) (h1 y y1)
    ·rw[List.mem_singleton] at hq
     subst hq
     exact Int.le_refl _
  ·rintro⟨h1,h2⟩
   by_cases hk:key x=key r
   ·right
    by_cases hex:∃y,y∈logR l∧key y=key r
    ·left
     obtain⟨y,y1,y2⟩:=hex
     refine⟨y,y1,y2,rep_ext (hk.trans y2.symm) ?_⟩
     show x.arrived=min y.arrived r.arrived
     obtain⟨a,b⟩:=(ih y).1 y1
     have e1:=h2 y (List.mem_append_left _ a) (y2.trans hk.symm)
     have e2:=h2 r (by simp) hk.symm
     rcases List.mem_append.1 h1 with h3 | h3
     ·have:=b x h3 (hk.trans y2.symm)
      omega
     ·rw[List.mem_singleton] at h3
      subst h3
      omega
    ·right
     refine⟨fun y hy e=>hex ⟨y,hy,e⟩,?_⟩
     rcases List.mem_append.1 h1 with h3 | h3
     ·obtain⟨y,y1,y2,_⟩:=least x h3
      exact absurd ⟨y,y1,y2.trans hk⟩ hex
     ·rwa [List.mem_singleton] at h3
   ·left
    refine⟨(ih x).2 ⟨?_,fun q hq=>h2 q (List.mem_append_left _ hq)⟩,hk⟩
    rcases List.mem_append.1 h1 with h3 | h3
    ·exact h3
    ·rw[List.mem_singleton] at h3
     subst h3
     exact absurd rfl hk
 have all:∀n (l:List Rep),l.length=n→∀x,x∈logR l↔x∈l∧∀r,r∈l→key r=key x→x.arrived≤r.arrived:=by
  intro n
  induction n with
  | zero=>
   intro l hl x
   rw[List.eq_nil_of_length_eq_zero hl]
   simp[logR]
  | succ n ih=>
   intro l hl x
   rcases List.eq_nil_or_concat l with rfl | ⟨l',r,rfl⟩
   ·simp at hl
   ·rw[List.concat_eq_append] at hl ⊢
    exact step l' r (ih l' (by simpa using hl)) x
 exact all l.length l rfl

def Cov (a b:List Rep):Prop:=∀x,x∈a→∃y,y∈b∧key y=key x∧y.arrived≤x.arrived

theorem log_ext {a b:List Rep}(h1:Cov a b)(h2:Cov b a):logR a=logR b:=by
 have half:∀{a b:List Rep},Cov a b→Cov b a→∀x,x∈logR a→x∈logR b:=fun {a b} h1 h2 x hx=>by
  obtain⟨m1,m2⟩:=(mem_log x).1 hx
  obtain⟨y,y1,y2,y3⟩:=h1 x m1
  obtain⟨z,z1,z2,z3⟩:=h2 y y1
  have h3:=m2 z z1 (z2.trans y2)
  have e:x=y:=rep_ext y2.symm (by omega)
  subst e
  refine(mem_log x).2 ⟨y1,fun r hr hk=>?_⟩
  obtain⟨w,w1,w2,w3⟩:=h2 r hr
  have:=m2 w w1 (w2.trans hk)
  omega
 exact ord_ext (ord_log a) (ord_log b) fun x=>⟨half h1 h2 x,half h2 h1 x⟩

theorem Cov.rfl' (a:List Rep):Cov a a:=fun x hx=>⟨x,hx,rfl,Int.le_refl _⟩
theorem Cov.of_sub {a b:List Rep}(h:∀x,x∈a→x∈b):Cov a b:=fun x hx=>⟨x,h x hx,rfl,Int.le_refl _⟩
theorem Cov.trans {a b d:List Rep}(h1:Cov a b)(h2:Cov b d):Cov a d:=fun x hx=>by
 obtain⟨y,y1,y2,y3⟩:=h1 x hx
 obtain⟨z,z1,z2,z3⟩:=h2 y y1
 exact⟨z,z1,z2.trans y2,Int.le_trans z3 y3⟩
theorem Cov.app {a b d:List Rep}(h1:Cov a d)(h2:Cov b d):Cov (a++b) d:=fun x hx=>by
 rcases List.mem_append.1 hx with h | h
 ·exact h1 x h
 ·exact h2 x h
theorem cov_log (l:List Rep):Cov (logR l) l:=Cov.of_sub fun x hx=>((mem_log x).1 hx).1
theorem log_cov (l:List Rep):Cov l (logR l):=fun x hx=>by
 have ex:∀L:List Rep,(∃z,z∈L∧key z=key x)→∃y,y∈L∧key y=key x∧∀z,z∈L→key z=key x→y.arrived≤z.arrived:=by
  intro L
  induction L with
  | nil=>rintro⟨z,hz,_⟩;cases hz
  | cons a L ihL=>
   rintro⟨z,hz,hk⟩
   by_cases hL:∃z,z∈L∧key z=key x
   ·obtain⟨y,y1,y2,y3⟩:=ihL hL
    by_cases ha:key a=key x
    ·rcases Int.le_total a.arrived y.arrived with h | h
     ·refine⟨a,List.mem_cons_self,ha,fun z hz hk=>?_⟩
      rcases List.mem_cons.1 hz with rfl | hz
      ·exact Int.le_refl _
      ·exact Int.le_trans h (y3 z hz hk)
     ·refine⟨y,List.mem_cons_of_mem _ y1,y2,fun z hz hk=>?_⟩
      rcases List.mem_cons.1 hz with rfl | hz
      ·exact h
      ·exact y3 z hz hk
    ·refine⟨y,List.mem_cons_of_mem _ y1,y2,fun z hz hk=>?_⟩
     rcases List.mem_cons.1 hz with rfl | hz
     ·exact absurd hk ha
     ·exact y3 z hz hk
   ·have ha:z=a:=by
     rcases List.mem_cons.1 hz with h | hz
     ·exact h
     ·exact absurd ⟨z,hz,hk⟩ hL
    subst ha
    refine⟨z,List.mem_cons_self,hk,fun w hw hkw=>?_⟩
    rcases List.mem_cons.1 hw with h | hw
    ·rw[h];exact Int.le_refl _
    ·exact absurd ⟨w,hw,hkw⟩ hL
 obtain⟨y,y1,y2,y3⟩:=ex l ⟨x,hx,rfl⟩
 exact⟨y,(mem_log y).2 ⟨y1,fun r hr hk=>y3 r hr (hk.trans y2)⟩,y2,y3 x hx rfl⟩

end Go.Am.Wr

/-
 Another report that counts narrows what is known.
-/
namespace Go.Am.Wr

theorem zip_any {α:Type}(f:α→Bool)(p:α×Bool→Bool):∀l:List α,(l.zip (l.map f)).any p=l.any fun x=>p (x,f x)
 | []=>rfl
 | x :: l=>by simp[zip_any f p l]

theorem pB_iff {W:List Rep}(ho:Ord W)(hl:Low W)(t:Int)(r:Rep):pB W t r=(sureB W t r&&!(W.any fun v=>pB W t v&&(v.source==r.source&&(v.kind==4&&v.car==r.number)))):=by
 conv=>lhs;unfold pB
 rw[vs_any,cl_eq ho hl t]
 unfold anyV
 rw[zip_any]

theorem key_num {a b:Rep}(h:key a=key b):a.source=b.source∧a.number=b.number:=by
 simp[key] at h
 exact⟨h.1,h.2.1⟩

structure Fresh (W:List Rep)(r:Rep):Prop where
 kind:r.kind=1
 num:∀x,x∈W→x.source=r.source→x.number≠r.number∧x.kind≠4

theorem Fresh.key {W:List Rep}{r:Rep}(h:Fresh W r):∀x,x∈W→Wr.key x≠Wr.key r:=fun x hx e=>(h.num x hx (key_num e).1).1 (key_num e).2

theorem mem_car {W:List Rep}{t car:Int}{x:Rep}:x∈ofCar W t car↔x∈W∧pB W t x=true∧x.kind≠4∧x.car=car:=by
 unfold ofCar
 rw[List.mem_filter,List.mem_filter]
 simp only[Bool.and_eq_true,bne_iff_ne,ne_eq,beq_iff_eq]
 constructor
 ·rintro⟨⟨h1,h2⟩,h3,h4⟩;exact⟨h1,h2,h3,h4⟩
 ·rintro⟨h1,h2,h3,h4⟩;exact⟨⟨h1,h2⟩,h3,h4⟩

/-! ## more reports say more -/

section
variable {least:List Int} {ss:List Src} {rs rs':List Rep}

theorem passed_mono (h:∀x,x∈rs→x∈rs')(p:Nat)(hp:passedB rs p=true):passedB rs' p=true:=by
 unfold passedB at hp ⊢
 rw[List.any_eq_true] at hp ⊢
 obtain⟨x,hx,h1⟩:=hp
 exact⟨x,h x hx,h1⟩
end

end Go.Am.Wr

/-
 Fields,sources and reports as data.
-/
namespace Go.Am.Wr


abbrev I (n:Int):D:=.v (.int .i64 n)
abbrev B (b:Bool):D:=.v (.bool b)
abbrev Is (l:List Int):D:=.lst (l.map I)
abbrev In (i:Nat):D:=I (i:Int)
abbrev Ix (l:List Nat):D:=.lst (l.map In)

def i64 (n:Int):Prop:=-9223372036854775808≤n∧n<9223372036854775808

theorem ofI {ds:List D}(h:OfSh (.int .i64) ds):∃n,ds=[I n]∧i64 n:=by
 simp only[OfSh] at h
 obtain⟨n,h,h1,h2⟩:=h
 refine⟨n,h,?_⟩
 simp[IntKind.min,IntKind.max,IntKind.bits,IntKind.signed] at h1 h2
 exact⟨h1,by omega⟩

theorem ofIs:∀{es:List D},(∀x,x∈es→OfSh (.int .i64) [x])→∃xs:List Int,es=xs.map I∧∀x,x∈xs→i64 x
 | [],_=>⟨[],rfl,by simp⟩
 | e :: es,h=>by
  obtain⟨n,hn,hb⟩:=ofI (h e (by simp))
  cases hn
  obtain⟨xs,rfl,hx⟩:=ofIs (es:=es) fun x hx=>h x (by simp[hx])
  exact⟨n :: xs,rfl,by simpa using⟨hb,hx⟩⟩

theorem ofSl {ds:List D}(h:OfSh (.sl (.int .i64)) ds):∃xs:List Int,ds=[Is xs]∧(∀x,x∈xs→i64 x)∧xs.length≤maxLen:=by
 simp only[OfSh] at h
 obtain⟨es,rfl,hl,hes⟩:=h
 obtain⟨xs,rfl,hx⟩:=ofIs fun x hx=>by
  have:=(hes x hx).2 rfl
  simpa only[OfSh] using this
 exact⟨xs,rfl,hx,by simpa using hl⟩

def Rep.cs (r:Rep):List D:=[I r.source,I r.number,I r.kind,I r.car,I r.place,I r.time,I r.arrived]
def Rep.d (r:Rep):D:=.agg r.cs
def Src.cs (s:Src):List D:=[I s.kind,I s.error]
def Src.d (s:Src):D:=.agg s.cs
def Kn.cs (k:Kn):List D:=[I k.low,I k.high,B k.passed,B k.out,B k.prov,B k.wrong]
def Kn.d (k:Kn):D:=.agg k.cs

structure Fld where
 cars:Int
 places:Int
 least:List Int

def Fld.cs (f:Fld):List D:=[I f.cars,I f.places,Is f.least]
def Fld.d (f:Fld):D:=.agg f.cs

structure Pla where
 f:Fld
 s:List Src
 l:List Rep

def Pla.cs (x:Pla):List D:=[I x.f.cars,I x.f.places,Is x.f.least,.lst (x.s.map Src.d),.lst (x.l.map Rep.d)]
def Pla.d (x:Pla):D:=.agg x.cs

def shRep:Sh:=.st [.int .i64,.int .i64,.int .i64,.int .i64,.int .i64,.int .i64,.int .i64]
def shSrc:Sh:=.st [.int .i64,.int .i64]
def shFld:Sh:=.st [.int .i64,.int .i64,.sl (.int .i64)]
def shPla:Sh:=.st [shFld,.sl shSrc,.sl shRep]

structure Rep.Ok (r:Rep):Prop where
 source:i64 r.source
 number:i64 r.number
 kind:i64 r.kind
 car:i64 r.car
 place:i64 r.place
 time:i64 r.time
 arrived:i64 r.arrived

structure Src.Ok (s:Src):Prop where
 kind:i64 s.kind
 error:i64 s.error

structure Pla.Ok (x:Pla):Prop where
 cars:i64 x.f.cars
 places:i64 x.f.places
 least:∀n,n∈x.f.least→i64 n
 leastL:x.f.least.length≤maxLen
 src:∀s,s∈x.s→s.Ok
 srcL:x.s.length≤maxLen
 rep:∀r,r∈x.l→r.Ok
 repL:x.l.length≤maxLen

theorem ofRep {cs:List D}(h:OfSh shRep cs):∃r:Rep,.agg cs=r.d∧r.Ok:=by
 simp only[shRep,OfSh,OfAll] at h
 obtain⟨_,_,rfl,h1,_,_,rfl,h2,_,_,rfl,h3,_,_,rfl,h4,_,_,rfl,h5,_,_,rfl,h6,_,_,rfl,h7,rfl⟩:=h
 have cv:∀{ds:List D},(∃n:Int,ds=[.v (.int .i64 n)]∧IntKind.i64.min≤n∧n≤IntKind.i64.max)→∃n,ds=[I n]∧i64 n:=fun h=>ofI (by simpa only[OfSh] using h)
 obtain⟨n1,rfl,b1⟩:=cv h1
 obtain⟨n2,rfl,b2⟩:=cv h2
 obtain⟨n3,rfl,b3⟩:=cv h3
 obtain⟨n4,rfl,b4⟩:=cv h4
 obtain⟨n5,rfl,b5⟩:=cv h5
 obtain⟨n6,rfl,b6⟩:=cv h6
 obtain⟨n7,rfl,b7⟩:=cv h7
 exact⟨⟨n1,n2,n3,n4,n5,n6,n7⟩,rfl,⟨b1,b2,b3,b4,b5,b6,b7⟩⟩

theorem ofSrc {cs:List D}(h:OfSh shSrc cs):∃s:Src,.agg cs=s.d∧s.Ok:=by
 simp only[shSrc,OfSh,OfAll] at h
 obtain⟨_,_,rfl,h1,_,_,rfl,h2,rfl⟩:=h
 have cv:∀{ds:List D},(∃n:Int,ds=[.v (.int .i64 n)]∧IntKind.i64.min≤n∧n≤IntKind.i64.max)→∃n,ds=[I n]∧i64 n:=fun h=>ofI (by simpa only[OfSh] using h)
 obtain⟨n1,rfl,b1⟩:=cv h1
 obtain⟨n2,rfl,b2⟩:=cv h2
 exact⟨⟨n1,n2⟩,rfl,⟨b1,b2⟩⟩

theorem ofReps:∀{es:List D},(∀x,x∈es→∃cs,x=.agg cs∧OfSh shRep cs)→∃xs:List Rep,es=xs.map Rep.d∧∀a,a∈xs→a.Ok
 | [],_=>⟨[],rfl,by simp⟩
 | e :: es,h=>by
  obtain⟨cs,rfl,h1⟩:=h e (by simp)
  obtain⟨a,ha,ho⟩:=ofRep h1
  obtain⟨xs,rfl,hx⟩:=ofReps (es:=es) fun x hx=>h x (by simp[hx])
  exact⟨a :: xs,by rw[ha];rfl,by simpa using⟨ho,hx⟩⟩

theorem ofSrcs:∀{es:List D},(∀x,x∈es→∃cs,x=.agg cs∧OfSh shSrc cs)→∃xs:List Src,es=xs.map Src.d∧∀a,a∈xs→a.Ok
 | [],_=>⟨[],rfl,by simp⟩
 | e :: es,h=>by
  obtain⟨cs,rfl,h1⟩:=h e (by simp)
  obtain⟨a,ha,ho⟩:=ofSrc h1
  obtain⟨xs,rfl,hx⟩:=ofSrcs (es:=es) fun x hx=>h x (by simp[hx])
  exact⟨a :: xs,by rw[ha];rfl,by simpa using⟨ho,hx⟩⟩

theorem ofPla {cs:List D}(h:OfSh shPla cs):∃x:Pla,.agg cs=x.d∧x.Ok:=by
 simp only[shPla,OfSh,OfAll,shFld] at h
 obtain⟨_,_,rfl,⟨_,_,rfl,h1,_,_,rfl,h2,_,_,rfl,h3,rfl⟩,_,_,rfl,h4,_,_,rfl,h5,rfl⟩:=h
 have cv:∀{ds:List D},(∃n:Int,ds=[.v (.int .i64 n)]∧IntKind.i64.min≤n∧n≤IntKind.i64.max)→∃n,ds=[I n]∧i64 n:=fun h=>ofI (by simpa only[OfSh] using h)
 obtain⟨n1,rfl,b1⟩:=cv h1
 obtain⟨n2,rfl,b2⟩:=cv h2
 obtain⟨xs,rfl,b3,l3⟩:=ofSl (by simpa only[OfSh] using h3)
 obtain⟨e4,rfl,l4,h4⟩:=h4
 obtain⟨ss,rfl,o4⟩:=ofSrcs fun x hx=>(h4 x hx).1 rfl
 obtain⟨e5,rfl,l5,h5⟩:=h5
 obtain⟨rs,rfl,o5⟩:=ofReps fun x hx=>(h5 x hx).1 rfl
 exact⟨⟨⟨n1,n2,xs⟩,ss,rs⟩,rfl,⟨b1,b2,b3,l3,o4,by simpa using l4,o5,by simpa using l5⟩⟩

end Go.Am.Wr

/-
 Maps whose keys are two numbers.
-/
namespace Go.Am.Wr
set_option maxRecDepth 100000

abbrev KN:Kd:=.agg [0,0]
abbrev Nm:=List ((Int×Int)×D)
def keyD (k:Int×Int):D:=.agg [I k.1,I k.2]
def nmD (e:(Int×Int)×D):D:=.tup [keyD e.1,e.2]

theorem keyEq_n (a b:Int×Int):D.keyEq KN (keyD a) (keyD b)=some (decide (a=b)):=by
 obtain⟨a1,a2⟩:=a
 obtain⟨b1,b2⟩:=b
 simp only[D.keyEq,keyD,D.bin,D.eqs,cmpI,Prod.mk.injEq]
 by_cases h1:a1=b1 <;> by_cases h2:a2=b2 <;> simp_all

def nfind (k:Int×Int):Nm→Nat→Option (Nat×D)
 | [],_=>none
 | e :: r,i=>if k=e.1 then some (i,e.2) else nfind k r (i+1)

def nget (k:Int×Int):Nm→Option D
 | []=>none
 | e :: r=>if k=e.1 then some e.2 else nget k r

def nput (k:Int×Int)(u:D):Nm→Nm
 | []=>[(k,u)]
 | e :: r=>if k=e.1 then(k,u) :: r else e :: nput k u r

def npos (k:Int×Int):Nm→Nat
 | []=>0
 | e :: r=>if k=e.1 then 0 else npos k r+1

theorem nget_put (k k':Int×Int)(u:D):∀m:Nm,nget k' (nput k u m)=if k'=k then some u else nget k' m
 | []=>by simp[nput,nget]
 | e :: r=>by
  simp only[nput,nget]
  by_cases h:k=e.1
  ·rw[if_pos h,nget]
   by_cases h2:k'=k
   ·rw[if_pos h2,if_pos h2]
   ·rw[if_neg h2,if_neg h2,if_neg (fun e2=>h2 (e2.trans h.symm))]
  ·rw[if_neg h,nget,nget_put k k' u r]
   by_cases h2:k'=k
   ·rw[if_pos h2,if_neg (fun e2=>h (h2.symm.trans e2)),if_pos h2]
   ·rw[if_neg h2,if_neg h2]

theorem nfind_get (k:Int×Int):∀(m:Nm) (i:Nat),nfind k m i=(nget k m).map fun u=>(i+npos k m,u)
 | [],_=>rfl
 | e :: r,i=>by
  simp only[nfind,nget,npos]
  by_cases h:k=e.1
  ·simp[h]
  ·rw[if_neg h,if_neg h,if_neg h,nfind_get k r (i+1)]
   congr 1
   funext u
   rw[show i+1+npos k r=i+(npos k r+1) by omega]

theorem mfind_nm (k:Int×Int):∀(m:Nm) (i:Nat),D.mfind KN (keyD k) (m.map nmD) i=some (nfind k m i)
 | [],_=>rfl
 | e :: r,i=>by
  simp only[List.map_cons,nmD,D.mfind,keyEq_n,nfind]
  by_cases h:k=e.1
  ·simp[h]
  ·simp only[h,decide_false,if_false]
   exact mfind_nm k r (i+1)

theorem mlook_nm (k:Int×Int)(m:Nm):D.mlook KN (keyD k) (m.map nmD)=some ((nget k m).map fun u=>(npos k m,u)):=by
 unfold D.mlook
 rw[if_pos (show D.keyOk KN (keyD k)=true from rfl),mfind_nm,nfind_get]
 simp

theorem nput_at (k:Int×Int)(u:D):∀m:Nm,(nput k u m)[npos k m]? = some (k,u)
 | []=>by simp[nput,npos]
 | e :: r=>by
  simp only[nput,npos]
  by_cases h:k=e.1
  ·simp[h]
  ·rw[if_neg h,if_neg h,List.getElem?_cons_succ,nput_at k u r]

theorem set_nput (k:Int×Int)(u v:D):∀m:Nm,(nput k u m).set (npos k m) (k,v)=nput k v m
 | []=>by simp[nput,npos]
 | e :: r=>by
  simp only[nput,npos]
  by_cases h:k=e.1
  ·simp[h]
  ·rw[if_neg h,if_neg h,if_neg h,List.set_cons_succ,set_nput k u v r]

theorem set_pos {k:Int×Int}{u x:D}:∀{m:Nm},nget k m=some x→m.set (npos k m) (k,u)=nput k u m
 | [],h=>by simp[nget] at h
 | e :: r,h=>by
  simp only[nget,nput,npos] at h ⊢
  by_cases h1:k=e.1
  ·simp[h1]
  ·rw[if_neg h1] at h
   rw[if_neg h1,if_neg h1,List.set_cons_succ,set_pos h]

theorem app_pos {k:Int×Int}{u:D}:∀{m:Nm},nget k m=none→m++[(k,u)]=nput k u m
 | [],_=>rfl
 | e :: r,h=>by
  simp only[nget,nput] at h ⊢
  by_cases h1:k=e.1
  ·rw[if_pos h1] at h;cases h
  ·rw[if_neg h1] at h
   rw[if_neg h1,List.cons_append,app_pos h]

theorem len_pos {k:Int×Int}:∀{m:Nm},nget k m=none→npos k m=m.length
 | [],_=>rfl
 | e :: r,h=>by
  simp only[nget,npos] at h ⊢
  by_cases h1:k=e.1
  ·rw[if_pos h1] at h;cases h
  ·rw[if_neg h1] at h
   rw[if_neg h1,len_pos h,List.length_cons]

section
variable {bs:List D} {i:Nat} {m:Nm} (hm:bs[i]? = some (.mblk (m.map nmD))) (k:Int×Int)
include hm

theorem get_nm {z x:D}(hx:(nget k m).getD z=x)(h1:x.one=true):D.m4 (.get KN false) (.st bs) (.mp i) (keyD k) z=some x:=by
 simp only[D.m4,D.entries,hm,Option.bind_some,mlook_nm]
 cases h:nget k m with
 | none=>rw[h] at hx;simp at hx;subst hx;simp[h1]
 | some y=>rw[h] at hx;simp at hx;subst hx;simp[h1]

theorem put_nm (u:D):D.m4 (.put KN) (.st bs) (.mp i) (keyD k) u=some (.st (bs.set i (.mblk ((nput k u m).map nmD)))):=by
 simp only[D.m4,D.mput,hm,mlook_nm,Option.map_some]
 cases h:nget k m with
 | none=>simp[←app_pos (u:=u) h,nmD]
 | some y=>simp[←set_pos (u:=u) h,nmD,List.map_set]

theorem entv_nm (z:D):D.m4 (.entv KN) (.st bs) (.mp i) (keyD k) z=some (.tup [(nget k m).getD z,I (npos k m)]):=by
 simp only[D.m4,D.mentv,D.entries,hm,Option.bind_some,mlook_nm,Option.map_some]
 cases h:nget k m with
 | none=>simp[len_pos h,D.int]
 | some y=>simp[D.int]

theorem entm_nm (z:D):D.m4 (.entm KN) (.st bs) (.mp i) (keyD k) z=some (.st (bs.set i (.mblk ((nput k ((nget k m).getD z) m).map nmD)))):=by
 simp only[D.m4,D.mentm,hm,mlook_nm,Option.map_some]
 cases h:nget k m with
 | none=>simp[←app_pos (u:=z) h,nmD]
 | some y=>simp[←set_pos (u:=y) h,nmD,List.map_set]

end

theorem ents_nm {bs:List D}{i:Nat}{m:Nm}{k:Int×Int}{v:D}(hm:bs[i]? = some (.mblk ((nput k v m).map nmD)))(x:D):D.m4 .ents (.st bs) (.mp i) (I (npos k m)) x=some (.st (bs.set i (.mblk ((nput k x m).map nmD)))):=by
 have h:=nput_at k v m
 have hp:pairAt ((nput k v m).map nmD) (npos k m)=some (keyD k,v):=by
  simp[pairAt,h,nmD]
 simp only[D.m4,D.ments,hm]
 rw[if_pos (by omega)]
 simp only[Int.toNat_natCast,hp,Option.map_some]
 rw[←set_nput k v x m,List.map_set]
 rfl

end Go.Am.Wr
