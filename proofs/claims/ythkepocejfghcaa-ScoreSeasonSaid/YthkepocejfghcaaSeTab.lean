/-
 The functions that the chapter's examples reach,as texts.
-/
import Derived.Test.YthkepocejfghcaaAmFntoAmSt2
import Derived.Test.YthkepocejfghcaaSeCfg
import Derived.Test.YthkepocejfghcaaProg
import Derived.KernelRfl
set_option linter.unusedSimpArgs false
set_option linter.unusedVariables false
namespace Go.Am.Sc
open Go.Proofs

noncomputable def t5:T:=(wrapBinds [(.call [] 9 y0 [] [false]),
 (.call [] 10 y0 [] [true]),
 (.ev (.aggN 14 y1)),
 (.ev (.eaddr 3 y2 (.const (.v (.int .i64 0))))),
 (.ev (.ld true 3 y0 y4)),
 (.call [] 11 y0 [(.cons (.cell 0 y3) (.cons (.cell 1 y3) (.cons (.cell 2 y3) (.cons (.cell 3 y3) (.cons (.cell 4 y3) (.cons (.cell 5 y3) (.cons (.cell 6 y3) (.cons (.cell 7 y3) (.cons (.cell 8 y3) (.cons (.cell 9 y3) (.cons (.cell 10 y3) (.cons (.cell 11 y3) (.cons (.cell 12 y3) (.cons (.cell 13 y3) .nil)))))))))))))),y5,(.const (.v (.int .i64 2)))] [true,true]),
 (.call [] 12 y0 [(.cons (.cell 0 y3) (.cons (.cell 1 y3) (.cons (.cell 2 y3) (.cons (.cell 3 y3) (.cons (.cell 4 y3) (.cons (.cell 5 y3) (.cons (.cell 6 y3) (.cons (.cell 7 y3) (.cons (.cell 8 y3) (.cons (.cell 9 y3) (.cons (.cell 10 y3) (.cons (.cell 11 y3) (.cons (.cell 12 y3) (.cons (.cell 13 y3) .nil)))))))))))))),y2,(.const (.v (.int .i64 0)))] [true,true]),
 (.call [] 12 y0 [(.cons (.cell 0 y3) (.cons (.cell 1 y3) (.cons (.cell 2 y3) (.cons (.cell 3 y3) (.cons (.cell 4 y3) (.cons (.cell 5 y3) (.cons (.cell 6 y3) (.cons (.cell 7 y3) (.cons (.cell 8 y3) (.cons (.cell 9 y3) (.cons (.cell 10 y3) (.cons (.cell 11 y3) (.cons (.cell 12 y3) (.cons (.cell 13 y3) .nil)))))))))))))),y2,(.const (.v (.int .i64 1)))] [true,true]),
 (.call [] 13 y0 [(.cons (.cell 0 y3) (.cons (.cell 1 y3) (.cons (.cell 2 y3) (.cons (.cell 3 y3) (.cons (.cell 4 y3) (.cons (.cell 5 y3) (.cons (.cell 6 y3) (.cons (.cell 7 y3) (.cons (.cell 8 y3) (.cons (.cell 9 y3) (.cons (.cell 10 y3) (.cons (.cell 11 y3) (.cons (.cell 12 y3) (.cons (.cell 13 y3) .nil)))))))))))))),y2,(.const (.v (.int .i64 2))),(.const (.v (.int .i64 1)))] [true,true]),
 (.call [] 14 y0 [(.cons (.cell 0 y3) (.cons (.cell 1 y3) (.cons (.cell 2 y3) (.cons (.cell 3 y3) (.cons (.cell 4 y3) (.cons (.cell 5 y3) (.cons (.cell 6 y3) (.cons (.cell 7 y3) (.cons (.cell 8 y3) (.cons (.cell 9 y3) (.cons (.cell 10 y3) (.cons (.cell 11 y3) (.cons (.cell 12 y3) (.cons (.cell 13 y3) .nil)))))))))))))),y2] [true,true]),
 (.ev (.lcons (.scal (.const (.v (.int .i64 10)))) (.lcons (.scal (.const (.v (.int .i64 6)))) (.lcons (.scal (.const (.v (.int .i64 0)))) (.const (.lst [])))))),
 (.ev (.lcons (.scal (.const (.v (.int .i64 8)))) (.lcons (.scal (.const (.v (.int .i64 8)))) (.lcons (.scal (.const (.v (.int .i64 4)))) (.const (.lst [])))))),
 (.ev (.lcons (.scal y11) (.lcons (.scal y12) (.const (.lst []))))),
 (.call [] 6 y0 [y13,(.const (.v (.int .i64 1)))] [true,true,true]),
 (.ev (.bin .neq .int (.tget 1 y6) (.const (.v (.int .i64 0))))),
 (.ev (.guard y15 false (.tget 1 y7))),
 (.ev (.guard y15 false (.bin .neq .int y16 (.const (.v (.int .i64 0)))))),
 (.ev (.ite y15 (.const (.v (.bool true))) y17)),
 (.ev (.guard y18 false (.tget 1 y8))),
 (.ev (.guard y18 false (.bin .neq .int y19 (.const (.v (.int .i64 0)))))),
 (.ev (.ite y18 (.const (.v (.bool true))) y20)),
 (.ev (.guard y21 false (.tget 1 y9))),
 (.ev (.guard y21 false (.bin .neq .int y22 (.const (.v (.int .i64 0)))))),
 (.ev (.ite y21 (.const (.v (.bool true))) y23)),
 (.ev (.guard y24 false (.tget 1 y10))),
 (.ev (.guard y24 false (.bin .neq .int y25 (.const (.v (.int .i64 0)))))),
 (.ev (.ite y24 (.const (.v (.bool true))) y26)),
 (.ev (.guard y27 false (.tget 2 y14))),
 (.ev (.guard y27 false (.bin .neq .int y28 (.const (.v (.int .i64 0)))))),
 (.ev (.ite y27 (.const (.v (.bool true))) y29)),
 (.ev (.guard y30 false (.tget 0 y10))),
 (.ev (.guard y30 false (.lenL y31))),
 (.ev (.guard y30 false (.bin .neq .int y32 (.const (.v (.int .i64 3)))))),
 (.ev (.ite y30 (.const (.v (.bool true))) y33))]
 (.ite y34 (.ret (.tcons (.const (.v (.bool false))) (.tcons y0 .tnil))) (wrapBinds [(.ev (.bin .eql .int (.tget 0 y6) (.const (.v (.int .i64 693))))),
 (.ev (.guard y35 true (.tget 0 y7))),
 (.ev (.guard y35 true (.bin .eql .int y36 (.const (.v (.int .i64 310000)))))),
 (.ev (.ite y35 y37 (.const (.v (.bool false))))),
 (.ev (.guard y38 true (.tget 0 y8))),
 (.ev (.guard y38 true (.bin .eql .int y39 (.const (.v (.int .i64 400000)))))),
 (.ev (.ite y38 y40 (.const (.v (.bool false))))),
 (.ev (.guard y41 true (.tget 0 y9))),
 (.ev (.guard y41 true (.bin .eql .int y42 (.const (.v (.int .i64 300000)))))),
 (.ev (.ite y41 y43 (.const (.v (.bool false))))),
 (.ev (.guard y44 true (.tget 0 y10))),
 (.ev (.guard y44 true (.eaddr 7 y45 (.const (.v (.int .i64 0)))))),
 (.ev (.guard y44 true (.padd 0 y46))),
 (.ev (.guard y44 true (.ld false 1 y0 y47))),
 (.ev (.guard y44 true (.bin .eql .int y48 (.const (.v (.int .i64 2)))))),
 (.ev (.ite y44 y49 (.const (.v (.bool false))))),
 (.ev (.guard y50 true (.tget 0 y10))),
 (.ev (.guard y50 true (.eaddr 7 y51 (.const (.v (.int .i64 0)))))),
 (.ev (.guard y50 true (.padd 6 y52))),
 (.ev (.guard y50 true (.ld false 1 y0 y53))),
 (.ev (.guard y50 true (.bin .eql .int y54 (.const (.v (.int .i64 10)))))),
 (.ev (.ite y50 y55 (.const (.v (.bool false))))),
 (.ev (.guard y56 true (.tget 0 y10))),
 (.ev (.guard y56 true (.eaddr 7 y57 (.const (.v (.int .i64 1)))))),
 (.ev (.guard y56 true (.padd 0 y58))),
 (.ev (.guard y56 true (.ld false 1 y0 y59))),
 (.ev (.guard y56 true (.bin .eql .int y60 (.const (.v (.int .i64 0)))))),
 (.ev (.ite y56 y61 (.const (.v (.bool false))))),
 (.ev (.guard y62 true (.tget 0 y10))),
 (.ev (.guard y62 true (.eaddr 7 y63 (.const (.v (.int .i64 1)))))),
 (.ev (.guard y62 true (.padd 6 y64))),
 (.ev (.guard y62 true (.ld false 1 y0 y65))),
 (.ev (.guard y62 true (.bin .eql .int y66 (.const (.v (.int .i64 9)))))),
 (.ev (.ite y62 y67 (.const (.v (.bool false))))),
 (.ev (.guard y68 true (.tget 0 y10))),
 (.ev (.guard y68 true (.eaddr 7 y69 (.const (.v (.int .i64 2)))))),
 (.ev (.guard y68 true (.padd 0 y70))),
 (.ev (.guard y68 true (.ld false 1 y0 y71))),
 (.ev (.guard y68 true (.bin .eql .int y72 (.const (.v (.int .i64 1)))))),
 (.ev (.ite y68 y73 (.const (.v (.bool false))))),
 (.ev (.guard y74 true (.tget 0 y10))),
 (.ev (.guard y74 true (.eaddr 7 y75 (.const (.v (.int .i64 2)))))),
 (.ev (.guard y74 true (.padd 6 y76))),
 (.ev (.guard y74 true (.ld false 1 y0 y77))),
 (.ev (.guard y74 true (.bin .eql .int y78 (.const (.v (.int .i64 0)))))),
 (.ev (.ite y74 y79 (.const (.v (.bool false))))),
 (.ev (.guard y80 true (.tget 0 y14))),
 (.ev (.guard y80 true (.lcons (.scal (.const (.v (.int .i64 0)))) (.lcons (.scal (.const (.v (.int .i64 1)))) (.const (.lst [])))))),
 (.call [(y80,true)] 7 y0 [y81,y82] [true]),
 (.ev (.ite y80 y83 (.const (.v (.bool false))))),
 (.ev (.guard y84 true (.tget 1 y14))),
 (.ev (.guard y84 true (.lcons (.scal (.const (.v (.int .i64 16)))) (.lcons (.scal (.const (.v (.int .i64 16)))) (.const (.lst [])))))),
 (.call [(y84,true)] 7 y0 [y85,y86] [true]),
 (.ev (.ite y84 y87 (.const (.v (.bool false)))))]
 (.ret (.tcons y88 (.tcons y0 .tnil))))))
noncomputable def e5:Entry:={ f:=5,kn:=.plain,cf:=(scf true [] [] Try.f5),own:=false,ones:=[],t:=t5 }
theorem ok5:EntOk Try.prog e5:=EntOk.ofPlain Try.func5 (by kernel_rfl) (by kernel_rfl)

noncomputable def t9:T:=(wrapBinds [(.ev (.cons (.scal (.const (.v (.int .i64 1)))) (.cons (.const (.agg [(.v (.int .i64 0))])) (.cons (.scal (.const (.v (.int .i64 30)))) (.cons (.const (.agg [(.v (.bool false))])) .nil))))),
 (.ev (.cons (.scal (.const (.v (.int .i64 2)))) (.cons (.const (.agg [(.v (.int .i64 0))])) (.cons (.const (.agg [(.v (.int .i64 0))])) (.cons (.const (.agg [(.v (.bool false))])) .nil))))),
 (.ev (.cons (.scal (.const (.v (.int .i64 1)))) (.cons (.const (.agg [(.v (.int .i64 0))])) (.cons (.scal (.const (.v (.int .i64 60)))) (.cons (.const (.agg [(.v (.bool false))])) .nil))))),
 (.ev (.lcons (.aggN 4 y1) (.lcons (.aggN 4 y2) (.lcons (.aggN 4 y3) (.const (.lst [])))))),
 (.ev (.lcons (.scal (.const (.v (.int .i64 10000)))) (.lcons (.scal (.const (.v (.int .i64 60000)))) (.const (.lst []))))),
 (.ev (.lcons (.scal (.const (.v (.int .i64 10)))) (.lcons (.scal (.const (.v (.int .i64 6)))) (.const (.lst []))))),
 (.ev (.lcons (.scal (.const (.v (.int .i64 3)))) (.const (.lst [])))),
 (.ev (.cons (.scal (.const (.v (.int .i64 10000)))) (.cons (.scal (.const (.v (.int .i64 60000)))) (.cons (.scal (.const (.v (.int .i64 15)))) (.cons (.scal (.const (.v (.int .i64 30)))) (.cons (.scal y5) (.cons (.const (.agg [(.v (.bool false))])) (.cons (.const (.agg [(.v (.int .i64 0))])) (.cons (.scal (.const (.v (.int .i64 1)))) (.cons (.scal (.const (.v (.int .i64 100)))) (.cons (.scal (.const (.v (.int .i64 1)))) (.cons (.scal y6) (.cons (.scal y7) .nil))))))))))))),
 (.ev (.cons (.scal y4) (.cons (.scal (.const (.v (.int .i64 1)))) (.cons (.aggN 12 y8) .nil)))),
 (.ev (.aggN 14 y9))]
 (.ret (.tcons (.cons (.cell 0 y10) (.cons (.cell 1 y10) (.cons (.cell 2 y10) (.cons (.cell 3 y10) (.cons (.cell 4 y10) (.cons (.cell 5 y10) (.cons (.cell 6 y10) (.cons (.cell 7 y10) (.cons (.cell 8 y10) (.cons (.cell 9 y10) (.cons (.cell 10 y10) (.cons (.cell 11 y10) (.cons (.cell 12 y10) (.cons (.cell 13 y10) .nil)))))))))))))) (.tcons y0 .tnil))))
noncomputable def e9:Entry:={ f:=9,kn:=.plain,cf:=(scf true [] [] Try.f9),own:=false,ones:=[],t:=t9 }
theorem ok9:EntOk Try.prog e9:=EntOk.ofPlain Try.func9 (by kernel_rfl) (by kernel_rfl)

noncomputable def t10:T:=(wrapBinds [(.ev (.lcons (.scal (.const (.v (.int .i64 600)))) (.const (.lst [])))),
 (.ev (.cons (.scal (.const (.v (.int .i64 630)))) (.cons (.const (.agg [(.v (.int .i64 0))])) (.cons (.const (.agg [(.v (.bool false))])) (.cons (.const (.agg [(.v (.int .i64 0))])) .nil))))),
 (.ev (.cons (.scal (.const (.v (.int .i64 633)))) (.cons (.scal (.const (.v (.int .i64 300000)))) (.cons (.const (.agg [(.v (.bool false))])) (.cons (.const (.agg [(.v (.int .i64 0))])) .nil))))),
 (.ev (.cons (.scal (.const (.v (.int .i64 694)))) (.cons (.const (.agg [(.v (.int .i64 0))])) (.cons (.const (.agg [(.v (.bool false))])) (.cons (.const (.agg [(.v (.int .i64 0))])) .nil))))),
 (.ev (.lcons (.aggN 4 y2) (.lcons (.aggN 4 y3) (.lcons (.aggN 4 y4) (.const (.lst [])))))),
 (.ev (.cons (.const (.agg [(.v (.int .i64 0))])) (.cons (.scal y1) (.cons (.scal y5) .nil)))),
 (.ev (.lcons (.scal (.const (.v (.int .i64 600)))) (.const (.lst [])))),
 (.ev (.cons (.scal (.const (.v (.int .i64 632)))) (.cons (.const (.agg [(.v (.int .i64 0))])) (.cons (.const (.agg [(.v (.bool false))])) (.cons (.const (.agg [(.v (.int .i64 0))])) .nil))))),
 (.ev (.cons (.scal (.const (.v (.int .i64 635)))) (.cons (.scal (.const (.v (.int .i64 310000)))) (.cons (.scal (.const (.v (.bool true)))) (.cons (.const (.agg [(.v (.int .i64 0))])) .nil))))),
 (.ev (.cons (.scal (.const (.v (.int .i64 694)))) (.cons (.const (.agg [(.v (.int .i64 0))])) (.cons (.const (.agg [(.v (.bool false))])) (.cons (.const (.agg [(.v (.int .i64 0))])) .nil))))),
 (.ev (.lcons (.aggN 4 y8) (.lcons (.aggN 4 y9) (.lcons (.aggN 4 y10) (.const (.lst [])))))),
 (.ev (.cons (.const (.agg [(.v (.int .i64 0))])) (.cons (.scal y7) (.cons (.scal y11) .nil)))),
 (.ev (.lcons (.scal (.const (.v (.int .i64 600)))) (.const (.lst [])))),
 (.ev (.cons (.scal (.const (.v (.int .i64 630)))) (.cons (.const (.agg [(.v (.int .i64 0))])) (.cons (.const (.agg [(.v (.bool false))])) (.cons (.const (.agg [(.v (.int .i64 0))])) .nil))))),
 (.ev (.cons (.scal (.const (.v (.int .i64 636)))) (.cons (.const (.agg [(.v (.int .i64 0))])) (.cons (.const (.agg [(.v (.bool false))])) (.cons (.scal (.const (.v (.int .i64 1)))) .nil))))),
 (.ev (.cons (.scal (.const (.v (.int .i64 696)))) (.cons (.const (.agg [(.v (.int .i64 0))])) (.cons (.const (.agg [(.v (.bool false))])) (.cons (.const (.agg [(.v (.int .i64 0))])) .nil))))),
 (.ev (.lcons (.aggN 4 y14) (.lcons (.aggN 4 y15) (.lcons (.aggN 4 y16) (.const (.lst [])))))),
 (.ev (.cons (.const (.agg [(.v (.int .i64 0))])) (.cons (.scal y13) (.cons (.scal y17) .nil)))),
 (.ev (.lcons (.aggN 3 y6) (.lcons (.aggN 3 y12) (.lcons (.aggN 3 y18) (.const (.lst []))))))]
 (.ret (.tcons y19 (.tcons y0 .tnil))))
noncomputable def e10:Entry:={ f:=10,kn:=.plain,cf:=(scf true [] [] Try.f10),own:=false,ones:=[],t:=t10 }
theorem ok10:EntOk Try.prog e10:=EntOk.ofPlain Try.func10 (by kernel_rfl) (by kernel_rfl)

noncomputable def t11:T:=(wrapBinds [(.ev (.aggN 14 y0)),
 (.ev (.aggN 3 y1)),
 (.call [] 25 y3 [(.cons (.cell 0 y4) (.cons (.cell 1 y4) (.cons (.cell 2 y4) (.cons (.cell 3 y4) (.cons (.cell 4 y4) (.cons (.cell 5 y4) (.cons (.cell 6 y4) (.cons (.cell 7 y4) (.cons (.cell 8 y4) (.cons (.cell 9 y4) (.cons (.cell 10 y4) (.cons (.cell 11 y4) (.cons (.cell 12 y4) (.cons (.cell 13 y4) .nil)))))))))))))),(.cons (.cell 0 y5) (.cons (.cell 1 y5) (.cons (.cell 2 y5) .nil)))] [true]),
 (.ev (.bin .neq .int y6 (.const (.v (.int .i64 0))))),
 (.ev (.guard y7 false (.cell 0 y4))),
 (.ev (.guard y7 false (.lenL y8))),
 (.ev (.guard y7 false (.bin .sub .int y9 (.const (.v (.int .i64 1)))))),
 (.call [(y7,false)] 26 y3 [y2,(.const (.v (.int .i64 0))),y10] [true]),
 (.ev (.guard y7 false (.un .not y11))),
 (.ev (.ite y7 (.const (.v (.bool true))) y12)),
 (.ev (.guard y13 false (.cell 0 y4))),
 (.ev (.guard y13 false (.eaddr 4 y14 y2))),
 (.ev (.guard y13 false (.padd 0 y15))),
 (.ev (.guard y13 false (.ld false 1 y3 y16))),
 (.ev (.guard y13 false (.bin .neq .int y17 (.const (.v (.int .i64 1)))))),
 (.ev (.ite y13 (.const (.v (.bool true))) y18))]
 (.ite y19 (.ret (.tcons (.tcons (.const (.v (.int .i64 0))) (.tcons (.const (.v (.int .i64 2))) .tnil)) (.tcons y3 .tnil))) (wrapBinds [(.ev (.eaddr 4 (.cell 2 y5) y2)),
 (.ev (.padd 3 y20)),
 (.ev (.ld false 1 y3 y21)),
 (.ev (.bin .eql .int y22 (.const (.v (.int .i64 2)))))]
 (.ite y23 (.ret (.tcons (.tcons (.const (.v (.int .i64 0))) (.tcons (.const (.v (.int .i64 5))) .tnil)) (.tcons y3 .tnil))) (wrapBinds [(.call [] 27 y3 [(.cons (.cell 0 y4) (.cons (.cell 1 y4) (.cons (.cell 2 y4) (.cons (.cell 3 y4) (.cons (.cell 4 y4) (.cons (.cell 5 y4) (.cons (.cell 6 y4) (.cons (.cell 7 y4) (.cons (.cell 8 y4) (.cons (.cell 9 y4) (.cons (.cell 10 y4) (.cons (.cell 11 y4) (.cons (.cell 12 y4) (.cons (.cell 13 y4) .nil)))))))))))))),(.cons (.cell 0 y5) (.cons (.cell 1 y5) (.cons (.cell 2 y5) .nil))),y2] [true])]
 (.ret (.tcons (.tcons y24 (.tcons (.const (.v (.int .i64 0))) .tnil)) (.tcons y3 .tnil))))))))
noncomputable def e11:Entry:={ f:=11,kn:=.plain,cf:=(scf true [] [] Try.f11),own:=false,ones:=[false,false,true],t:=t11 }
theorem ok11:EntOk Try.prog e11:=EntOk.ofPlain Try.func11 (by kernel_rfl) (by kernel_rfl)

noncomputable def t12:T:=(wrapBinds [(.ev (.aggN 14 y0)),
 (.call [] 28 y3 [(.cons (.cell 0 y4) (.cons (.cell 1 y4) (.cons (.cell 2 y4) (.cons (.cell 3 y4) (.cons (.cell 4 y4) (.cons (.cell 5 y4) (.cons (.cell 6 y4) (.cons (.cell 7 y4) (.cons (.cell 8 y4) (.cons (.cell 9 y4) (.cons (.cell 10 y4) (.cons (.cell 11 y4) (.cons (.cell 12 y4) (.cons (.cell 13 y4) .nil)))))))))))))),y1] [true,true]),
 (.ev (.un .not (.tget 1 y5))),
 (.ev (.guard y6 false (.lenL y1))),
 (.ev (.guard y6 false (.bin .sub .int y7 (.const (.v (.int .i64 1)))))),
 (.call [(y6,false)] 26 y3 [y2,(.const (.v (.int .i64 0))),y8] [true]),
 (.ev (.guard y6 false (.un .not y9))),
 (.ev (.ite y6 (.const (.v (.bool true))) y10))]
 (.ite y11 (.ret (.tcons (.tcons (.const (.v (.int .i64 0))) (.tcons (.const (.v (.int .i64 2))) .tnil)) (.tcons y3 .tnil))) (wrapBinds [(.call [] 29 y3 [(.tget 0 y5),y2] [true])]
 (.ret (.tcons (.tcons y12 (.tcons (.const (.v (.int .i64 0))) .tnil)) (.tcons y3 .tnil))))))
noncomputable def e12:Entry:={ f:=12,kn:=.plain,cf:=(scf true [] [] Try.f12),own:=false,ones:=[false,true,true],t:=t12 }
theorem ok12:EntOk Try.prog e12:=EntOk.ofPlain Try.func12 (by kernel_rfl) (by kernel_rfl)

noncomputable def t13:T:=(wrapBinds [(.ev (.aggN 14 y0)),
 (.call [] 28 y4 [(.cons (.cell 0 y5) (.cons (.cell 1 y5) (.cons (.cell 2 y5) (.cons (.cell 3 y5) (.cons (.cell 4 y5) (.cons (.cell 5 y5) (.cons (.cell 6 y5) (.cons (.cell 7 y5) (.cons (.cell 8 y5) (.cons (.cell 9 y5) (.cons (.cell 10 y5) (.cons (.cell 11 y5) (.cons (.cell 12 y5) (.cons (.cell 13 y5) .nil)))))))))))))),y1] [true,true]),
 (.ev (.un .not (.tget 1 y6))),
 (.ev (.guard y7 false (.lenL y1))),
 (.ev (.guard y7 false (.bin .sub .int y8 (.const (.v (.int .i64 1)))))),
 (.call [(y7,false)] 26 y4 [y2,(.const (.v (.int .i64 0))),y9] [true]),
 (.ev (.guard y7 false (.un .not y10))),
 (.ev (.ite y7 (.const (.v (.bool true))) y11)),
 (.ev (.guard y12 false (.cell 0 y5))),
 (.ev (.guard y12 false (.lenL y13))),
 (.ev (.guard y12 false (.bin .sub .int y14 (.const (.v (.int .i64 1)))))),
 (.call [(y12,false)] 26 y4 [y3,(.const (.v (.int .i64 0))),y15] [true]),
 (.ev (.guard y12 false (.un .not y16))),
 (.ev (.ite y12 (.const (.v (.bool true))) y17)),
 (.ev (.guard y18 false (.tget 0 y6))),
 (.call [(y18,false)] 30 y4 [y19,y3] [true]),
 (.ev (.guard y18 false (.un .not y20))),
 (.ev (.ite y18 (.const (.v (.bool true))) y21))]
 (.ite y22 (.ret (.tcons (.tcons (.const (.v (.int .i64 0))) (.tcons (.const (.v (.int .i64 2))) .tnil)) (.tcons y4 .tnil))) (wrapBinds [(.call [] 31 y4 [(.tget 0 y6),y2,y3] [true]),
 (.ev (.un .not y23))]
 (.ite y24 (.ret (.tcons (.tcons (.const (.v (.int .i64 0))) (.tcons (.const (.v (.int .i64 5))) .tnil)) (.tcons y4 .tnil))) (wrapBinds [(.call [] 32 y4 [(.tget 0 y6),y2,y3] [true])]
 (.ret (.tcons (.tcons y25 (.tcons (.const (.v (.int .i64 0))) .tnil)) (.tcons y4 .tnil))))))))
noncomputable def e13:Entry:={ f:=13,kn:=.plain,cf:=(scf true [] [] Try.f13),own:=false,ones:=[false,true,true,true],t:=t13 }
theorem ok13:EntOk Try.prog e13:=EntOk.ofPlain Try.func13 (by kernel_rfl) (by kernel_rfl)

noncomputable def t7:T:=(wrapBinds [(.ev (.lenL y0)),
 (.ev (.lenL y1)),
 (.ev (.bin .neq .int y3 y4))]
 (.ite y5 (.ret (.tcons (.const (.v (.bool false))) (.tcons y2 .tnil))) (.join 0 4 (.loop 1 [(.const (.v (.int .i64 0)))] (wrapBinds [(.ev (.lenL y0)),
 (.ev (.bin .lss .int y6 y7))]
 (.ite y8 (.join 2 5 (wrapBinds [(.ev (.eaddr 1 y0 y6)),
 (.ev (.ld false 1 y2 y9)),
 (.ev (.eaddr 1 y1 y6)),
 (.ev (.ld false 1 y2 y11)),
 (.ev (.bin .neq .int y10 y12))]
 (.ite y13 (.ret (.tcons (.const (.v (.bool false))) (.tcons y2 .tnil))) (.jump 2 [y9,y10,y11,y12,y13]))) (wrapBinds [(.ev (.bin .add .int y6 (.const (.v (.int .i64 1)))))]
 (.jump 1 [y14]))) (.jump 0 [y6,y6,y7,y8])))) (.ret (.tcons (.const (.v (.bool true))) (.tcons y2 .tnil))))))
noncomputable def e7:Entry:={ f:=7,kn:=.plain,cf:=(scf true [] [] Try.f7),own:=false,ones:=[true,true],t:=t7 }
theorem ok7:EntOk Try.prog e7:=EntOk.ofPlain Try.func7 (by kernel_rfl) (by kernel_rfl)

noncomputable def t50:T:=(wrapBinds [(.ev (.aggN 14 y0)),
 (.ev (.lenL (.cell 0 y2))),
 (.call [] 26 y1 [y3,(.const (.v (.int .i64 1))),(.const (.v (.int .i64 100)))] [true]),
 (.ev (.un .not y4)),
 (.ev (.guard y5 false (.cell 1 y2))),
 (.call [(y5,false)] 26 y1 [y6,(.const (.v (.int .i64 1))),(.const (.v (.int .i64 20)))] [true]),
 (.ev (.guard y5 false (.un .not y7))),
 (.ev (.ite y5 (.const (.v (.bool true))) y8)),
 (.ev (.guard y9 false (.cell 0 y2))),
 (.ev (.guard y9 false (.eaddr 4 y10 (.const (.v (.int .i64 0)))))),
 (.ev (.guard y9 false (.padd 1 y11))),
 (.ev (.guard y9 false (.ld false 1 y1 y12))),
 (.ev (.guard y9 false (.bin .neq .int y13 (.const (.v (.int .i64 0)))))),
 (.ev (.ite y9 (.const (.v (.bool true))) y14))]
 (.ite y15 (.ret (.tcons (.const (.v (.int .i64 2))) (.tcons y1 .tnil))) (wrapBinds [(.ev (.lenL (.cell 0 y2)))]
 (.join 0 2 (.loop 1 [(.const (.v (.int .i64 0)))] (wrapBinds [(.ev (.bin .lss .int y17 y16))]
 (.ite y18 (.join 2 14 (wrapBinds [(.ev (.eaddr 4 (.cell 0 y2) y17)),
 (.ev (.ld true 4 y1 y19)),
 (.ev (.aggN 4 y20)),
 (.ev (.bin .gtr .int y17 (.const (.v (.int .i64 0))))),
 (.ev (.guard y22 true (.cell 1 y21))),
 (.ev (.guard y22 true (.cell 0 y2))),
 (.ev (.guard y22 true (.bin .sub .int y17 (.const (.v (.int .i64 1)))))),
 (.ev (.guard y22 true (.eaddr 4 y24 y25))),
 (.ev (.guard y22 true (.padd 1 y26))),
 (.ev (.guard y22 true (.ld false 1 y1 y27))),
 (.ev (.guard y22 true (.bin .sub .int y23 y28))),
 (.call [(y22,true)] 26 y1 [y29,(.const (.v (.int .i64 0))),(.const (.v (.int .i64 1)))] [true]),
 (.ev (.guard y22 true (.un .not y30))),
 (.ev (.ite y22 y31 (.const (.v (.bool false))))),
 (.ev (.guard y32 false (.cell 1 y21))),
 (.ev (.guard y32 false (.bin .geq .int y33 (.const (.v (.int .i64 6)))))),
 (.ev (.ite y32 (.const (.v (.bool true))) y34))]
 (.ite y35 (.ret (.tcons (.const (.v (.int .i64 2))) (.tcons y1 .tnil))) (.join 3 2 (wrapBinds [(.ev (.bin .eql .int (.cell 0 y21) (.const (.v (.int .i64 1)))))]
 (.join 4 0 (.ite y36 (wrapBinds [(.call [] 26 y1 [(.cell 2 y21),(.const (.v (.int .i64 0))),(.const (.v (.int .i64 1440)))] [true]),
 (.ev (.un .not y37))]
 (.ite y38 (.ret (.tcons (.const (.v (.int .i64 2))) (.tcons y1 .tnil))) (.jump 4 []))) (wrapBinds [(.ev (.bin .eql .int (.cell 0 y21) (.const (.v (.int .i64 2)))))]
 (.ite y37 (wrapBinds [(.ev (.bin .neq .int (.cell 2 y21) (.const (.v (.int .i64 0))))),
 (.ev (.guard y38 false (.cell 3 y21))),
 (.ev (.ite y38 (.const (.v (.bool true))) y39))]
 (.ite y40 (.ret (.tcons (.const (.v (.int .i64 2))) (.tcons y1 .tnil))) (.jump 4 []))) (.ret (.tcons (.const (.v (.int .i64 2))) (.tcons y1 .tnil)))))) (.jump 3 [y36,y36]))) (.jump 2 [y19,y20,y22,y22,y32,y32,y35,(.cell 0 y21),y36,y37,(.cell 0 y21),(.cell 1 y21),(.cell 2 y21),(.cell 3 y21)])))) (wrapBinds [(.ev (.bin .add .int y17 (.const (.v (.int .i64 1)))))]
 (.jump 1 [y33]))) (.jump 0 [y17,y18])))) (wrapBinds [(.ev (.lcons (.scal (.cell 2 y2)) (.lcons (.scal (.cell 3 y2)) (.lcons (.scal (.cell 8 y2)) (.const (.lst [])))))),
 (.call [] 15 y1 [y19,(.const (.v (.int .i64 3))),(.const (.v (.int .i64 3))),(.const (.v (.int .i64 36000000)))] [true]),
 (.ev (.un .not y20)),
 (.ev (.guard y21 false (.cell 4 y2))),
 (.ev (.guard y21 false (.cell 5 y2))),
 (.ev (.guard y21 false (.lcons (.scal y22) (.lcons (.scal y23) (.const (.lst [])))))),
 (.call [(y21,false)] 15 y1 [y24,(.const (.v (.int .i64 2))),(.const (.v (.int .i64 2))),(.const (.v (.int .i64 1440)))] [true]),
 (.ev (.guard y21 false (.un .not y25))),
 (.ev (.ite y21 (.const (.v (.bool true))) y26)),
 (.ev (.guard y27 false (.cell 6 y2))),
 (.call [(y27,false)] 15 y1 [y28,(.const (.v (.int .i64 1))),(.const (.v (.int .i64 10))),(.const (.v (.int .i64 36000000)))] [true]),
 (.ev (.guard y27 false (.un .not y29))),
 (.ev (.ite y27 (.const (.v (.bool true))) y30))]
 (.ite y31 (.ret (.tcons (.const (.v (.int .i64 2))) (.tcons y1 .tnil))) (wrapBinds [(.ev (.bin .lss .int (.cell 9 y2) (.const (.v (.int .i64 1))))),
 (.ev (.guard y32 false (.cell 9 y2))),
 (.ev (.guard y32 false (.bin .gtr .int y33 (.const (.v (.int .i64 4)))))),
 (.ev (.ite y32 (.const (.v (.bool true))) y34)),
 (.ev (.guard y35 false (.cell 10 y2))),
 (.call [(y35,false)] 26 y1 [y36,(.const (.v (.int .i64 100))),(.const (.v (.int .i64 1000)))] [true]),
 (.ev (.guard y35 false (.un .not y37))),
 (.ev (.ite y35 (.const (.v (.bool true))) y38)),
 (.ev (.guard y39 false (.cell 12 y2))),
 (.call [(y39,false)] 15 y1 [y40,(.const (.v (.int .i64 0))),(.const (.v (.int .i64 60))),(.const (.v (.int .i64 1000)))] [true]),
 (.ev (.guard y39 false (.un .not y41))),
 (.ev (.ite y39 (.const (.v (.bool true))) y42)),
 (.ev (.guard y43 false (.cell 13 y2))),
 (.call [(y43,false)] 15 y1 [y44,(.const (.v (.int .i64 0))),(.const (.v (.int .i64 60))),(.const (.v (.int .i64 1000)))] [true]),
 (.ev (.guard y43 false (.un .not y45))),
 (.ev (.ite y43 (.const (.v (.bool true))) y46))]
 (.ite y47 (.ret (.tcons (.const (.v (.int .i64 2))) (.tcons y1 .tnil))) (wrapBinds [(.ev (.lenL (.cell 0 y2))),
 (.ev (.bin .sub .int y48 (.const (.v (.int .i64 1))))),
 (.call [] 26 y1 [(.cell 11 y2),(.const (.v (.int .i64 (-1)))),y49] [true]),
 (.ev (.un .not y50)),
 (.ev (.guard y51 false (.cell 11 y2))),
 (.ev (.guard y51 false (.bin .geq .int y52 (.const (.v (.int .i64 0)))))),
 (.ev (.guard y51 false (.guard y53 true (.cell 0 y2)))),
 (.ev (.guard y51 false (.guard y53 true (.cell 11 y2)))),
 (.ev (.guard y51 false (.guard y53 true (.eaddr 4 y54 y55)))),
 (.ev (.guard y51 false (.guard y53 true (.padd 0 y56)))),
 (.ev (.guard y51 false (.guard y53 true (.ld false 1 y1 y57)))),
 (.ev (.guard y51 false (.guard y53 true (.bin .neq .int y58 (.const (.v (.int .i64 2))))))),
 (.ev (.guard y51 false (.ite y53 y59 (.const (.v (.bool false)))))),
 (.ev (.ite y51 (.const (.v (.bool true))) y60))]
 (.ite y61 (.ret (.tcons (.const (.v (.int .i64 2))) (.tcons y1 .tnil))) (.ret (.tcons (.const (.v (.int .i64 0))) (.tcons y1 .tnil)))))))))))))
noncomputable def e50:Entry:={ f:=50,kn:=.plain,cf:=(scf true [] [] Try.f50),own:=false,ones:=[false],t:=t50 }
theorem ok50:EntOk Try.prog e50:=EntOk.ofPlain Try.func50 (by kernel_rfl) (by kernel_rfl)

noncomputable def t25:T:=(wrapBinds [(.ev (.aggN 14 y0)),
 (.ev (.aggN 3 y1)),
 (.call [] 50 y2 [(.cons (.cell 0 y3) (.cons (.cell 1 y3) (.cons (.cell 2 y3) (.cons (.cell 3 y3) (.cons (.cell 4 y3) (.cons (.cell 5 y3) (.cons (.cell 6 y3) (.cons (.cell 7 y3) (.cons (.cell 8 y3) (.cons (.cell 9 y3) (.cons (.cell 10 y3) (.cons (.cell 11 y3) (.cons (.cell 12 y3) (.cons (.cell 13 y3) .nil))))))))))))))] [true]),
 (.ev (.bin .neq .int y5 (.const (.v (.int .i64 0))))),
 (.ev (.guard y6 false (.cell 0 y4))),
 (.ev (.guard y6 false (.cell 1 y3))),
 (.ev (.guard y6 false (.bin .sub .int y8 (.const (.v (.int .i64 1)))))),
 (.call [(y6,false)] 26 y2 [y7,(.const (.v (.int .i64 0))),y9] [true]),
 (.ev (.guard y6 false (.un .not y10))),
 (.ev (.ite y6 (.const (.v (.bool true))) y11)),
 (.ev (.guard y12 false (.cell 2 y4))),
 (.ev (.guard y12 false (.lenL y13))),
 (.ev (.guard y12 false (.cell 0 y3))),
 (.ev (.guard y12 false (.lenL y15))),
 (.ev (.guard y12 false (.bin .neq .int y14 y16))),
 (.ev (.ite y12 (.const (.v (.bool true))) y17)),
 (.ev (.guard y18 false (.cell 1 y4))),
 (.ev (.guard y18 false (.lenL y19))),
 (.ev (.guard y18 false (.cell 0 y3))),
 (.ev (.guard y18 false (.cell 0 y3))),
 (.ev (.guard y18 false (.lenL y22))),
 (.ev (.guard y18 false (.bin .sub .int y23 (.const (.v (.int .i64 1)))))),
 (.ev (.guard y18 false (.eaddr 4 y21 y24))),
 (.ev (.guard y18 false (.padd 1 y25))),
 (.ev (.guard y18 false (.ld false 1 y2 y26))),
 (.ev (.guard y18 false (.bin .add .int y27 (.const (.v (.int .i64 1)))))),
 (.ev (.guard y18 false (.bin .neq .int y20 y28))),
 (.ev (.ite y18 (.const (.v (.bool true))) y29)),
 (.ev (.guard y30 false (.cell 1 y4))),
 (.call [(y30,false)] 15 y2 [y31,(.const (.v (.int .i64 1))),(.const (.v (.int .i64 6))),(.const (.v (.int .i64 100000)))] [true]),
 (.ev (.guard y30 false (.un .not y32))),
 (.ev (.ite y30 (.const (.v (.bool true))) y33))]
 (.ite y34 (.ret (.tcons (.const (.v (.int .i64 2))) (.tcons y2 .tnil))) (wrapBinds [(.ev (.lenL (.cell 2 y4)))]
 (.join 0 2 (.loop 1 [(.const (.v (.int .i64 0)))] (wrapBinds [(.ev (.bin .lss .int y36 y35))]
 (.ite y37 (.join 2 19 (wrapBinds [(.ev (.eaddr 4 (.cell 2 y4) y36)),
 (.ev (.ld true 4 y2 y38)),
 (.ev (.aggN 4 y39)),
 (.ev (.bin .gtr .int y36 (.const (.v (.int .i64 0))))),
 (.ev (.guard y41 true (.cell 2 y4))),
 (.ev (.guard y41 true (.bin .sub .int y36 (.const (.v (.int .i64 1)))))),
 (.ev (.guard y41 true (.eaddr 4 y42 y43))),
 (.ev (.guard y41 true (.padd 3 y44))),
 (.ev (.guard y41 true (.ld false 1 y2 y45))),
 (.ev (.guard y41 true (.bin .eql .int y46 (.const (.v (.int .i64 2)))))),
 (.ev (.ite y41 y47 (.const (.v (.bool false))))),
 (.ev (.guard y48 true (.cell 0 y3))),
 (.ev (.guard y48 true (.bin .sub .int y36 (.const (.v (.int .i64 1)))))),
 (.ev (.guard y48 true (.eaddr 4 y49 y50))),
 (.ev (.guard y48 true (.padd 1 y51))),
 (.ev (.guard y48 true (.ld false 1 y2 y52))),
 (.ev (.guard y48 true (.cell 0 y3))),
 (.ev (.guard y48 true (.eaddr 4 y54 y36))),
 (.ev (.guard y48 true (.padd 1 y55))),
 (.ev (.guard y48 true (.ld false 1 y2 y56))),
 (.ev (.guard y48 true (.bin .eql .int y53 y57))),
 (.ev (.ite y48 y58 (.const (.v (.bool false))))),
 (.ev (.eaddr 4 (.cell 0 y3) y36)),
 (.ev (.ld true 4 y2 y60)),
 (.call [] 51 y2 [y61,(.cons (.cell 0 y40) (.cons (.cell 1 y40) (.cons (.cell 2 y40) (.cons (.cell 3 y40) .nil))))] [true]),
 (.ev (.un .not y62)),
 (.ev (.guard y63 false (.guard y59 true (.cell 3 y40)))),
 (.ev (.guard y63 false (.guard y59 true (.bin .neq .int y64 (.const (.v (.int .i64 2))))))),
 (.ev (.guard y63 false (.ite y59 y65 (.const (.v (.bool false)))))),
 (.ev (.ite y63 (.const (.v (.bool true))) y66))]
 (.ite y67 (.ret (.tcons (.const (.v (.int .i64 2))) (.tcons y2 .tnil))) (.jump 2 [y59,y38,y39,y41,y41,y48,y48,y59,y60,y61,(.cons (.cell 0 y40) (.cons (.cell 1 y40) (.cons (.cell 2 y40) (.cons (.cell 3 y40) .nil)))),y62,y63,y63,y67,(.cell 0 y40),(.cell 1 y40),(.cell 2 y40),(.cell 3 y40)]))) (wrapBinds [(.ev (.bin .add .int y36 (.const (.v (.int .i64 1)))))]
 (.jump 1 [y57]))) (.jump 0 [y36,y37])))) (.ret (.tcons (.const (.v (.int .i64 0))) (.tcons y2 .tnil)))))))
noncomputable def e25:Entry:={ f:=25,kn:=.plain,cf:=(scf true [] [] Try.f25),own:=false,ones:=[false,false],t:=t25 }
theorem ok25:EntOk Try.prog e25:=EntOk.ofPlain Try.func25 (by kernel_rfl) (by kernel_rfl)

noncomputable def t26:T:=(wrapBinds [(.ev (.bin .geq .int y0 y1)),
 (.ev (.guard y4 true (.bin .leq .int y0 y2))),
 (.ev (.ite y4 y5 (.const (.v (.bool false)))))]
 (.ret (.tcons y6 (.tcons y3 .tnil))))
noncomputable def e26:Entry:={ f:=26,kn:=.plain,cf:=(scf true [] [] Try.f26),own:=false,ones:=[true,true,true],t:=t26 }
theorem ok26:EntOk Try.prog e26:=EntOk.ofPlain Try.func26 (by kernel_rfl) (by kernel_rfl)

noncomputable def t15:T:=(wrapBinds [(.ev (.mkptr (.cons (.scal y3) .nil))),
 (.ev (.lenL y0)),
 (.call [] 26 y4 [y6,y1,y2] [true]),
 (.ev (.guard y7 true (.mkfn 45 .tnil (.tcons y5 .tnil)))),
 (.call [(y7,true)] 44 y4 [y0,y8] [true]),
 (.ev (.guard y7 true (.un .not y9))),
 (.ev (.ite y7 y10 (.const (.v (.bool false)))))]
 (.ret (.tcons y11 (.tcons y4 .tnil))))
noncomputable def e15:Entry:={ f:=15,kn:=.plain,cf:=(scf true [] [] Try.f15),own:=false,ones:=[true,true,true,true],t:=t15 }
theorem ok15:EntOk Try.prog e15:=EntOk.ofPlain Try.func15 (by kernel_rfl) (by kernel_rfl)

noncomputable def t44:T:=(wrapBinds [(.call [] 65 y2 [y0,y1] [true]),
 (.ev (.bin .geq .int y3 (.const (.v (.int .i64 0)))))]
 (.ret (.tcons y4 (.tcons y2 .tnil))))
noncomputable def e44:Entry:={ f:=44,kn:=.plain,cf:=(scf true [] [] Try.f44),own:=false,ones:=[true,true],t:=t44 }
theorem ok44:EntOk Try.prog e44:=EntOk.ofPlain Try.func44 (by kernel_rfl) (by kernel_rfl)

noncomputable def t65:T:=(wrapBinds [(.ev (.lenL y0))]
 (.join 0 2 (.loop 1 [(.const (.v (.int .i64 0)))] (wrapBinds [(.ev (.bin .lss .int y4 y3))]
 (.ite y5 (.join 2 3 (wrapBinds [(.ev (.eaddr 1 y0 y4)),
 (.ev (.ld false 1 y2 y6)),
 (.callv [] y1 y2 [y7] [true])]
 (.ite y8 (.ret (.tcons y4 (.tcons y2 .tnil))) (.jump 2 [y6,y7,y8]))) (wrapBinds [(.ev (.bin .add .int y4 (.const (.v (.int .i64 1)))))]
 (.jump 1 [y9]))) (.jump 0 [y4,y5])))) (.ret (.tcons (.const (.v (.int .i64 (-1)))) (.tcons y2 .tnil)))))
noncomputable def e65:Entry:={ f:=65,kn:=.plain,cf:=(scf true [] [] Try.f65),own:=false,ones:=[true,true],t:=t65 }
theorem ok65:EntOk Try.prog e65:=EntOk.ofPlain Try.func65 (by kernel_rfl) (by kernel_rfl)

noncomputable def t45:T:=(wrapBinds [(.ev (.ld false 1 y2 y1)),
 (.call [] 26 y2 [y0,(.const (.v (.int .i64 0))),y3] [true]),
 (.ev (.un .not y4))]
 (.ret (.tcons y5 (.tcons y2 .tnil))))
noncomputable def e45:Entry:={ f:=45,kn:=.plain,cf:=(scf true [] [] Try.f45),own:=false,ones:=[true,true],t:=t45 }
theorem ok45:EntOk Try.prog e45:=EntOk.ofPlain Try.func45 (by kernel_rfl) (by kernel_rfl)

noncomputable def t51:T:=(wrapBinds [(.ev (.aggN 4 y0)),
 (.ev (.aggN 4 y1)),
 (.call [] 26 y2 [(.cell 0 y4),(.const (.v (.int .i64 0))),(.const (.v (.int .i64 100000)))] [true]),
 (.ev (.un .not y5)),
 (.ev (.guard y6 false (.cell 1 y4))),
 (.call [(y6,false)] 26 y2 [y7,(.const (.v (.int .i64 0))),(.const (.v (.int .i64 36000000)))] [true]),
 (.ev (.guard y6 false (.un .not y8))),
 (.ev (.ite y6 (.const (.v (.bool true))) y9))]
 (.ite y10 (.ret (.tcons (.const (.v (.bool false))) (.tcons y2 .tnil))) (wrapBinds [(.ev (.bin .eql .int (.cell 0 y3) (.const (.v (.int .i64 1)))))]
 (.join 0 6 (wrapBinds [(.ev (.bin .eql .int (.cell 3 y4) (.const (.v (.int .i64 0)))))]
 (.ite y12 (wrapBinds [(.ev (.guard y11 true (.cell 1 y4))),
 (.ev (.guard y11 true (.bin .eql .int y13 (.const (.v (.int .i64 0)))))),
 (.ev (.ite y11 y14 (.const (.v (.bool false))))),
 (.ev (.guard y15 true (.cell 2 y4))),
 (.ev (.guard y15 true (.un .not y16))),
 (.ev (.ite y15 y17 (.const (.v (.bool false))))),
 (.ev (.guard y18 false (.un .not y11))),
 (.ev (.guard y18 false (.guard y19 true (.cell 1 y4)))),
 (.ev (.guard y18 false (.guard y19 true (.bin .gtr .int y20 (.const (.v (.int .i64 0))))))),
 (.ev (.guard y18 false (.ite y19 y21 (.const (.v (.bool false)))))),
 (.ev (.ite y18 (.const (.v (.bool true))) y22))]
 (.ret (.tcons y23 (.tcons y2 .tnil)))) (wrapBinds [(.ev (.bin .eql .int (.cell 3 y4) (.const (.v (.int .i64 1)))))]
 (.ite y13 (wrapBinds [(.ev (.un .not y11)),
 (.ev (.guard y14 true (.cell 1 y4))),
 (.ev (.guard y14 true (.bin .eql .int y15 (.const (.v (.int .i64 0)))))),
 (.ev (.ite y14 y16 (.const (.v (.bool false)))))]
 (.ret (.tcons y17 (.tcons y2 .tnil)))) (wrapBinds [(.ev (.bin .eql .int (.cell 3 y4) (.const (.v (.int .i64 2)))))]
 (.ite y14 (wrapBinds [(.ev (.bin .eql .int (.cell 0 y4) (.const (.v (.int .i64 0))))),
 (.ev (.guard y15 true (.cell 1 y4))),
 (.ev (.guard y15 true (.bin .eql .int y16 (.const (.v (.int .i64 0)))))),
 (.ev (.ite y15 y17 (.const (.v (.bool false))))),
 (.ev (.guard y18 true (.cell 2 y4))),
 (.ev (.guard y18 true (.un .not y19))),
 (.ev (.ite y18 y20 (.const (.v (.bool false)))))]
 (.ret (.tcons y21 (.tcons y2 .tnil)))) (.jump 0 [y12,y12,y13,y13,y14,y14]))))))) (.ret (.tcons (.const (.v (.bool false))) (.tcons y2 .tnil)))))))
noncomputable def e51:Entry:={ f:=51,kn:=.plain,cf:=(scf true [] [] Try.f51),own:=false,ones:=[false,false],t:=t51 }
theorem ok51:EntOk Try.prog e51:=EntOk.ofPlain Try.func51 (by kernel_rfl) (by kernel_rfl)

noncomputable def t27:T:=(wrapBinds [(.ev (.aggN 14 y0)),
 (.ev (.aggN 3 y1)),
 (.ev (.eaddr 4 (.cell 0 y4) y2)),
 (.ev (.padd 1 y6)),
 (.ev (.ld false 1 y3 y7)),
 (.ev (.bin .gtr .int y2 (.const (.v (.int .i64 0))))),
 (.ev (.guard y9 true (.cell 0 y4))),
 (.ev (.guard y9 true (.bin .sub .int y2 (.const (.v (.int .i64 1)))))),
 (.ev (.guard y9 true (.eaddr 4 y10 y11))),
 (.ev (.guard y9 true (.padd 1 y12))),
 (.ev (.guard y9 true (.ld false 1 y3 y13))),
 (.ev (.guard y9 true (.bin .eql .int y14 y8))),
 (.ev (.ite y9 y15 (.const (.v (.bool false)))))]
 (.ite y16 (wrapBinds [(.ev (.bin .sub .int y2 (.const (.v (.int .i64 1))))),
 (.ev (.eaddr 4 (.cell 2 y5) y17)),
 (.ev (.padd 0 y18)),
 (.ev (.ld false 1 y3 y19)),
 (.ev (.eaddr 4 (.cell 0 y4) y2)),
 (.ev (.padd 2 y21)),
 (.ev (.ld false 1 y3 y22)),
 (.ev (.bin .add .int y20 y23))]
 (.ret (.tcons y24 (.tcons y3 .tnil)))) (wrapBinds [(.ev (.eaddr 1 (.cell 1 y5) y8)),
 (.ev (.ld false 1 y3 y17)),
 (.ev (.eaddr 4 (.cell 0 y4) y2)),
 (.ev (.padd 2 y19)),
 (.ev (.ld false 1 y3 y20)),
 (.ev (.bin .add .int y18 y21))]
 (.ret (.tcons y22 (.tcons y3 .tnil))))))
noncomputable def e27:Entry:={ f:=27,kn:=.plain,cf:=(scf true [] [] Try.f27),own:=false,ones:=[false,false,true],t:=t27 }
theorem ok27:EntOk Try.prog e27:=EntOk.ofPlain Try.func27 (by kernel_rfl) (by kernel_rfl)

noncomputable def t79:T:=(wrapBinds [(.ev (.aggN 14 y0)),
 (.ev (.aggN 3 y1)),
 (.ev (.eaddr 4 (.cell 0 y4) y2)),
 (.ev (.padd 0 y6)),
 (.ev (.ld false 1 y3 y7)),
 (.ev (.bin .neq .int y8 (.const (.v (.int .i64 1))))),
 (.ev (.guard y9 false (.cell 2 y5))),
 (.ev (.guard y9 false (.eaddr 4 y10 y2))),
 (.ev (.guard y9 false (.padd 3 y11))),
 (.ev (.guard y9 false (.ld false 1 y3 y12))),
 (.ev (.guard y9 false (.bin .eql .int y13 (.const (.v (.int .i64 2)))))),
 (.ev (.ite y9 (.const (.v (.bool true))) y14))]
 (.ite y15 (.ret (.tcons (.tcons (.const (.v (.int .i64 0))) (.tcons (.const (.v (.int .i64 0))) .tnil)) (.tcons y3 .tnil))) (wrapBinds [(.ev (.eaddr 4 (.cell 2 y5) y2)),
 (.ev (.padd 0 y16)),
 (.ev (.ld false 1 y3 y17)),
 (.call [] 27 y3 [(.cons (.cell 0 y4) (.cons (.cell 1 y4) (.cons (.cell 2 y4) (.cons (.cell 3 y4) (.cons (.cell 4 y4) (.cons (.cell 5 y4) (.cons (.cell 6 y4) (.cons (.cell 7 y4) (.cons (.cell 8 y4) (.cons (.cell 9 y4) (.cons (.cell 10 y4) (.cons (.cell 11 y4) (.cons (.cell 12 y4) (.cons (.cell 13 y4) .nil)))))))))))))),(.cons (.cell 0 y5) (.cons (.cell 1 y5) (.cons (.cell 2 y5) .nil))),y2] [true]),
 (.ev (.bin .sub .int y18 y19))]
 (.join 0 4 (wrapBinds [(.ev (.bin .gtr .int y20 (.const (.v (.int .i64 0)))))]
 (.ite y21 (.ret (.tcons (.tcons (.const (.v (.int .i64 1))) (.tcons y20 .tnil)) (.tcons y3 .tnil))) (wrapBinds [(.ev (.bin .lss .int y20 (.const (.v (.int .i64 0)))))]
 (.ite y22 (wrapBinds [(.ev (.un .neg y20))]
 (.ret (.tcons (.tcons (.const (.v (.int .i64 2))) (.tcons y23 .tnil)) (.tcons y3 .tnil)))) (.jump 0 [y21,y21,y22,y22]))))) (.ret (.tcons (.tcons (.const (.v (.int .i64 0))) (.tcons (.const (.v (.int .i64 0))) .tnil)) (.tcons y3 .tnil)))))))
noncomputable def e79:Entry:={ f:=79,kn:=.plain,cf:=(scf true [] [] Try.f79),own:=false,ones:=[false,false,true],t:=t79 }
theorem ok79:EntOk Try.prog e79:=EntOk.ofPlain Try.func79 (by kernel_rfl) (by kernel_rfl)

noncomputable def t52:T:=(wrapBinds [(.call [] 77 y2 [y0,y1] [true]),
 (.ev (.bin .geq .int y3 (.const (.v (.int .i64 0)))))]
 (.ret (.tcons y4 (.tcons y2 .tnil))))
noncomputable def e52:Entry:={ f:=52,kn:=.plain,cf:=(scf true [] [] Try.f52),own:=false,ones:=[true,true],t:=t52 }
theorem ok52:EntOk Try.prog e52:=EntOk.ofPlain Try.func52 (by kernel_rfl) (by kernel_rfl)

noncomputable def t77:T:=(wrapBinds [(.ev (.lenL y0))]
 (.join 0 2 (.loop 1 [(.const (.v (.int .i64 0)))] (wrapBinds [(.ev (.bin .lss .int y4 y3))]
 (.ite y5 (.join 2 3 (wrapBinds [(.ev (.eaddr 3 y0 y4)),
 (.ev (.ld true 3 y2 y6)),
 (.callv [] y1 y2 [y7] [true])]
 (.ite y8 (.ret (.tcons y4 (.tcons y2 .tnil))) (.jump 2 [y6,y7,y8]))) (wrapBinds [(.ev (.bin .add .int y4 (.const (.v (.int .i64 1)))))]
 (.jump 1 [y9]))) (.jump 0 [y4,y5])))) (.ret (.tcons (.const (.v (.int .i64 (-1)))) (.tcons y2 .tnil)))))
noncomputable def e77:Entry:={ f:=77,kn:=.plain,cf:=(scf true [] [] Try.f77),own:=false,ones:=[true,true],t:=t77 }
theorem ok77:EntOk Try.prog e77:=EntOk.ofPlain Try.func77 (by kernel_rfl) (by kernel_rfl)

noncomputable def t53:T:=(wrapBinds [(.ev (.aggN 3 y0)),
 (.ev (.ld true 14 y2 y1)),
 (.call [] 25 y2 [y4,(.cons (.cell 0 y3) (.cons (.cell 1 y3) (.cons (.cell 2 y3) .nil)))] [true]),
 (.ev (.bin .neq .int y5 (.const (.v (.int .i64 0)))))]
 (.ret (.tcons y6 (.tcons y2 .tnil))))
noncomputable def e53:Entry:={ f:=53,kn:=.plain,cf:=(scf true [] [] Try.f53),own:=false,ones:=[false,true],t:=t53 }
theorem ok53:EntOk Try.prog e53:=EntOk.ofPlain Try.func53 (by kernel_rfl) (by kernel_rfl)

noncomputable def t30:T:=(wrapBinds [(.ev (.nn y0)),
 (.ev (.padd 0 y3)),
 (.ev (.padd 0 y4)),
 (.ev (.ld false 1 y2 y5)),
 (.ev (.eaddr 4 y6 y1)),
 (.ev (.padd 0 y7)),
 (.ev (.ld false 1 y2 y8)),
 (.ev (.bin .eql .int y9 (.const (.v (.int .i64 2)))))]
 (.ret (.tcons y10 (.tcons y2 .tnil))))
noncomputable def e30:Entry:={ f:=30,kn:=.plain,cf:=(scf true [] [] Try.f30),own:=false,ones:=[true,true],t:=t30 }
theorem ok30:EntOk Try.prog e30:=EntOk.ofPlain Try.func30 (by kernel_rfl) (by kernel_rfl)

noncomputable def t31:T:=(wrapBinds [(.ev (.nn y0)),
 (.ev (.padd 15 y4)),
 (.ev (.ld false 1 y3 y5)),
 (.ev (.eaddr 1 y6 y1)),
 (.ev (.ld false 1 y3 y7)),
 (.ev (.bin .lss .int y8 (.const (.v (.int .i64 0))))),
 (.ev (.guard y9 false (.nn y0))),
 (.ev (.guard y9 false (.padd 15 y10))),
 (.ev (.guard y9 false (.ld false 1 y3 y11))),
 (.ev (.guard y9 false (.eaddr 1 y12 y1))),
 (.ev (.guard y9 false (.ld false 1 y3 y13))),
 (.ev (.guard y9 false (.bin .lss .int y2 y14))),
 (.ev (.ite y9 (.const (.v (.bool true))) y15))]
 (.ret (.tcons y16 (.tcons y3 .tnil))))
noncomputable def e31:Entry:={ f:=31,kn:=.plain,cf:=(scf true [] [] Try.f31),own:=false,ones:=[true,true,true],t:=t31 }
theorem ok31:EntOk Try.prog e31:=EntOk.ofPlain Try.func31 (by kernel_rfl) (by kernel_rfl)

noncomputable def t29:T:=(wrapBinds [(.ev (.nn y0)),
 (.ev (.padd 0 y3)),
 (.ev (.padd 0 y4)),
 (.ev (.ld false 1 y2 y5)),
 (.ev (.lenL y6))]
 (.join 0 3 (.loop 1 [(.const (.v (.int .i64 0))),(.const (.v (.int .i64 0)))] (wrapBinds [(.ev (.bin .lss .int y9 y7))]
 (.ite y10 (.join 2 22 (wrapBinds [(.call [] 31 y2 [y0,y1,y9] [true]),
 (.ev (.un .not y11))]
 (.ite y12 (.jump 0 [y8,y9,y10]) (wrapBinds [(.call [] 30 y2 [y0,y9] [true])]
 (.join 3 1 (.ite y13 (wrapBinds [(.call [] 32 y2 [y0,y1,y9] [true]),
 (.ev (.bin .add .int y8 y14))]
 (.jump 3 [y15])) (.jump 3 [y8])) (wrapBinds [(.call [] 55 y2 [y0,y1,y9] [true,true]),
 (.ev (.bin .add .int y14 (.tget 1 y15))),
 (.ev (.nn y0)),
 (.ev (.padd 14 y17)),
 (.ev (.ld false 1 y2 y18)),
 (.ev (.eaddr 3 y19 y1)),
 (.ev (.padd 2 y20)),
 (.ev (.ld false 1 y2 y21)),
 (.ev (.eaddr 4 y22 y9)),
 (.ev (.padd 2 y23)),
 (.ev (.ld false 1 y2 y24))]
 (.join 3 1 (.ite y25 (wrapBinds [(.call [] 56 y2 [y0,y1,y9] [true]),
 (.ev (.bin .add .int y16 y26))]
 (.jump 3 [y27])) (.jump 3 [y16])) (.jump 2 [y26,(.tget 0 y15),(.tget 1 y15),y11,y12,y13,(.tcons (.tget 0 y15) (.tcons (.tget 1 y15) .tnil)),(.tcons (.tget 0 y15) (.tcons (.tget 1 y15) .tnil)),(.tget 0 y15),(.tget 1 y15),y14,(.tget 1 y15),y16,y17,y18,y19,y20,y21,y22,y23,y24,y25]))))))) (wrapBinds [(.ev (.bin .add .int y9 (.const (.v (.int .i64 1)))))]
 (.jump 1 [y11,y33]))) (.jump 0 [y8,y9,y10])))) (.ret (.tcons y8 (.tcons y2 .tnil)))))
noncomputable def e29:Entry:={ f:=29,kn:=.plain,cf:=(scf true [] [] Try.f29),own:=false,ones:=[true,true],t:=t29 }
theorem ok29:EntOk Try.prog e29:=EntOk.ofPlain Try.func29 (by kernel_rfl) (by kernel_rfl)

noncomputable def t55:T:=(wrapBinds [(.ev (.nn y0)),
 (.ev (.padd 0 y4)),
 (.ev (.ld true 14 y3 y5)),
 (.ev (.nn y0)),
 (.ev (.padd 14 y7)),
 (.ev (.ld false 1 y3 y8)),
 (.ev (.eaddr 3 y9 y1)),
 (.ev (.ld true 3 y3 y10)),
 (.call [] 79 y3 [y6,y11,y2] [true,true])]
 (.join 0 6 (wrapBinds [(.ev (.bin .eql .int (.tget 0 y12) (.const (.v (.int .i64 1)))))]
 (.ite y13 (wrapBinds [(.ev (.nn y0)),
 (.ev (.padd 0 y14)),
 (.ev (.padd 2 y15)),
 (.ev (.padd 0 y16)),
 (.ev (.ld false 1 y3 y17)),
 (.ev (.bin .mul .int (.tget 1 y12) y18))]
 (.ret (.tcons (.tcons (.const (.v (.int .i64 1))) (.tcons y19 .tnil)) (.tcons y3 .tnil)))) (wrapBinds [(.ev (.bin .eql .int (.tget 0 y12) (.const (.v (.int .i64 2))))),
 (.ev (.guard y14 true (.nn y0))),
 (.ev (.guard y14 true (.padd 0 y15))),
 (.ev (.guard y14 true (.padd 0 y16))),
 (.ev (.guard y14 true (.ld false 1 y3 y17))),
 (.ev (.guard y14 true (.eaddr 4 y18 y2))),
 (.ev (.guard y14 true (.padd 3 y19))),
 (.ev (.guard y14 true (.ld false 1 y3 y20))),
 (.ev (.guard y14 true (.un .not y21))),
 (.ev (.ite y14 y22 (.const (.v (.bool false)))))]
 (.ite y23 (wrapBinds [(.ev (.nn y0)),
 (.ev (.padd 0 y24)),
 (.ev (.padd 2 y25)),
 (.ev (.padd 1 y26)),
 (.ev (.ld false 1 y3 y27)),
 (.ev (.bin .mul .int (.tget 1 y12) y28))]
 (.ret (.tcons (.tcons (.const (.v (.int .i64 2))) (.tcons y29 .tnil)) (.tcons y3 .tnil)))) (.jump 0 [y13,y13,y23,y14,y14,y23]))))) (.ret (.tcons (.tcons (.tget 0 y12) (.tcons (.const (.v (.int .i64 0))) .tnil)) (.tcons y3 .tnil)))))
noncomputable def e55:Entry:={ f:=55,kn:=.plain,cf:=(scf true [] [] Try.f55),own:=false,ones:=[true,true,true],t:=t55 }
theorem ok55:EntOk Try.prog e55:=EntOk.ofPlain Try.func55 (by kernel_rfl) (by kernel_rfl)

noncomputable def t56:T:=(wrapBinds [(.call [] 80 y3 [y0,y1,y2] [true]),
 (.ev (.lenL y4)),
 (.ev (.nn y0)),
 (.ev (.padd 0 y6)),
 (.ev (.padd 2 y7)),
 (.ev (.padd 4 y8)),
 (.ev (.ld false 1 y3 y9)),
 (.ev (.nn y0)),
 (.ev (.padd 0 y11)),
 (.ev (.padd 2 y12)),
 (.ev (.padd 4 y13)),
 (.ev (.ld false 1 y3 y14)),
 (.ev (.lenL y15)),
 (.ev (.mm false y5 y16)),
 (.ev (.bin .sub .int y17 (.const (.v (.int .i64 1))))),
 (.ev (.eaddr 1 y10 y18)),
 (.ev (.ld false 1 y3 y19))]
 (.ret (.tcons y20 (.tcons y3 .tnil))))
noncomputable def e56:Entry:={ f:=56,kn:=.plain,cf:=(scf true [] [] Try.f56),own:=false,ones:=[true,true,true],t:=t56 }
theorem ok56:EntOk Try.prog e56:=EntOk.ofPlain Try.func56 (by kernel_rfl) (by kernel_rfl)

noncomputable def t80:T:=(wrapBinds [(.ev (.bin .add .int y2 (.const (.v (.int .i64 1)))))]
 (.join 0 3 (.loop 1 [(.const (.lst [])),(.const (.v (.int .i64 0)))] (wrapBinds [(.ev (.bin .lss .int y6 y4))]
 (.ite y7 (.join 2 12 (wrapBinds [(.ev (.nn y0)),
 (.ev (.padd 14 y8)),
 (.ev (.ld false 1 y3 y9)),
 (.ev (.eaddr 3 y10 y1)),
 (.ev (.padd 2 y11)),
 (.ev (.ld false 1 y3 y12)),
 (.ev (.eaddr 4 y13 y6)),
 (.ev (.padd 2 y14)),
 (.ev (.ld false 1 y3 y15)),
 (.call [(y16,true)] 31 y3 [y0,y1,y6] [true]),
 (.ev (.ite y16 y17 (.const (.v (.bool false)))))]
 (.join 3 1 (.ite y18 (wrapBinds [(.ev (.lcons (.scal y6) (.const (.lst [])))),
 (.ev (.app 1 8 y5 y19))]
 (.jump 3 [y20])) (.jump 3 [y5])) (.jump 2 [y19,y8,y9,y10,y11,y12,y13,y14,y15,y16,y16,y18]))) (wrapBinds [(.ev (.bin .add .int y6 (.const (.v (.int .i64 1)))))]
 (.jump 1 [y8,y20]))) (.jump 0 [y5,y6,y7])))) (.ret (.tcons y5 (.tcons y3 .tnil)))))
noncomputable def e80:Entry:={ f:=80,kn:=.plain,cf:=(scf true [] [] Try.f80),own:=false,ones:=[true,true,true],t:=t80 }
theorem ok80:EntOk Try.prog e80:=EntOk.ofPlain Try.func80 (by kernel_rfl) (by kernel_rfl)

noncomputable def t57:T:=(wrapBinds [(.ev (.nn y0)),
 (.ev (.padd 14 y4)),
 (.ev (.ld false 1 y3 y5)),
 (.ev (.eaddr 3 y6 y1)),
 (.ev (.padd 0 y7)),
 (.ev (.ld false 1 y3 y8)),
 (.call [] 33 y3 [y0,y2,y9] [true]),
 (.ev (.lenL y10)),
 (.ev (.bin .gtr .int y11 (.const (.v (.int .i64 0)))))]
 (.ite y12 (.ret (.tcons y10 (.tcons y3 .tnil))) (wrapBinds [(.call [] 33 y3 [y0,y2,(.const (.v (.int .i64 (-1))))] [true])]
 (.ret (.tcons y13 (.tcons y3 .tnil))))))
noncomputable def e57:Entry:={ f:=57,kn:=.plain,cf:=(scf true [] [] Try.f57),own:=false,ones:=[true,true,true],t:=t57 }
theorem ok57:EntOk Try.prog e57:=EntOk.ofPlain Try.func57 (by kernel_rfl) (by kernel_rfl)

noncomputable def t35:T:=(wrapBinds [(.ev (.nn y0)),
 (.ev (.padd 14 y4)),
 (.ev (.ld false 1 y3 y5)),
 (.ev (.eaddr 3 y6 y1)),
 (.ev (.padd 2 y7)),
 (.ev (.ld false 1 y3 y8)),
 (.ev (.eaddr 4 y9 y2)),
 (.ev (.padd 1 y10)),
 (.ev (.ld false 1 y3 y11))]
 (.ret (.tcons y12 (.tcons y3 .tnil))))
noncomputable def e35:Entry:={ f:=35,kn:=.plain,cf:=(scf true [] [] Try.f35),own:=false,ones:=[true,true,true],t:=t35 }
theorem ok35:EntOk Try.prog e35:=EntOk.ofPlain Try.func35 (by kernel_rfl) (by kernel_rfl)

noncomputable def t58:T:=(wrapBinds [(.call [] 36 y4 [y0,y1,y3] [true]),
 (.ev (.lenL y1)),
 (.ev (.bin .sub .int y6 (.const (.v (.int .i64 1))))),
 (.ev (.bin .quo .int y7 (.const (.v (.int .i64 2))))),
 (.ev (.eaddr 1 y5 y8)),
 (.ev (.ld false 1 y4 y9))]
 (.ret (.tcons y10 (.tcons y4 .tnil))))
noncomputable def e58:Entry:={ f:=58,kn:=.plain,cf:=(scf true [] [] Try.f58),own:=false,ones:=[true,true,true,true],t:=t58 }
theorem ok58:EntOk Try.prog e58:=EntOk.ofPlain Try.func58 (by kernel_rfl) (by kernel_rfl)

noncomputable def t59:T:=(wrapBinds [(.call [] 36 y4 [y0,y1,y3] [true]),
 (.ev (.lenL y1)),
 (.ev (.bin .sub .int y6 (.const (.v (.int .i64 1))))),
 (.ev (.eaddr 1 y5 y7)),
 (.ev (.ld false 1 y4 y8))]
 (.ret (.tcons y9 (.tcons y4 .tnil))))
noncomputable def e59:Entry:={ f:=59,kn:=.plain,cf:=(scf true [] [] Try.f59),own:=false,ones:=[true,true,true,true],t:=t59 }
theorem ok59:EntOk Try.prog e59:=EntOk.ofPlain Try.func59 (by kernel_rfl) (by kernel_rfl)

noncomputable def t60:T:=(wrapBinds [(.call [] 36 y4 [y0,y1,y3] [true]),
 (.ev (.eaddr 1 y5 (.const (.v (.int .i64 0))))),
 (.ev (.ld false 1 y4 y6)),
 (.ev (.lenL y1))]
 (.join 0 4 (.loop 1 [(.const (.v (.int .i64 (-1)))),y7,(.const (.v (.int .i64 0)))] (wrapBinds [(.ev (.bin .lss .int y11 y8))]
 (.ite y12 (.join 2 32 (wrapBinds [(.ev (.eaddr 1 y1 y11)),
 (.ev (.ld false 1 y4 y13)),
 (.ev (.nn y0)),
 (.ev (.padd 14 y15)),
 (.ev (.ld false 1 y4 y16)),
 (.ev (.eaddr 3 y17 y14)),
 (.ev (.padd 2 y18)),
 (.ev (.ld false 1 y4 y19)),
 (.ev (.eaddr 4 y20 y3)),
 (.ev (.padd 0 y21)),
 (.ev (.ld false 1 y4 y22)),
 (.call [] 35 y4 [y0,y14,y3] [true]),
 (.ev (.nn y0)),
 (.ev (.padd 14 y25)),
 (.ev (.ld false 1 y4 y26)),
 (.ev (.eaddr 3 y27 y2)),
 (.ev (.padd 2 y28)),
 (.ev (.ld false 1 y4 y29)),
 (.ev (.eaddr 4 y30 y3)),
 (.ev (.padd 0 y31)),
 (.ev (.ld false 1 y4 y32)),
 (.ev (.bin .leq .int y23 y33)),
 (.ev (.guard y34 true (.bin .gtr .int y23 y9))),
 (.ev (.guard y34 true (.guard y35 false (.bin .eql .int y23 y9)))),
 (.ev (.guard y34 true (.guard y35 false (.guard y36 true (.bin .gtr .int y24 y10))))),
 (.ev (.guard y34 true (.guard y35 false (.ite y36 y37 (.const (.v (.bool false))))))),
 (.ev (.guard y34 true (.ite y35 (.const (.v (.bool true))) y38))),
 (.ev (.ite y34 y39 (.const (.v (.bool false)))))]
 (.join 3 2 (.ite y40 (.jump 3 [y23,y24]) (.jump 3 [y9,y10])) (.jump 2 [y41,y42,y14,y23,y24,y13,y14,y15,y16,y17,y14,y18,y19,y20,y21,y22,y23,y14,y24,y23,y25,y26,y27,y28,y29,y30,y31,y32,y33,y34,y34,y40]))) (wrapBinds [(.ev (.bin .add .int y11 (.const (.v (.int .i64 1)))))]
 (.jump 1 [y13,y14,y45]))) (.jump 0 [y9,y10,y11,y12])))) (.ret (.tcons y10 (.tcons y4 .tnil)))))
noncomputable def e60:Entry:={ f:=60,kn:=.plain,cf:=(scf true [] [] Try.f60),own:=false,ones:=[true,true,true,true],t:=t60 }
theorem ok60:EntOk Try.prog e60:=EntOk.ofPlain Try.func60 (by kernel_rfl) (by kernel_rfl)

noncomputable def t61:T:=(wrapBinds [(.call [] 36 y4 [y0,y1,y3] [true]),
 (.ev (.eaddr 1 y5 (.const (.v (.int .i64 0))))),
 (.ev (.ld false 1 y4 y6)),
 (.ev (.nn y0)),
 (.ev (.padd 0 y8)),
 (.ev (.padd 2 y9)),
 (.ev (.padd 8 y10)),
 (.ev (.ld false 1 y4 y11)),
 (.ev (.bin .mul .int y7 y12)),
 (.ev (.bin .add .int y13 (.const (.v (.int .i64 99))))),
 (.ev (.bin .quo .int y14 (.const (.v (.int .i64 100)))))]
 (.ret (.tcons y15 (.tcons y4 .tnil))))
noncomputable def e61:Entry:={ f:=61,kn:=.plain,cf:=(scf true [] [] Try.f61),own:=false,ones:=[true,true,true,true],t:=t61 }
theorem ok61:EntOk Try.prog e61:=EntOk.ofPlain Try.func61 (by kernel_rfl) (by kernel_rfl)

noncomputable def t43:T:=(wrapBinds [(.ev (.lenL y0)),
 (.ev (.bin .geq .int y1 y3))]
 (.ite y4 (.ret (.tcons (.const (.v (.int .i64 0))) (.tcons y2 .tnil))) (wrapBinds [(.ev (.eaddr 1 y0 y1)),
 (.ev (.ld false 1 y2 y5))]
 (.ret (.tcons y6 (.tcons y2 .tnil))))))
noncomputable def e43:Entry:={ f:=43,kn:=.plain,cf:=(scf true [] [] Try.f43),own:=false,ones:=[true,true],t:=t43 }
theorem ok43:EntOk Try.prog e43:=EntOk.ofPlain Try.func43 (by kernel_rfl) (by kernel_rfl)

noncomputable def t34:T:=(wrapBinds [(.call [] 62 y2 [y0,y1] [true]),
 (.ev (.bin .geq .int y3 (.const (.v (.int .i64 0)))))]
 (.ret (.tcons y4 (.tcons y2 .tnil))))
noncomputable def e34:Entry:={ f:=34,kn:=.plain,cf:=(scf true [] [] Try.f34),own:=false,ones:=[true,true],t:=t34 }
theorem ok34:EntOk Try.prog e34:=EntOk.ofPlain Try.func34 (by kernel_rfl) (by kernel_rfl)

noncomputable def t62:T:=(wrapBinds [(.ev (.lenL y0))]
 (.join 0 2 (.loop 1 [(.const (.v (.int .i64 0)))] (wrapBinds [(.ev (.bin .lss .int y4 y3))]
 (.ite y5 (.join 2 3 (wrapBinds [(.ev (.eaddr 1 y0 y4)),
 (.ev (.ld false 1 y2 y6)),
 (.ev (.bin .eql .int y1 y7))]
 (.ite y8 (.ret (.tcons y4 (.tcons y2 .tnil))) (.jump 2 [y6,y7,y8]))) (wrapBinds [(.ev (.bin .add .int y4 (.const (.v (.int .i64 1)))))]
 (.jump 1 [y9]))) (.jump 0 [y4,y5])))) (.ret (.tcons (.const (.v (.int .i64 (-1)))) (.tcons y2 .tnil)))))
noncomputable def e62:Entry:={ f:=62,kn:=.plain,cf:=(scf true [] [] Try.f62),own:=false,ones:=[true,true],t:=t62 }
theorem ok62:EntOk Try.prog e62:=EntOk.ofPlain Try.func62 (by kernel_rfl) (by kernel_rfl)

noncomputable def t37:T:=(wrapBinds [(.ev (.mkptr (.cons (.scal y0) .nil))),
 (.ev (.mkfn 64 .tnil (.tcons y2 .tnil)))]
 (.ret (.tcons y3 (.tcons y1 .tnil))))
noncomputable def e37:Entry:={ f:=37,kn:=.plain,cf:=(scf true [] [] Try.f37),own:=false,ones:=[true],t:=t37 }
theorem ok37:EntOk Try.prog e37:=EntOk.ofPlain Try.func37 (by kernel_rfl) (by kernel_rfl)

noncomputable def t38:T:=(wrapBinds [(.ev (.ld false 1 y3 y2)),
 (.ev (.eaddr 1 y4 y0)),
 (.ev (.ld false 1 y3 y5)),
 (.ev (.ld false 1 y3 y2)),
 (.ev (.eaddr 1 y7 y1)),
 (.ev (.ld false 1 y3 y8)),
 (.call [] 22 y3 [y6,y9] [true])]
 (.ret (.tcons y10 (.tcons y3 .tnil))))
noncomputable def e38:Entry:={ f:=38,kn:=.plain,cf:=(scf true [] [] Try.f38),own:=false,ones:=[true,true,true],t:=t38 }
theorem ok38:EntOk Try.prog e38:=EntOk.ofPlain Try.func38 (by kernel_rfl) (by kernel_rfl)

noncomputable def t39:T:=(wrapBinds [(.ev (.ld false 1 y3 y2)),
 (.ev (.eaddr 1 y4 y1)),
 (.ev (.ld false 1 y3 y5)),
 (.ev (.ld false 1 y3 y2)),
 (.ev (.eaddr 1 y7 y0)),
 (.ev (.ld false 1 y3 y8)),
 (.call [] 22 y3 [y6,y9] [true])]
 (.ret (.tcons y10 (.tcons y3 .tnil))))
noncomputable def e39:Entry:={ f:=39,kn:=.plain,cf:=(scf true [] [] Try.f39),own:=false,ones:=[true,true,true],t:=t39 }
theorem ok39:EntOk Try.prog e39:=EntOk.ofPlain Try.func39 (by kernel_rfl) (by kernel_rfl)

noncomputable def t40:T:=(wrapBinds [(.ev (.ld false 1 y3 y2)),
 (.ev (.eaddr 1 y4 y0)),
 (.ev (.ld false 1 y3 y5)),
 (.ev (.ld false 1 y3 y2)),
 (.ev (.eaddr 1 y7 y1)),
 (.ev (.ld false 1 y3 y8)),
 (.call [] 23 y3 [y6,y9] [true])]
 (.ret (.tcons y10 (.tcons y3 .tnil))))
noncomputable def e40:Entry:={ f:=40,kn:=.plain,cf:=(scf true [] [] Try.f40),own:=false,ones:=[true,true,true],t:=t40 }
theorem ok40:EntOk Try.prog e40:=EntOk.ofPlain Try.func40 (by kernel_rfl) (by kernel_rfl)

noncomputable def t41:T:=(wrapBinds [(.call [] 22 y2 [y0,y1] [true])]
 (.ret (.tcons y3 (.tcons y2 .tnil))))
noncomputable def e41:Entry:={ f:=41,kn:=.plain,cf:=(scf true [] [] Try.f41),own:=false,ones:=[true,true],t:=t41 }
theorem ok41:EntOk Try.prog e41:=EntOk.ofPlain Try.func41 (by kernel_rfl) (by kernel_rfl)

noncomputable def t42:T:=(wrapBinds [(.ev (.ld false 1 y4 y2)),
 (.ev (.padd 2 y3)),
 (.ev (.padd 9 y6)),
 (.ev (.ld false 1 y4 y7)),
 (.call [] 35 y4 [y5,y0,y8] [true]),
 (.ev (.ld false 1 y4 y2)),
 (.ev (.padd 2 y3)),
 (.ev (.padd 9 y11)),
 (.ev (.ld false 1 y4 y12)),
 (.call [] 35 y4 [y10,y1,y13] [true]),
 (.call [] 22 y4 [y9,y14] [true])]
 (.ret (.tcons y15 (.tcons y4 .tnil))))
noncomputable def e42:Entry:={ f:=42,kn:=.plain,cf:=(scf true [] [] Try.f42),own:=false,ones:=[true,true,true,true],t:=t42 }
theorem ok42:EntOk Try.prog e42:=EntOk.ofPlain Try.func42 (by kernel_rfl) (by kernel_rfl)

noncomputable def t64:T:=(wrapBinds [(.ev (.ld false 1 y3 y2)),
 (.ev (.lenL y4))]
 (.join 0 2 (.loop 1 [(.const (.v (.int .i64 0)))] (wrapBinds [(.ev (.bin .lss .int y6 y5))]
 (.ite y7 (.join 2 8 (wrapBinds [(.ev (.eaddr 1 y4 y6)),
 (.ev (.ld false 1 y3 y8)),
 (.callv [] y9 y3 [y0,y1] [true]),
 (.ev (.bin .neq .int y10 (.const (.v (.int .i64 0)))))]
 (.ite y11 (.ret (.tcons y10 (.tcons y3 .tnil))) (.jump 2 [y9,y10,y8,y9,y9,y10,y10,y11]))) (wrapBinds [(.ev (.bin .add .int y6 (.const (.v (.int .i64 1)))))]
 (.jump 1 [y16]))) (.jump 0 [y6,y7])))) (.ret (.tcons (.const (.v (.int .i64 0))) (.tcons y3 .tnil)))))
noncomputable def e64:Entry:={ f:=64,kn:=.plain,cf:=(scf true [] [] Try.f64),own:=false,ones:=[true,true,true],t:=t64 }
theorem ok64:EntOk Try.prog e64:=EntOk.ofPlain Try.func64 (by kernel_rfl) (by kernel_rfl)

noncomputable def t22:T:=(wrapBinds [(.call [] 49 y2 [y0] [true]),
 (.call [] 49 y2 [y1] [true])]
 (.ite y3 (.ite y4 (.ret (.tcons (.const (.v (.int .i64 0))) (.tcons y2 .tnil))) (.ret (.tcons (.const (.v (.int .i64 (-1)))) (.tcons y2 .tnil)))) (.ite y4 (.ret (.tcons (.const (.v (.int .i64 1))) (.tcons y2 .tnil))) (wrapBinds [(.ev (.bin .lss .int y0 y1))]
 (.ite y5 (.ret (.tcons (.const (.v (.int .i64 (-1)))) (.tcons y2 .tnil))) (wrapBinds [(.ev (.bin .gtr .int y0 y1))]
 (.ite y6 (.ret (.tcons (.const (.v (.int .i64 1))) (.tcons y2 .tnil))) (.ret (.tcons (.const (.v (.int .i64 0))) (.tcons y2 .tnil))))))))))
noncomputable def e22:Entry:={ f:=22,kn:=.plain,cf:=(scf true [] [] Try.f22),own:=false,ones:=[true,true],t:=t22 }
theorem ok22:EntOk Try.prog e22:=EntOk.ofPlain Try.func22 (by kernel_rfl) (by kernel_rfl)

noncomputable def t23:T:=(wrapBinds [(.ev (.lenL y0))]
 (.join 0 2 (.loop 1 [(.const (.v (.int .i64 0)))] (wrapBinds [(.ev (.bin .lss .int y4 y3))]
 (.ite y5 (.join 2 14 (wrapBinds [(.ev (.eaddr 1 y0 y4)),
 (.ev (.ld false 1 y2 y6)),
 (.ev (.lenL y1)),
 (.ev (.bin .geq .int y4 y8))]
 (.ite y9 (.ret (.tcons (.const (.v (.int .i64 1))) (.tcons y2 .tnil))) (wrapBinds [(.ev (.eaddr 1 y1 y4)),
 (.ev (.ld false 1 y2 y10)),
 (.call [] 22 y2 [y7,y11] [true]),
 (.ev (.bin .neq .int y12 (.const (.v (.int .i64 0)))))]
 (.ite y13 (.ret (.tcons y12 (.tcons y2 .tnil))) (.jump 2 [y7,y11,y12,y6,y7,y8,y9,y10,y11,y7,y11,y12,y12,y13]))))) (wrapBinds [(.ev (.bin .add .int y4 (.const (.v (.int .i64 1)))))]
 (.jump 1 [y20]))) (.jump 0 [y4,y5])))) (wrapBinds [(.ev (.lenL y0)),
 (.ev (.lenL y1)),
 (.ev (.bin .lss .int y6 y7))]
 (.ite y8 (.ret (.tcons (.const (.v (.int .i64 (-1)))) (.tcons y2 .tnil))) (.ret (.tcons (.const (.v (.int .i64 0))) (.tcons y2 .tnil)))))))
noncomputable def e23:Entry:={ f:=23,kn:=.plain,cf:=(scf true [] [] Try.f23),own:=false,ones:=[true,true],t:=t23 }
theorem ok23:EntOk Try.prog e23:=EntOk.ofPlain Try.func23 (by kernel_rfl) (by kernel_rfl)

noncomputable def t49:T:=(wrapBinds [(.ev (.bin .neq .int y0 y0))]
 (.ret (.tcons y2 (.tcons y1 .tnil))))
noncomputable def e49:Entry:={ f:=49,kn:=.plain,cf:=(scf true [] [] Try.f49),own:=false,ones:=[true],t:=t49 }
theorem ok49:EntOk Try.prog e49:=EntOk.ofPlain Try.func49 (by kernel_rfl) (by kernel_rfl)

noncomputable def t18:T:=(wrapBinds [(.ev (.bin .sub .int y1 y0))]
 (.ret (.tcons y3 (.tcons y2 .tnil))))
noncomputable def e18:Entry:={ f:=18,kn:=.plain,cf:=(scf true [] [] Try.f18),own:=false,ones:=[true,true],t:=t18 }
theorem ok18:EntOk Try.prog e18:=EntOk.ofPlain Try.func18 (by kernel_rfl) (by kernel_rfl)

noncomputable def t20:T:=(wrapBinds [(.ev (.ld false 1 y4 y2)),
 (.ev (.eaddr 1 y5 y1)),
 (.ev (.ld false 1 y4 y6)),
 (.ev (.ld false 1 y4 y2)),
 (.ev (.eaddr 1 y8 y0)),
 (.ev (.ld false 1 y4 y9)),
 (.call [] 22 y4 [y7,y10] [true]),
 (.ev (.ld false 1 y4 y3)),
 (.ev (.eaddr 1 y12 y1)),
 (.ev (.ld false 1 y4 y13)),
 (.ev (.ld false 1 y4 y3)),
 (.ev (.eaddr 1 y15 y0)),
 (.ev (.ld false 1 y4 y16)),
 (.call [] 23 y4 [y14,y17] [true]),
 (.ev (.lcons (.scal y11) (.lcons (.scal y18) (.const (.lst []))))),
 (.call [] 21 y4 [y19] [true])]
 (.ret (.tcons y20 (.tcons y4 .tnil))))
noncomputable def e20:Entry:={ f:=20,kn:=.plain,cf:=(scf true [] [] Try.f20),own:=false,ones:=[true,true,true,true],t:=t20 }
theorem ok20:EntOk Try.prog e20:=EntOk.ofPlain Try.func20 (by kernel_rfl) (by kernel_rfl)

noncomputable def t21:T:=(wrapBinds [(.ev (.lenL y0))]
 (.join 0 2 (.loop 1 [(.const (.v (.int .i64 0)))] (wrapBinds [(.ev (.bin .lss .int y3 y2))]
 (.ite y4 (.join 2 5 (wrapBinds [(.ev (.eaddr 1 y0 y3)),
 (.ev (.ld false 1 y1 y5)),
 (.ev (.bin .neq .int y6 (.const (.v (.int .i64 0)))))]
 (.ite y7 (.ret (.tcons y6 (.tcons y1 .tnil))) (.jump 2 [y6,y5,y6,y6,y7]))) (wrapBinds [(.ev (.bin .add .int y3 (.const (.v (.int .i64 1)))))]
 (.jump 1 [y10]))) (.jump 0 [y3,y4])))) (.ret (.tcons (.const (.v (.int .i64 0))) (.tcons y1 .tnil)))))
noncomputable def e21:Entry:={ f:=21,kn:=.plain,cf:=(scf true [] [] Try.f21),own:=false,ones:=[true],t:=t21 }
theorem ok21:EntOk Try.prog e21:=EntOk.ofPlain Try.func21 (by kernel_rfl) (by kernel_rfl)

noncomputable def t78:T:=(wrapBinds [(.ev (.mkptr (.aggN 14 y0))),
 (.ev (.mkptr (.cons (.scal y1) .nil))),
 (.ev (.mkfn 88 .tnil (.tcons y3 (.tcons y4 .tnil))))]
 (.ret (.tcons y5 (.tcons y2 .tnil))))
noncomputable def e78:Entry:={ f:=78,kn:=.plain,cf:=(scf true [] [] Try.f78),own:=false,ones:=[false,true],t:=t78 }
theorem ok78:EntOk Try.prog e78:=EntOk.ofPlain Try.func78 (by kernel_rfl) (by kernel_rfl)

noncomputable def t28:T:=(wrapBinds [(.ev (.mkptr (.aggN 14 y0))),
 (.ev (.ld true 14 y2 y3)),
 (.call [] 50 y2 [y4] [true]),
 (.ev (.bin .neq .int y5 (.const (.v (.int .i64 0))))),
 (.ev (.guard y6 false (.lenL y1))),
 (.ev (.guard y6 false (.bin .gtr .int y7 (.const (.v (.int .i64 200)))))),
 (.ev (.ite y6 (.const (.v (.bool true))) y8)),
 (.ev (.guard y9 false (.mkfn 53 .tnil (.tcons y3 .tnil)))),
 (.call [(y9,false)] 52 y2 [y1,y10] [true]),
 (.ev (.ite y9 (.const (.v (.bool true))) y11))]
 (.ite y12 (.ret (.tcons (.tcons (.const (.v (.pointer none))) (.tcons (.const (.v (.bool false))) .tnil)) (.tcons y2 .tnil))) (wrapBinds [(.ev (.ld true 14 y2 y3)),
 (.ev (.cons (.aggN 14 y13) (.cons (.scal y1) (.cons (.const (.agg [.snil])) .nil)))),
 (.ev (.newb 75 16 y2 (.aggN 16 y14))),
 (.ev (.lenL y1))]
 (.join 0 3 (.loop 1 [(.const (.v (.int .i64 0))),y15] (wrapBinds [(.ev (.bin .lss .int y17 y16))]
 (.ite y19 (.join 2 16 (wrapBinds [(.ev (.eaddr 3 y1 y17)),
 (.ev (.ld true 3 y18 y20)),
 (.ev (.aggN 3 y21)),
 (.ev (.nn (.fstid y2))),
 (.ev (.padd 15 y23)),
 (.ev (.ld false 1 y18 y24)),
 (.ev (.ld true 14 y18 y3)),
 (.call [] 54 y18 [y26,(.cons (.cell 0 y22) (.cons (.cell 1 y22) (.cons (.cell 2 y22) .nil)))] [true]),
 (.ev (.lcons (.scal y27) (.const (.lst [])))),
 (.ev (.apph 3 1 8 y18 y25 y28)),
 (.ev (.nn (.fstid y2))),
 (.ev (.padd 15 y30)),
 (.ev (.sto 1 y29 y31 (.apps y18 y25 y28)))]
 (.jump 2 [y20,y21,y23,y24,y25,y26,(.cons (.cell 0 y22) (.cons (.cell 1 y22) (.cons (.cell 2 y22) .nil))),y27,y28,(.apps y18 y25 y28),y30,y31,(.cell 0 y22),(.cell 1 y22),(.cell 2 y22),y32])) (wrapBinds [(.ev (.bin .add .int y17 (.const (.v (.int .i64 1)))))]
 (.jump 1 [y36,y35]))) (.jump 0 [y17,y19,y18])))) (.ret (.tcons (.tcons (.fstid y2) (.tcons (.const (.v (.bool true))) .tnil)) (.tcons y19 .tnil)))))))
noncomputable def e28:Entry:={ f:=28,kn:=.plain,cf:={ scf false [] [25] Try.f28 with nils:=true },own:=true,ones:=[false,true],t:=t28 }
theorem ok28:EntOk Try.prog e28:=EntOk.ofPlain Try.func28 (by kernel_rfl) (by kernel_rfl)

noncomputable def t32:T:=(wrapBinds [(.call [] 57 y3 [y0,y1,y2] [true]),
 (.ev (.nn y0)),
 (.ev (.padd 14 y5)),
 (.ev (.ld false 1 y3 y6)),
 (.ev (.eaddr 3 y7 y1)),
 (.ev (.padd 2 y8)),
 (.ev (.ld false 1 y3 y9)),
 (.ev (.eaddr 4 y10 y2)),
 (.ev (.padd 3 y11)),
 (.ev (.ld false 1 y3 y12))]
 (.join 0 4 (wrapBinds [(.ev (.bin .eql .int y13 (.const (.v (.int .i64 0)))))]
 (.ite y14 (wrapBinds [(.call [] 35 y3 [y0,y1,y2] [true])]
 (.ret (.tcons y15 (.tcons y3 .tnil)))) (wrapBinds [(.ev (.bin .eql .int y13 (.const (.v (.int .i64 2)))))]
 (.ite y15 (wrapBinds [(.ev (.lenL y4)),
 (.ev (.bin .eql .int y16 (.const (.v (.int .i64 0)))))]
 (.ite y17 (wrapBinds [(.ev (.nn y0)),
 (.ev (.padd 0 y18)),
 (.ev (.padd 2 y19)),
 (.ev (.padd 6 y20)),
 (.ev (.ld false 1 y3 y21))]
 (.ret (.tcons y22 (.tcons y3 .tnil)))) (wrapBinds [(.call [] 36 y3 [y0,y4,y2] [true]),
 (.ev (.eaddr 1 y18 (.const (.v (.int .i64 0))))),
 (.ev (.ld false 1 y3 y19)),
 (.ev (.nn y0)),
 (.ev (.padd 0 y21)),
 (.ev (.padd 2 y22)),
 (.ev (.padd 6 y23)),
 (.ev (.ld false 1 y3 y24)),
 (.ev (.bin .add .int y20 y25))]
 (.ret (.tcons y26 (.tcons y3 .tnil)))))) (.jump 0 [y14,y14,y15,y15]))))) (wrapBinds [(.ev (.lenL y4)),
 (.ev (.bin .eql .int y18 (.const (.v (.int .i64 0)))))]
 (.ite y19 (.ret (.tcons (.const (.v (.int .i64 0))) (.tcons y3 .tnil))) (wrapBinds [(.ev (.mkfn 58 (.tcons y0 .tnil) .tnil)),
 (.ev (.mkfn 59 (.tcons y0 .tnil) .tnil)),
 (.ev (.mkfn 60 (.tcons y0 .tnil) .tnil)),
 (.ev (.mkfn 61 (.tcons y0 .tnil) .tnil)),
 (.ev (.newb 94 5 y3 (.const (.agg [(.v .nilFunc),(.v .nilFunc),(.v .nilFunc),(.v .nilFunc),(.v .nilFunc)])))),
 (.ev (.sto 5 y24 (.fstid y3) (.cons (.const (.v .nilFunc)) (.cons y20 (.cons y21 (.cons y22 (.cons y23 .nil))))))),
 (.ev (.nn y0)),
 (.ev (.padd 0 y26)),
 (.ev (.padd 2 y27)),
 (.ev (.padd 7 y28)),
 (.ev (.ld false 1 y25 y29)),
 (.ev (.m4 (.elemA 5 1) (.fstid y3) y30 .nil .nil)),
 (.ev (.ld false 1 y25 y31)),
 (.callv [] y32 y25 [y4,y1,y2] [true])]
 (.ret (.tcons y33 (.tcons y25 .tnil))))))))
noncomputable def e32:Entry:={ f:=32,kn:=.plain,cf:=(scf false [] [8] Try.f32),own:=true,ones:=[true,true,true],t:=t32 }
theorem ok32:EntOk Try.prog e32:=EntOk.ofPlain Try.func32 (by kernel_rfl) (by kernel_rfl)

noncomputable def t33:T:=(wrapBinds [(.ev (.nn y0)),
 (.ev (.padd 14 y4)),
 (.ev (.ld false 1 y3 y5)),
 (.ev (.lenL y6))]
 (.join 0 4 (.loop 1 [(.const .snil),(.const (.v (.int .i64 0))),y3] (wrapBinds [(.ev (.bin .lss .int y9 y7))]
 (.ite y11 (.join 2 16 (wrapBinds [(.ev (.eaddr 3 y6 y9)),
 (.ev (.ld true 3 y10 y12)),
 (.ev (.aggN 3 y13)),
 (.ev (.eaddr 4 (.cell 2 y14) y1)),
 (.ev (.padd 3 y15)),
 (.ev (.ld false 1 y10 y16)),
 (.ev (.bin .eql .int y17 (.const (.v (.int .i64 0))))),
 (.call [(y18,true)] 31 y10 [y0,y9,y1] [true]),
 (.ev (.ite y18 y19 (.const (.v (.bool false))))),
 (.ev (.guard y20 true (.bin .lss .int y2 (.const (.v (.int .i64 0)))))),
 (.ev (.guard y20 true (.guard y21 false (.cell 0 y14)))),
 (.ev (.guard y20 true (.guard y21 false (.bin .eql .int y22 y2)))),
 (.ev (.guard y20 true (.ite y21 (.const (.v (.bool true))) y23))),
 (.ev (.ite y20 y24 (.const (.v (.bool false)))))]
 (.join 3 2 (.ite y25 (wrapBinds [(.ev (.lcons (.scal y9) (.const (.lst [])))),
 (.ev (.apph 3 1 8 y10 y8 y26))]
 (.jump 3 [(.apps y10 y8 y26),y27])) (.jump 3 [y8,y10])) (.jump 2 [y26,y12,y13,(.cell 2 y14),y15,y16,y17,y18,y18,y20,y20,y25,(.cell 0 y14),(.cell 1 y14),(.cell 2 y14),y27]))) (wrapBinds [(.ev (.bin .add .int y9 (.const (.v (.int .i64 1)))))]
 (.jump 1 [y12,y28,y27]))) (.jump 0 [y8,y9,y11,y10])))) (.ret (.tcons y8 (.tcons y11 .tnil)))))
noncomputable def e33:Entry:={ f:=33,kn:=.plain,cf:=(scf false [] [7] Try.f33),own:=true,ones:=[true,true,true],t:=t33 }
theorem ok33:EntOk Try.prog e33:=EntOk.ofPlain Try.func33 (by kernel_rfl) (by kernel_rfl)

noncomputable def t36:T:=(wrapBinds [(.ev (.lenL y1))]
 (.join 0 4 (.loop 1 [(.const .snil),(.const (.v (.int .i64 0))),y3] (wrapBinds [(.ev (.bin .lss .int y6 y4))]
 (.ite y8 (.join 2 9 (wrapBinds [(.ev (.eaddr 1 y1 y6)),
 (.ev (.ld false 1 y7 y9)),
 (.call [] 35 y7 [y0,y10,y2] [true]),
 (.ev (.lcons (.scal y11) (.const (.lst [])))),
 (.ev (.apph 3 1 8 y7 y5 y12))]
 (.jump 2 [(.apps y7 y5 y12),y10,y9,y10,y10,y11,y12,(.apps y7 y5 y12),y13])) (wrapBinds [(.ev (.bin .add .int y6 (.const (.v (.int .i64 1)))))]
 (.jump 1 [y9,y18,y17]))) (.jump 0 [y5,y6,y8,y7])))) (wrapBinds [(.wcall [] 63 y8 [y5] [])]
 (.ret (.tcons y5 (.tcons (.tget 1 y9) .tnil))))))
noncomputable def e36:Entry:={ f:=36,kn:=.plain,cf:=(scf false [] [7] Try.f36),own:=true,ones:=[true,true,true],t:=t36 }
theorem ok36:EntOk Try.prog e36:=EntOk.ofPlain Try.func36 (by kernel_rfl) (by kernel_rfl)

noncomputable def t54:T:=(wrapBinds [(.ev (.mkptr (.aggN 14 y0))),
 (.ev (.mkptr (.aggN 3 y1))),
 (.ev (.newb 3 1 y2 (.const (.agg [(.v (.int .i64 0))])))),
 (.ev (.padd 0 y3)),
 (.ev (.ld false 1 y5 y6)),
 (.ev (.padd 0 y3)),
 (.ev (.ld false 1 y5 y8)),
 (.ev (.lenL y9)),
 (.ev (.bin .sub .int y10 (.const (.v (.int .i64 1))))),
 (.ev (.eaddr 4 y7 y11)),
 (.ev (.padd 1 y12)),
 (.ev (.ld false 1 y5 y13)),
 (.ev (.newb 3 1 y5 (.const (.agg [(.v (.int .i64 0))])))),
 (.ev (.sto 1 y15 (.fstid y5) y14)),
 (.ev (.ld false 1 y16 (.fstid y5))),
 (.ev (.bin .add .int y17 (.const (.v (.int .i64 1)))))]
 (.join 0 3 (.loop 1 [(.const (.v (.int .i64 0))),y16] (wrapBinds [(.ev (.bin .lss .int y19 y18))]
 (.ite y21 (.join 2 5 (wrapBinds [(.ev (.newb 3 1 y20 (.const (.agg [(.v (.int .i64 0))])))),
 (.ev (.sto 1 y22 (.fstid y20) y19)),
 (.ev (.newb 3 1 y23 (.const (.agg [(.v (.int .i64 0))])))),
 (.ev (.sto 1 y24 (.fstid y23) (.const (.v (.int .i64 0))))),
 (.ev (.ld true 14 y25 y3)),
 (.ev (.ld false 1 y25 (.fstid y20))),
 (.call [] 78 y25 [y26,y27] [true])]
 (.join 3 1 (.rforx y28 y25 [0,1,2,3,4,5,6,7,11,12,13,14,15,16,17,18,19,20,21,22,23,24,25,26,27] [y0,y1,y3,y4,(.fstid y2),(.fstid y5),(.fstid y20),(.fstid y23),y6,y7,y8,y9,y10,y11,y12,y13,y14,y17,y18,y19,y21,y19,y26,y27,y28] 1 4 none (.join 6 19 (wrapBinds [(.ev (.padd 2 y4)),
 (.ev (.ld false 1 y29 y31)),
 (.ev (.eaddr 4 y32 y30)),
 (.ev (.padd 3 y33)),
 (.ev (.ld false 1 y29 y34)),
 (.ev (.bin .eql .int y35 (.const (.v (.int .i64 2))))),
 (.ev (.guard y36 true (.padd 2 y3))),
 (.ev (.guard y36 true (.padd 5 y37))),
 (.ev (.guard y36 true (.ld false 1 y29 y38))),
 (.ev (.guard y36 true (.un .not y39))),
 (.ev (.guard y36 true (.guard y40 false (.ld false 1 y29 (.fstid y20))))),
 (.ev (.guard y36 true (.guard y40 false (.ld false 1 y29 (.fstid y5))))),
 (.ev (.guard y36 true (.guard y40 false (.bin .eql .int y41 y42)))),
 (.ev (.guard y36 true (.ite y40 (.const (.v (.bool true))) y43))),
 (.ev (.ite y36 y44 (.const (.v (.bool false)))))]
 (.ite y45 (wrapBinds [(.ev (.sto 1 y29 (.fstid y2) y30))]
 (.ret y46)) (wrapBinds [(.ev (.ld true 14 y29 y3)),
 (.ev (.ld true 3 y29 y4)),
 (.call [] 79 y29 [y46,y47,y30] [true,true]),
 (.ev (.bin .eql .int (.tget 0 y48) (.const (.v (.int .i64 1)))))]
 (.join 7 1 (.ite y49 (wrapBinds [(.ev (.ld false 1 y29 (.fstid y23))),
 (.ev (.bin .add .int y50 (.tget 1 y48))),
 (.ev (.sto 1 y29 (.fstid y23) y51)),
 (.ev (.padd 2 y3)),
 (.ev (.padd 2 y53)),
 (.ev (.ld false 1 y52 y54)),
 (.ev (.bin .gtr .int (.tget 1 y48) y55)),
 (.ev (.guard y56 false (.ld false 1 y52 (.fstid y23)))),
 (.ev (.guard y56 false (.padd 2 y3))),
 (.ev (.guard y56 false (.padd 3 y58))),
 (.ev (.guard y56 false (.ld false 1 y52 y59))),
 (.ev (.guard y56 false (.bin .gtr .int y57 y60))),
 (.ev (.ite y56 (.const (.v (.bool true))) y61))]
 (.ite y62 (wrapBinds [(.ev (.sto 1 y52 (.fstid y2) y30))]
 (.ret y63)) (.jump 7 [y52]))) (.jump 7 [y29])) (.jump 6 [(.tget 0 y48),(.tget 1 y48),y31,y32,y33,y34,y35,y36,y36,y45,(.tcons (.tget 0 y48) (.tcons (.tget 1 y48) .tnil)),y46,y47,(.tcons (.tget 0 y48) (.tcons (.tget 1 y48) .tnil)),(.tget 0 y48),(.tget 1 y48),(.tget 0 y48),y49,y50]))))) (.jump 4 [y49])) (.jump 3 [y29]) (.ret (.tcons (.ld false 1 y29 (.fstid y2)) (.tcons y29 .tnil)))) (.jump 2 [(.fstid y23),y26,y27,y28,y29]))) (wrapBinds [(.ev (.bin .add .int y19 (.const (.v (.int .i64 1)))))]
 (.jump 1 [y27,y26]))) (.jump 0 [y19,y21,y20])))) (wrapBinds [(.ev (.sto 1 y21 (.fstid y2) (.const (.v (.int .i64 (-1))))))]
 (.ret (.tcons (.ld false 1 y22 (.fstid y2)) (.tcons y22 .tnil))))))
noncomputable def e54:Entry:={ f:=54,kn:=.plain,cf:=(scf false [] [] Try.f54),own:=true,ones:=[false,false],t:=t54 }
theorem ok54:EntOk Try.prog e54:=EntOk.ofPlain Try.func54 (by kernel_rfl) (by kernel_rfl)

noncomputable def t14:T:=(wrapBinds [(.ev (.mkptr (.aggN 14 y0))),
 (.ev (.ld true 14 y2 y3)),
 (.call [] 28 y2 [y4,y1] [true,true]),
 (.ev (.newb 68 1 y2 (.const (.agg [(.v (.pointer none))])))),
 (.ev (.sto 1 y6 (.fstid y2) (.tget 0 y5))),
 (.ev (.un .not (.tget 1 y5)))]
 (.ite y8 (.ret (.tcons (.tcons (.const (.lst [])) (.tcons (.const (.v (.int .i64 2))) .tnil)) (.tcons y7 .tnil))) (wrapBinds [(.ev (.lenL y1)),
 (.ev (.rep 8 y9 (.v (.int .i64 0)))),
 (.ev (.lenL y1)),
 (.ev (.rep 8 y11 (.v (.int .i64 0)))),
 (.ev (.lenL y1)),
 (.ev (.rep 24 y13 .snil)),
 (.ev (.lenL y1))]
 (.join 0 5 (.loop 1 [(.const .snil),(.const (.lst [])),(.const (.v (.int .i64 0))),(.newb 1000000000 1 (.newb 1000000000 1 (.newb 1000000000 1 (.newv 1000000000 1 (.newv 1000000000 1 (.newv 1000000000 1 y7 y10) y12) y14) (.cons (.fstsl y7 y10) .nil)) (.cons (.fstsl (.newv 1000000000 1 y7 y10) y12) .nil)) (.cons (.fstsl (.newv 1000000000 1 (.newv 1000000000 1 y7 y10) y12) y14) .nil))] (wrapBinds [(.ev (.bin .lss .int y18 y15))]
 (.ite y20 (.join 2 14 (wrapBinds [(.ev (.ld false 1 y19 (.fstid (.newv 1000000000 1 (.newv 1000000000 1 (.newv 1000000000 1 y7 y10) y12) y14)))),
 (.ev (.ld false 1 y19 (.fstid y2))),
 (.call [] 29 y19 [y22,y18] [true]),
 (.ev (.eaddr 1 y21 y18)),
 (.ev (.sto 1 y19 y24 y23)),
 (.ev (.ld false 1 y25 (.fstid y2))),
 (.ev (.nn y26)),
 (.ev (.padd 15 y27)),
 (.ev (.ld false 1 y25 y28)),
 (.ev (.eaddr 1 y29 y18)),
 (.ev (.ld false 1 y25 y30)),
 (.ev (.bin .geq .int y31 (.const (.v (.int .i64 0)))))]
 (.ite y32 (wrapBinds [(.ev (.lcons (.scal y18) (.const (.lst [])))),
 (.ev (.app 1 8 y17 y33))]
 (.jump 2 [y16,y34,y21,y22,y23,y24,y26,y27,y28,y29,y30,y31,y32,y25])) (wrapBinds [(.ev (.lcons (.scal y18) (.const (.lst [])))),
 (.ev (.apph 3 1 8 y25 y16 y33)),
 (.ev (.padd 0 y3)),
 (.ev (.ld false 1 y34 y35)),
 (.ev (.lenL y36))]
 (.join 3 3 (.loop 4 [(.const (.v (.int .i64 0))),y34] (wrapBinds [(.ev (.bin .lss .int y38 y37))]
 (.ite y40 (.join 5 4 (wrapBinds [(.ev (.ld false 1 y39 (.fstid y2))),
 (.call [] 30 y39 [y41,y38] [true]),
 (.ev (.un .not y42))]
 (.ite y43 (.jump 5 [y41,y42,y43,y39]) (wrapBinds [(.ev (.ld false 1 y39 (.fstid (.newb 1000000000 1 (.newb 1000000000 1 (.newv 1000000000 1 (.newv 1000000000 1 (.newv 1000000000 1 y7 y10) y12) y14) (.cons (.fstsl y7 y10) .nil)) (.cons (.fstsl (.newv 1000000000 1 y7 y10) y12) .nil))))),
 (.ev (.ld false 1 y39 (.fstid (.newb 1000000000 1 (.newb 1000000000 1 (.newv 1000000000 1 (.newv 1000000000 1 (.newv 1000000000 1 y7 y10) y12) y14) (.cons (.fstsl y7 y10) .nil)) (.cons (.fstsl (.newv 1000000000 1 y7 y10) y12) .nil))))),
 (.ev (.eaddr 1 y45 y18)),
 (.ev (.ld false 1 y39 y46)),
 (.ev (.ld false 1 y39 (.fstid y2))),
 (.call [] 32 y39 [y48,y18,y38] [true]),
 (.ev (.lcons (.scal y49) (.const (.lst [])))),
 (.ev (.apph 3 1 8 y39 y47 y50)),
 (.ev (.eaddr 1 y44 y18)),
 (.ev (.sto 1 y51 y52 (.apps y39 y47 y50))),
 (.ev (.m4 .same (.ld false 1 y39 (.fstid (.newb 1000000000 1 (.newb 1000000000 1 (.newv 1000000000 1 (.newv 1000000000 1 (.newv 1000000000 1 y7 y10) y12) y14) (.cons (.fstsl y7 y10) .nil)) (.cons (.fstsl (.newv 1000000000 1 y7 y10) y12) .nil)))) (.ld false 1 y51 (.fstid (.newb 1000000000 1 (.newb 1000000000 1 (.newv 1000000000 1 (.newv 1000000000 1 (.newv 1000000000 1 y7 y10) y12) y14) (.cons (.fstsl y7 y10) .nil)) (.cons (.fstsl (.newv 1000000000 1 y7 y10) y12) .nil)))) .nil .nil)),
 (.ev (.ld false 1 y53 (.fstid y2))),
 (.wcall [] 33 y53 [y55,y38,(.const (.v (.int .i64 (-1))))] [true]),
 (.call [] 34 (.tget 1 y56) [(.tget 0 y56),y18] [true]),
 (.ev (.guard y57 true (.ld false 1 (.tget 1 y56) (.fstid y2)))),
 (.call [(y57,true)] 35 (.tget 1 y56) [y58,y18,y38] [true]),
 (.ev (.guard y57 true (.ld false 1 (.tget 1 y56) (.fstid y2)))),
 (.ev (.guard y57 true (.tget 0 y56))),
 (.wcall [(y57,true)] 36 (.tget 1 y56) [y60,y61,y38] [true]),
 (.ev (.guard y57 true (.eaddr 1 (.tget 0 y62) (.const (.v (.int .i64 0)))))),
 (.ev (.guard y57 true (.ld false 1 (.tget 1 y62) y63))),
 (.ev (.guard y57 true (.bin .eql .int y59 y64))),
 (.ev (.ite y57 y65 (.const (.v (.bool false)))))]
 (.join 6 1 (.ite y66 (wrapBinds [(.ev (.ld false 1 (.tget 1 y62) (.fstid (.newb 1000000000 1 (.newv 1000000000 1 (.newv 1000000000 1 (.newv 1000000000 1 y7 y10) y12) y14) (.cons (.fstsl y7 y10) .nil))))),
 (.ev (.eaddr 1 y67 y18)),
 (.ev (.ld false 1 (.tget 1 y62) y68)),
 (.ev (.bin .add .int y69 (.const (.v (.int .i64 1))))),
 (.ev (.eaddr 1 y67 y18)),
 (.ev (.sto 1 (.tget 1 y62) y71 y70))]
 (.jump 6 [y72])) (.jump 6 [(.tget 1 y62)])) (.jump 5 [y41,y42,y43,y67]))))) (wrapBinds [(.ev (.bin .add .int y38 (.const (.v (.int .i64 1)))))]
 (.jump 4 [y45,y44]))) (.jump 3 [y38,y40,y39])))) (.jump 2 [(.apps y25 y16 y33),y17,y21,y22,y23,y24,y26,y27,y28,y29,y30,y31,y32,y40]))))) (wrapBinds [(.ev (.bin .add .int y18 (.const (.v (.int .i64 1)))))]
 (.jump 1 [y21,y22,y35,y34]))) (.jump 0 [y16,y17,y18,y20,y19])))) (wrapBinds [(.ev (.mkfn 38 .tnil (.tcons (.fstid (.newv 1000000000 1 (.newv 1000000000 1 (.newv 1000000000 1 y7 y10) y12) y14)) .tnil))),
 (.ev (.mkfn 39 .tnil (.tcons (.fstid (.newb 1000000000 1 (.newv 1000000000 1 (.newv 1000000000 1 (.newv 1000000000 1 y7 y10) y12) y14) (.cons (.fstsl y7 y10) .nil))) .tnil))),
 (.ev (.mkfn 40 .tnil (.tcons (.fstid (.newb 1000000000 1 (.newb 1000000000 1 (.newv 1000000000 1 (.newv 1000000000 1 (.newv 1000000000 1 y7 y10) y12) y14) (.cons (.fstsl y7 y10) .nil)) (.cons (.fstsl (.newv 1000000000 1 y7 y10) y12) .nil))) .tnil))),
 (.ev (.lcons (.scal y21) (.lcons (.scal y22) (.lcons (.scal y23) (.lcons (.scal (.const (.fn 41 [] []))) (.const (.lst []))))))),
 (.call [] 37 y20 [y24] [true]),
 (.wcall [] 17 y20 [y16,y25] []),
 (.ev (.lenL y1)),
 (.ev (.rep 8 y27 (.v (.int .i64 0)))),
 (.ev (.padd 2 y3)),
 (.ev (.padd 9 y29)),
 (.ev (.ld false 1 (.tget 1 y26) y30)),
 (.ev (.bin .geq .int y31 (.const (.v (.int .i64 0)))))]
 (.join 0 2 (.ite y32 (wrapBinds [(.ev (.ld false 1 (.tget 1 y26) (.fstid y2))),
 (.ev (.padd 2 y3)),
 (.ev (.padd 9 y34)),
 (.ev (.ld false 1 (.tget 1 y26) y35)),
 (.wcall [] 33 (.tget 1 y26) [y33,y36,(.const (.v (.int .i64 (-1))))] [true]),
 (.ev (.mkfn 42 .tnil (.tcons (.fstid y2) (.tcons y3 .tnil)))),
 (.wcall [] 19 (.tget 1 y37) [(.tget 0 y37),y38] []),
 (.ev (.lenL (.tget 0 y37)))]
 (.join 1 3 (.loop 2 [(.const (.v (.int .i64 0))),y28] (wrapBinds [(.ev (.bin .lss .int y41 y40))]
 (.ite y43 (.join 3 9 (wrapBinds [(.ev (.eaddr 1 (.tget 0 y37) y41)),
 (.ev (.ld false 1 (.tget 1 y39) y44)),
 (.ev (.padd 2 y3)),
 (.ev (.padd 11 y46)),
 (.ev (.ld false 1 (.tget 1 y39) y47)),
 (.call [] 43 (.tget 1 y39) [y48,y41] [true]),
 (.ev (.idx y42 y45)),
 (.ev (.set y42 y45 0 y49))]
 (.jump 3 [y45,y44,y45,y45,y46,y47,y48,y49,y51])) (wrapBinds [(.ev (.bin .add .int y41 (.const (.v (.int .i64 1)))))]
 (.jump 2 [y53,y52]))) (.jump 1 [y41,y43,y42])))) (.jump 0 [y43,(.tget 1 y39)]))) (.jump 0 [y28,(.tget 1 y26)])) (wrapBinds [(.ev (.padd 1 y3)),
 (.ev (.ld false 1 y34 y35)),
 (.ev (.rep 8 y36 (.v (.int .i64 0)))),
 (.ev (.lenL y16))]
 (.join 0 4 (.loop 1 [(.const (.lst [])),(.const (.v (.int .i64 0))),y37] (wrapBinds [(.ev (.bin .lss .int y40 y38))]
 (.ite y42 (.join 2 31 (wrapBinds [(.ev (.eaddr 1 y16 y40)),
 (.ev (.ld false 1 y34 y43)),
 (.ev (.eaddr 3 y1 y44)),
 (.ev (.padd 0 y45)),
 (.ev (.ld false 1 y34 y46)),
 (.ev (.idx y41 y47)),
 (.ev (.cell 0 (.idx y41 y47))),
 (.ev (.bin .add .int y49 (.const (.v (.int .i64 1))))),
 (.ev (.idx y41 y47)),
 (.ev (.set y41 y47 0 y50)),
 (.ev (.ld false 1 y34 (.fstid (.newv 1000000000 1 (.newv 1000000000 1 (.newv 1000000000 1 y7 y10) y12) y14)))),
 (.ev (.eaddr 1 y53 y44)),
 (.ev (.ld false 1 y34 y54)),
 (.ev (.bin .add .int y40 (.const (.v (.int .i64 1))))),
 (.ev (.idx y52 y47)),
 (.ev (.cell 0 (.idx y52 y47))),
 (.ev (.padd 2 y3)),
 (.ev (.padd 10 y59)),
 (.ev (.ld false 1 y34 y60)),
 (.call [] 43 y34 [y61,y40] [true]),
 (.ev (.idx y33 y44)),
 (.ev (.cell 0 (.idx y33 y44))),
 (.ev (.bin .add .int y62 y64)),
 (.ev (.cons (.scal y44) (.cons (.scal (.const (.v (.bool true)))) (.cons (.scal (.const (.v (.int .i64 (-1))))) (.cons (.scal y55) (.cons (.scal y56) (.cons (.scal y58) (.cons (.scal y65) .nil)))))))),
 (.ev (.lcons (.aggN 7 y66) (.const (.lst [])))),
 (.ev (.app 7 56 y39 y67))]
 (.jump 2 [y68,y44,y47,y43,y44,y44,y45,y46,y47,y47,y49,y50,y44,y53,y44,y54,y55,y56,y47,y58,y59,y60,y61,y62,y44,y64,y65,y66,y67,y68,y52])) (wrapBinds [(.ev (.bin .add .int y40 (.const (.v (.int .i64 1)))))]
 (.jump 1 [y43,y74,y73]))) (.jump 0 [y39,y40,y42,y41])))) (wrapBinds [(.ev (.lenL y17))]
 (.join 0 3 (.loop 1 [y39,(.const (.v (.int .i64 0)))] (wrapBinds [(.ev (.bin .lss .int y45 y43))]
 (.ite y46 (.join 2 19 (wrapBinds [(.ev (.eaddr 1 y17 y45)),
 (.ev (.ld false 1 y34 y47)),
 (.ev (.ld false 1 y34 (.fstid y2))),
 (.ev (.nn y49)),
 (.ev (.padd 15 y50)),
 (.ev (.ld false 1 y34 y51)),
 (.ev (.eaddr 1 y52 y48)),
 (.ev (.ld false 1 y34 y53)),
 (.ev (.ld false 1 y34 (.fstid (.newv 1000000000 1 (.newv 1000000000 1 (.newv 1000000000 1 y7 y10) y12) y14)))),
 (.ev (.eaddr 1 y55 y48)),
 (.ev (.ld false 1 y34 y56)),
 (.ev (.cons (.scal y48) (.cons (.const (.agg [(.v (.bool false))])) (.cons (.scal y54) (.cons (.scal y57) (.cons (.const (.agg [(.v (.int .i64 0))])) (.cons (.const (.agg [(.v (.int .i64 0))])) (.cons (.const (.agg [(.v (.int .i64 0))])) .nil)))))))),
 (.ev (.lcons (.aggN 7 y58) (.const (.lst [])))),
 (.ev (.app 7 56 y44 y59))]
 (.jump 2 [y60,y48,y47,y48,y48,y49,y50,y51,y52,y48,y53,y54,y55,y48,y56,y57,y58,y59,y60])) (wrapBinds [(.ev (.bin .add .int y45 (.const (.v (.int .i64 1)))))]
 (.jump 1 [y47,y66]))) (.jump 0 [y44,y45,y46])))) (.ret (.tcons (.tcons y44 (.tcons (.const (.v (.int .i64 0))) .tnil)) (.tcons y34 .tnil)))))))))))))
noncomputable def e14:Entry:={ f:=14,kn:=.plain,cf:=(scg [33,36] [6,8] true [(7,1000037),(7,1000040),(7,1000043),(7,1000010),(7,1000011),(7,1000012)] Try.f14),own:=true,ones:=[false,true],t:=t14 }
theorem ok14:EntOk Try.prog e14:=EntOk.ofPlain Try.func14 (by kernel_rfl) (by kernel_rfl)

noncomputable def t6:T:=(wrapBinds [(.ev (.lenL y0)),
 (.ev (.bin .gtr .int y3 (.const (.v (.int .i64 500))))),
 (.ev (.guard y4 false (.bin .lss .int y1 (.const (.v (.int .i64 0)))))),
 (.ev (.ite y4 (.const (.v (.bool true))) y5))]
 (.ite y6 (.ret (.tcons (.tcons (.const (.lst [])) (.tcons (.const (.lst [])) (.tcons (.const (.v (.int .i64 2))) .tnil))) (.tcons y2 .tnil))) (wrapBinds [(.ev (.lenL y0))]
 (.join 0 2 (.loop 1 [(.const (.v (.int .i64 0)))] (wrapBinds [(.ev (.bin .lss .int y8 y7))]
 (.ite y9 (.join 2 13 (wrapBinds [(.ev (.eaddr 1 y0 y8)),
 (.ev (.ld false 1 y2 y10)),
 (.ev (.lenL y11)),
 (.ev (.eaddr 1 y0 (.const (.v (.int .i64 0))))),
 (.ev (.ld false 1 y2 y13)),
 (.ev (.lenL y14)),
 (.ev (.bin .neq .int y12 y15)),
 (.ev (.guard y16 false (.lenL y11))),
 (.ev (.guard y16 false (.bin .geq .int y1 y17))),
 (.ev (.ite y16 (.const (.v (.bool true))) y18)),
 (.call [(y19,false)] 15 y2 [y11,(.const (.v (.int .i64 1))),(.const (.v (.int .i64 40))),(.const (.v (.int .i64 100000)))] [true]),
 (.ev (.guard y19 false (.un .not y20))),
 (.ev (.ite y19 (.const (.v (.bool true))) y21))]
 (.ite y22 (.ret (.tcons (.tcons (.const (.lst [])) (.tcons (.const (.lst [])) (.tcons (.const (.v (.int .i64 2))) .tnil))) (.tcons y2 .tnil))) (.jump 2 [y11,y10,y11,y11,y12,y13,y14,y15,y16,y16,y19,y19,y22]))) (wrapBinds [(.ev (.bin .add .int y8 (.const (.v (.int .i64 1)))))]
 (.jump 1 [y23]))) (.jump 0 [y8,y9])))) (wrapBinds [(.ev (.lenL y0)),
 (.ev (.rep 8 y10 (.v (.int .i64 0)))),
 (.ev (.lenL y0)),
 (.ev (.rep 24 y12 (.lst []))),
 (.ev (.lenL y0))]
 (.join 0 4 (.loop 1 [(.const .snil),(.const (.v (.int .i64 0))),(.newb 1000000000 1 (.newb 1000000000 1 (.newv 1000000000 1 (.newv 1000000000 1 y2 y11) y13) (.cons (.fstsl y2 y11) .nil)) (.cons (.fstsl (.newv 1000000000 1 y2 y11) y13) .nil))] (wrapBinds [(.ev (.bin .lss .int y16 y14))]
 (.ite y18 (.join 2 24 (wrapBinds [(.ev (.eaddr 1 y0 y16)),
 (.ev (.ld false 1 y17 y19)),
 (.ev (.lcons (.scal y16) (.const (.lst [])))),
 (.ev (.apph 3 1 8 y17 y15 y21)),
 (.ev (.ld false 1 y22 (.fstid (.newb 1000000000 1 (.newv 1000000000 1 (.newv 1000000000 1 y2 y11) y13) (.cons (.fstsl y2 y11) .nil))))),
 (.wcall [] 16 y22 [y20] [true]),
 (.ev (.eaddr 1 y23 y16)),
 (.ev (.sto 1 (.tget 1 y24) y25 (.tget 0 y24))),
 (.ev (.m4 .same (.ld false 1 y22 (.fstid (.newb 1000000000 1 (.newv 1000000000 1 (.newv 1000000000 1 y2 y11) y13) (.cons (.fstsl y2 y11) .nil)))) (.ld false 1 (.tget 1 y24) (.fstid (.newb 1000000000 1 (.newv 1000000000 1 (.newv 1000000000 1 y2 y11) y13) (.cons (.fstsl y2 y11) .nil)))) .nil .nil)),
 (.ev (.ld false 1 y26 (.fstid (.newb 1000000000 1 (.newv 1000000000 1 (.newv 1000000000 1 y2 y11) y13) (.cons (.fstsl y2 y11) .nil))))),
 (.ev (.eaddr 1 y28 y16)),
 (.ev (.ld false 1 y26 y29)),
 (.wcall [] 17 y26 [y30,(.const (.fn 18 [] []))] []),
 (.ev (.ld false 1 (.tget 1 y31) (.fstid (.newb 1000000000 1 (.newv 1000000000 1 (.newv 1000000000 1 y2 y11) y13) (.cons (.fstsl y2 y11) .nil))))),
 (.ev (.eaddr 1 y32 y16)),
 (.ev (.ld false 1 (.tget 1 y31) y33)),
 (.ev (.lenL y20)),
 (.ev (.bin .sub .int y35 y1)),
 (.ev (.sub 1 y34 (.const (.v (.int .i64 0))) y36)),
 (.ev (.lenL y37))]
 (.join 3 3 (.loop 4 [(.const (.v (.int .i64 0))),(.tget 1 y31)] (wrapBinds [(.ev (.bin .lss .int y39 y38))]
 (.ite y41 (.join 5 10 (wrapBinds [(.ev (.eaddr 1 y37 y39)),
 (.ev (.ld false 1 y40 y42)),
 (.ev (.ld false 1 y40 (.fstid (.newv 1000000000 1 (.newv 1000000000 1 y2 y11) y13)))),
 (.ev (.eaddr 1 y44 y16)),
 (.ev (.ld false 1 y40 y45)),
 (.ev (.bin .add .int y46 y43)),
 (.ev (.eaddr 1 y44 y16)),
 (.ev (.sto 1 y40 y48 y47))]
 (.jump 5 [y43,y42,y43,y44,y45,y46,y43,y47,y48,y49])) (wrapBinds [(.ev (.bin .add .int y39 (.const (.v (.int .i64 1)))))]
 (.jump 4 [y52,y51]))) (.jump 3 [y39,y41,y40])))) (.jump 2 [(.apps y17 y15 y21),y20,y19,y20,y21,(.apps y17 y15 y21),y23,y20,(.tget 0 y24),y25,y28,y29,y30,y32,y33,y34,y20,y35,y36,y37,y38,y39,y40,y41]))) (wrapBinds [(.ev (.bin .add .int y16 (.const (.v (.int .i64 1)))))]
 (.jump 1 [y19,y43,y42]))) (.jump 0 [y15,y16,y18,y17])))) (wrapBinds [(.ev (.mkfn 20 .tnil (.tcons (.fstid (.newv 1000000000 1 (.newv 1000000000 1 y2 y11) y13)) (.tcons (.fstid (.newb 1000000000 1 (.newv 1000000000 1 (.newv 1000000000 1 y2 y11) y13) (.cons (.fstsl y2 y11) .nil))) .tnil)))),
 (.wcall [] 19 y18 [y15,y19] []),
 (.ev (.lenL y15))]
 (.join 0 3 (.loop 1 [(.const (.lst [])),(.const (.v (.int .i64 0)))] (wrapBinds [(.ev (.bin .lss .int y23 y21))]
 (.ite y24 (.join 2 10 (wrapBinds [(.ev (.eaddr 1 y15 y23)),
 (.ev (.ld false 1 (.tget 1 y20) y25)),
 (.ev (.ld false 1 (.tget 1 y20) (.fstid (.newv 1000000000 1 (.newv 1000000000 1 y2 y11) y13)))),
 (.ev (.eaddr 1 y27 y26)),
 (.ev (.ld false 1 (.tget 1 y20) y28)),
 (.ev (.lcons (.scal y29) (.const (.lst [])))),
 (.ev (.app 1 8 y22 y30))]
 (.jump 2 [y31,y26,y25,y26,y27,y26,y28,y29,y30,y31])) (wrapBinds [(.ev (.bin .add .int y23 (.const (.v (.int .i64 1)))))]
 (.jump 1 [y25,y35]))) (.jump 0 [y22,y23,y24])))) (.ret (.tcons (.tcons y15 (.tcons y22 (.tcons (.const (.v (.int .i64 0))) .tnil))) (.tcons (.tget 1 y20) .tnil)))))))))))
noncomputable def e6:Entry:={ f:=6,kn:=.plain,cf:=(scg [] [11] false [(10,1000053),(10,1000056),(10,1000009),(10,1000010)] Try.f6),own:=true,ones:=[true,true],t:=t6 }
theorem ok6:EntOk Try.prog e6:=EntOk.ofPlain Try.func6 (by kernel_rfl) (by kernel_rfl)

noncomputable def t88:T:=(wrapBinds [(.ev (.padd 0 y1)),
 (.ev (.ld false 1 y3 y4)),
 (.ev (.lenL y5))]
 (.join 0 3 (.loop 1 [(.const (.v (.int .i64 0))),y3] (wrapBinds [(.ev (.bin .lss .int y7 y6))]
 (.ite y9 (.join 2 12 (wrapBinds [(.ev (.eaddr 4 y5 y7)),
 (.ev (.ld true 4 y8 y10)),
 (.ev (.aggN 4 y11)),
 (.ev (.ld false 1 y8 y2)),
 (.ev (.bin .eql .int (.cell 1 y12) y13)),
 (.wcallv [(y14,true)] y0 y8 [y7] [true]),
 (.ev (.guard y14 true (.un .not (.tget 0 y15)))),
 (.ev (.ite y14 y16 (.const (.v (.bool false)))))]
 (.ite y17 (.ret (.tcons .tnil (.tcons (.tget 1 y15) .tnil))) (.jump 2 [y10,y11,(.cell 1 y12),y13,y14,y14,y17,(.cell 0 y12),(.cell 1 y12),(.cell 2 y12),(.cell 3 y12),(.tget 1 y15)]))) (wrapBinds [(.ev (.bin .add .int y7 (.const (.v (.int .i64 1)))))]
 (.jump 1 [y22,y21]))) (.jump 0 [y7,y9,y8])))) (.ret (.tcons .tnil (.tcons y9 .tnil)))))
noncomputable def e88:Entry:={ f:=88,kn:=.plain,cf:=(scf false [1000021] [] Try.f88),own:=false,ones:=[true,true,true],t:=t88 }
theorem ok88:EntOk Try.prog e88:=EntOk.ofPlain Try.func88 (by kernel_rfl) (by kernel_rfl)

noncomputable def t16:T:=(.nilq y0 false (.ite y2 (.ret (.tcons (.const (.lst [])) (.tcons y1 .tnil))) (wrapBinds [(.ev (.const (.lst []))),
 (.ev (.app 1 8 y3 y0))]
 (.ret (.tcons y4 (.tcons y1 .tnil))))))
noncomputable def e16:Entry:={ f:=16,kn:=.plain,cf:=(scf false [] [5] Try.f16),own:=false,ones:=[true],t:=t16 }
theorem ok16:EntOk Try.prog e16:=EntOk.ofPlain Try.func16 (by kernel_rfl) (by kernel_rfl)

noncomputable def t17:T:=(wrapBinds [(.ev (.lenL y0)),
 (.ev (.conv .u64 y3)),
 (.call [] 47 y2 [y4] [true]),
 (.wcall [] 46 y2 [y0,(.const (.v (.int .i64 0))),y3,y5,y1] [])]
 (.ret (.tcons .tnil (.tcons (.tget 1 y6) .tnil))))
noncomputable def e17:Entry:={ f:=17,kn:=.plain,cf:=(scf false [] [] Try.f17),own:=false,ones:=[true,true],t:=t17 }
theorem ok17:EntOk Try.prog e17:=EntOk.ofPlain Try.func17 (by kernel_rfl) (by kernel_rfl)

noncomputable def t19:T:=(wrapBinds [(.ev (.lenL y0)),
 (.wcall [] 48 y2 [y0,y3,y1] [])]
 (.ret (.tcons .tnil (.tcons (.tget 1 y4) .tnil))))
noncomputable def e19:Entry:={ f:=19,kn:=.plain,cf:=(scf false [] [] Try.f19),own:=false,ones:=[true,true],t:=t19 }
theorem ok19:EntOk Try.prog e19:=EntOk.ofPlain Try.func19 (by kernel_rfl) (by kernel_rfl)

noncomputable def t63:T:=(wrapBinds [(.ev (.lenL y0)),
 (.ev (.conv .u64 y2)),
 (.call [] 47 y1 [y3] [true]),
 (.wcall [] 81 y1 [y0,(.const (.v (.int .i64 0))),y2,y4] [])]
 (.ret (.tcons .tnil (.tcons (.tget 1 y5) .tnil))))
noncomputable def e63:Entry:={ f:=63,kn:=.plain,cf:=(scf false [] [] Try.f63),own:=false,ones:=[true],t:=t63 }
theorem ok63:EntOk Try.prog e63:=EntOk.ofPlain Try.func63 (by kernel_rfl) (by kernel_rfl)

noncomputable def t46:T:=(.loop 0 [y1,y2,y3,(.const (.v (.bool true))),(.const (.v (.bool true))),y5] (.join 1 26 (wrapBinds [(.ev (.bin .sub .int y7 y6)),
 (.ev (.bin .leq .int y12 (.const (.v (.int .i64 12)))))]
 (.ite y13 (wrapBinds [(.wcall [] 66 y11 [y0,y6,y7,y4] [])]
 (.ret (.tcons .tnil (.tcons (.tget 1 y14) .tnil)))) (wrapBinds [(.ev (.bin .eql .int y8 (.const (.v (.int .i64 0)))))]
 (.ite y14 (wrapBinds [(.wcall [] 67 y11 [y0,y6,y7,y4] [])]
 (.ret (.tcons .tnil (.tcons (.tget 1 y15) .tnil)))) (wrapBinds [(.ev (.un .not y9))]
 (.join 2 2 (.ite y15 (wrapBinds [(.wcall [] 68 y11 [y0,y6,y7,y4] []),
 (.ev (.bin .sub .int y8 (.const (.v (.int .i64 1)))))]
 (.jump 2 [y17,(.tget 1 y16)])) (.jump 2 [y8,y11])) (wrapBinds [(.wcall [] 69 y17 [y0,y6,y7,y4] [true,true]),
 (.ev (.bin .eql .int (.tget 1 (.tget 0 y18)) (.const (.v (.int .i64 2)))))]
 (.join 2 3 (.ite y19 (wrapBinds [(.wcall [] 70 (.tget 1 y18) [y0,y6,y7,y4] []),
 (.ev (.bin .sub .int y7 (.const (.v (.int .i64 1))))),
 (.ev (.bin .sub .int (.tget 0 (.tget 0 y18)) y6)),
 (.ev (.bin .sub .int y21 y22))]
 (.jump 2 [y23,(.const (.v (.int .i64 1))),(.tget 1 y20)])) (.jump 2 [(.tget 0 (.tget 0 y18)),(.tget 1 (.tget 0 y18)),(.tget 1 y18)])) (wrapBinds [(.ev (.ite y9 y10 (.const (.v (.bool false))))),
 (.ev (.guard y23 true (.bin .eql .int y21 (.const (.v (.int .i64 1)))))),
 (.ev (.ite y23 y24 (.const (.v (.bool false)))))]
 (.join 2 1 (.ite y25 (wrapBinds [(.wcall [] 71 y22 [y0,y6,y7,y4] [true])]
 (.ite (.tget 0 y26) (.ret (.tcons .tnil (.tcons (.tget 1 y26) .tnil))) (.jump 2 [(.tget 1 y26)]))) (.jump 2 [y22])) (wrapBinds [(.ev (.bin .gtr .int y6 (.const (.v (.int .i64 0))))),
 (.ev (.guard y27 true (.bin .sub .int y6 (.const (.v (.int .i64 1)))))),
 (.ev (.guard y27 true (.eaddr 1 y0 y28))),
 (.ev (.guard y27 true (.ld false 1 y26 y29))),
 (.ev (.guard y27 true (.eaddr 1 y0 y20))),
 (.ev (.guard y27 true (.ld false 1 y26 y31))),
 (.callv [(y27,true)] y4 y26 [y30,y32] [true]),
 (.ev (.guard y27 true (.bin .lss .int y33 (.const (.v (.int .i64 0)))))),
 (.ev (.guard y27 true (.un .not y34))),
 (.ev (.ite y27 y35 (.const (.v (.bool false)))))]
 (.ite y36 (wrapBinds [(.wcall [] 72 y26 [y0,y6,y7,y20,y4] [true])]
 (.jump 1 [(.tget 0 y37),y7,y16,y9,y10,y12,y20,y21,y12,y12,y13,y14,y15,(.tcons (.tget 0 (.tget 0 y18)) (.tcons (.tget 1 (.tget 0 y18)) .tnil)),(.tcons (.tget 0 (.tget 0 y18)) (.tcons (.tget 1 (.tget 0 y18)) .tnil)),(.tget 0 (.tget 0 y18)),(.tget 1 (.tget 0 y18)),(.tget 1 (.tget 0 y18)),y19,y23,y23,y25,y27,y27,y36,(.tget 1 y37)])) (wrapBinds [(.wcall [] 73 y26 [y0,y6,y7,y20,y4] [true,true]),
 (.ev (.bin .sub .int (.tget 0 (.tget 0 y37)) y6)),
 (.ev (.bin .sub .int y7 (.tget 0 (.tget 0 y37)))),
 (.ev (.bin .quo .int y12 (.const (.v (.int .i64 8))))),
 (.ev (.bin .lss .int y38 y39))]
 (.join 2 4 (.ite y41 (wrapBinds [(.ev (.bin .geq .int y38 y40)),
 (.wcall [] 46 (.tget 1 y37) [y0,y6,(.tget 0 (.tget 0 y37)),y16,y4] []),
 (.ev (.bin .add .int (.tget 0 (.tget 0 y37)) (.const (.v (.int .i64 1)))))]
 (.jump 2 [y44,y7,y42,(.tget 1 y43)])) (wrapBinds [(.ev (.bin .geq .int y39 y40)),
 (.ev (.bin .add .int (.tget 0 (.tget 0 y37)) (.const (.v (.int .i64 1))))),
 (.wcall [] 46 (.tget 1 y37) [y0,y43,y7,y16,y4] [])]
 (.jump 2 [y6,(.tget 0 (.tget 0 y37)),y42,(.tget 1 y44)]))) (.jump 1 [y42,y43,y16,y44,(.tget 1 (.tget 0 y37)),y12,y20,y21,y12,y12,y13,y14,y15,(.tcons (.tget 0 (.tget 0 y18)) (.tcons (.tget 1 (.tget 0 y18)) .tnil)),(.tcons (.tget 0 (.tget 0 y18)) (.tcons (.tget 1 (.tget 0 y18)) .tnil)),(.tget 0 (.tget 0 y18)),(.tget 1 (.tget 0 y18)),(.tget 1 (.tget 0 y18)),y19,y23,y23,y25,y27,y27,y36,y45]))))))))))))))) (.jump 0 [y12,y13,y14,y15,y16,y37])))
noncomputable def e46:Entry:={ f:=46,kn:=.plain,cf:=(scf false [] [] Try.f46),own:=false,ones:=[true,true,true,true,true],t:=t46 }
theorem ok46:EntOk Try.prog e46:=EntOk.ofPlain Try.func46 (by kernel_rfl) (by kernel_rfl)

noncomputable def t48:T:=(.join 0 5 (.loop 1 [(.const (.v (.int .i64 0))),(.const (.v (.int .i64 20))),y3] (wrapBinds [(.ev (.bin .leq .int y5 y1))]
 (.ite y7 (.join 2 3 (wrapBinds [(.wcall [] 66 y6 [y0,y4,y5,y2] []),
 (.ev (.bin .add .int y5 (.const (.v (.int .i64 20)))))]
 (.jump 2 [y9,y9,(.tget 1 y8)])) (.jump 1 [y5,y8,y10])) (.jump 0 [y4,y5,y5,y7,y6])))) (wrapBinds [(.wcall [] 66 y8 [y0,y4,y1,y2] [])]
 (.join 0 6 (.loop 1 [(.const (.v (.int .i64 20))),y4,y5,(.tget 1 y9)] (wrapBinds [(.ev (.bin .lss .int y10 y1))]
 (.ite y14 (.join 2 13 (wrapBinds [(.ev (.bin .mul .int (.const (.v (.int .i64 2))) y10))]
 (.join 3 5 (.loop 4 [(.const (.v (.int .i64 0))),y15,y13] (wrapBinds [(.ev (.bin .leq .int y17 y1))]
 (.ite y19 (.join 5 5 (wrapBinds [(.ev (.bin .add .int y16 y10)),
 (.wcall [] 76 y18 [y0,y16,y20,y17,y2] []),
 (.ev (.bin .mul .int (.const (.v (.int .i64 2))) y10)),
 (.ev (.bin .add .int y17 y22))]
 (.jump 5 [y23,y20,y22,y23,(.tget 1 y21)])) (.jump 4 [y17,y20,y24])) (.jump 3 [y16,y17,y17,y19,y18])))) (wrapBinds [(.ev (.bin .add .int y16 y10)),
 (.ev (.bin .lss .int y21 y1))]
 (.join 3 1 (.ite y22 (wrapBinds [(.wcall [] 76 y20 [y0,y16,y21,y1,y2] [])]
 (.jump 3 [(.tget 1 y23)])) (.jump 3 [y20])) (wrapBinds [(.ev (.bin .mul .int y10 (.const (.v (.int .i64 2)))))]
 (.jump 2 [y24,y16,y17,y21,y15,y18,y19,y16,y21,y21,y22,y24,y23])))))) (.jump 1 [y15,y16,y17,y27])) (.jump 0 [y10,y11,y12,y10,y14,y13])))) (.ret (.tcons .tnil (.tcons y15 .tnil))))))
noncomputable def e48:Entry:={ f:=48,kn:=.plain,cf:=(scf false [] [] Try.f48),own:=false,ones:=[true,true,true],t:=t48 }
theorem ok48:EntOk Try.prog e48:=EntOk.ofPlain Try.func48 (by kernel_rfl) (by kernel_rfl)

noncomputable def t66:T:=(wrapBinds [(.ev (.bin .add .int y1 (.const (.v (.int .i64 1)))))]
 (.join 0 4 (.loop 1 [y5,y4] (wrapBinds [(.ev (.bin .lss .int y6 y2))]
 (.ite y8 (.join 2 6 (.join 3 6 (.loop 4 [y6,y7] (wrapBinds [(.ev (.bin .gtr .int y9 y1)),
 (.ev (.guard y11 true (.eaddr 1 y0 y9))),
 (.ev (.guard y11 true (.ld false 1 y10 y12))),
 (.ev (.guard y11 true (.bin .sub .int y9 (.const (.v (.int .i64 1)))))),
 (.ev (.guard y11 true (.eaddr 1 y0 y14))),
 (.ev (.guard y11 true (.ld false 1 y10 y15))),
 (.callv [(y11,true)] y3 y10 [y13,y16] [true]),
 (.ev (.guard y11 true (.bin .lss .int y17 (.const (.v (.int .i64 0)))))),
 (.ev (.ite y11 y18 (.const (.v (.bool false)))))]
 (.ite y19 (.join 5 9 (wrapBinds [(.ev (.bin .sub .int y9 (.const (.v (.int .i64 1))))),
 (.ev (.bin .sub .int y9 (.const (.v (.int .i64 1))))),
 (.ev (.eaddr 1 y0 y21)),
 (.ev (.ld false 1 y10 y22)),
 (.ev (.eaddr 1 y0 y9)),
 (.ev (.ld false 1 y10 y24)),
 (.ev (.eaddr 1 y0 y9)),
 (.ev (.sto 1 y10 y26 y23)),
 (.ev (.eaddr 1 y0 y20)),
 (.ev (.sto 1 y27 y28 y25))]
 (.jump 5 [y20,y21,y22,y23,y24,y25,y26,y28,y29])) (wrapBinds [(.ev (.bin .sub .int y9 (.const (.v (.int .i64 1)))))]
 (.jump 4 [y29,y28]))) (.jump 3 [y9,y9,y11,y11,y19,y10])))) (.jump 2 [y9,y10,y11,y12,y13,y14])) (wrapBinds [(.ev (.bin .add .int y6 (.const (.v (.int .i64 1)))))]
 (.jump 1 [y15,y14]))) (.jump 0 [y6,y6,y8,y7])))) (.ret (.tcons .tnil (.tcons y9 .tnil)))))
noncomputable def e66:Entry:={ f:=66,kn:=.plain,cf:=(scf false [] [] Try.f66),own:=false,ones:=[true,true,true,true],t:=t66 }
theorem ok66:EntOk Try.prog e66:=EntOk.ofPlain Try.func66 (by kernel_rfl) (by kernel_rfl)

noncomputable def t81:T:=(.loop 0 [y1,y2,y3,(.const (.v (.bool true))),(.const (.v (.bool true))),y4] (.join 1 26 (wrapBinds [(.ev (.bin .sub .int y6 y5)),
 (.ev (.bin .leq .int y11 (.const (.v (.int .i64 12)))))]
 (.ite y12 (wrapBinds [(.wcall [] 89 y10 [y0,y5,y6] [])]
 (.ret (.tcons .tnil (.tcons (.tget 1 y13) .tnil)))) (wrapBinds [(.ev (.bin .eql .int y7 (.const (.v (.int .i64 0)))))]
 (.ite y13 (wrapBinds [(.wcall [] 90 y10 [y0,y5,y6] [])]
 (.ret (.tcons .tnil (.tcons (.tget 1 y14) .tnil)))) (wrapBinds [(.ev (.un .not y8))]
 (.join 2 2 (.ite y14 (wrapBinds [(.wcall [] 91 y10 [y0,y5,y6] []),
 (.ev (.bin .sub .int y7 (.const (.v (.int .i64 1)))))]
 (.jump 2 [y16,(.tget 1 y15)])) (.jump 2 [y7,y10])) (wrapBinds [(.wcall [] 92 y16 [y0,y5,y6] [true,true]),
 (.ev (.bin .eql .int (.tget 1 (.tget 0 y17)) (.const (.v (.int .i64 2)))))]
 (.join 2 3 (.ite y18 (wrapBinds [(.wcall [] 93 (.tget 1 y17) [y0,y5,y6] []),
 (.ev (.bin .sub .int y6 (.const (.v (.int .i64 1))))),
 (.ev (.bin .sub .int (.tget 0 (.tget 0 y17)) y5)),
 (.ev (.bin .sub .int y20 y21))]
 (.jump 2 [y22,(.const (.v (.int .i64 1))),(.tget 1 y19)])) (.jump 2 [(.tget 0 (.tget 0 y17)),(.tget 1 (.tget 0 y17)),(.tget 1 y17)])) (wrapBinds [(.ev (.ite y8 y9 (.const (.v (.bool false))))),
 (.ev (.guard y22 true (.bin .eql .int y20 (.const (.v (.int .i64 1)))))),
 (.ev (.ite y22 y23 (.const (.v (.bool false)))))]
 (.join 2 1 (.ite y24 (wrapBinds [(.wcall [] 94 y21 [y0,y5,y6] [true])]
 (.ite (.tget 0 y25) (.ret (.tcons .tnil (.tcons (.tget 1 y25) .tnil))) (.jump 2 [(.tget 1 y25)]))) (.jump 2 [y21])) (wrapBinds [(.ev (.bin .gtr .int y5 (.const (.v (.int .i64 0))))),
 (.ev (.guard y26 true (.bin .sub .int y5 (.const (.v (.int .i64 1)))))),
 (.ev (.guard y26 true (.eaddr 1 y0 y27))),
 (.ev (.guard y26 true (.ld false 1 y25 y28))),
 (.ev (.guard y26 true (.eaddr 1 y0 y19))),
 (.ev (.guard y26 true (.ld false 1 y25 y30))),
 (.call [(y26,true)] 95 y25 [y29,y31] [true]),
 (.ev (.guard y26 true (.un .not y32))),
 (.ev (.ite y26 y33 (.const (.v (.bool false)))))]
 (.ite y34 (wrapBinds [(.wcall [] 96 y25 [y0,y5,y6,y19] [true])]
 (.jump 1 [(.tget 0 y35),y6,y15,y8,y9,y11,y19,y20,y11,y11,y12,y13,y14,(.tcons (.tget 0 (.tget 0 y17)) (.tcons (.tget 1 (.tget 0 y17)) .tnil)),(.tcons (.tget 0 (.tget 0 y17)) (.tcons (.tget 1 (.tget 0 y17)) .tnil)),(.tget 0 (.tget 0 y17)),(.tget 1 (.tget 0 y17)),(.tget 1 (.tget 0 y17)),y18,y22,y22,y24,y26,y26,y34,(.tget 1 y35)])) (wrapBinds [(.wcall [] 97 y25 [y0,y5,y6,y19] [true,true]),
 (.ev (.bin .sub .int (.tget 0 (.tget 0 y35)) y5)),
 (.ev (.bin .sub .int y6 (.tget 0 (.tget 0 y35)))),
 (.ev (.bin .quo .int y11 (.const (.v (.int .i64 8))))),
 (.ev (.bin .lss .int y36 y37))]
 (.join 2 4 (.ite y39 (wrapBinds [(.ev (.bin .geq .int y36 y38)),
 (.wcall [] 81 (.tget 1 y35) [y0,y5,(.tget 0 (.tget 0 y35)),y15] []),
 (.ev (.bin .add .int (.tget 0 (.tget 0 y35)) (.const (.v (.int .i64 1)))))]
 (.jump 2 [y42,y6,y40,(.tget 1 y41)])) (wrapBinds [(.ev (.bin .geq .int y37 y38)),
 (.ev (.bin .add .int (.tget 0 (.tget 0 y35)) (.const (.v (.int .i64 1))))),
 (.wcall [] 81 (.tget 1 y35) [y0,y41,y6,y15] [])]
 (.jump 2 [y5,(.tget 0 (.tget 0 y35)),y40,(.tget 1 y42)]))) (.jump 1 [y40,y41,y15,y42,(.tget 1 (.tget 0 y35)),y11,y19,y20,y11,y11,y12,y13,y14,(.tcons (.tget 0 (.tget 0 y17)) (.tcons (.tget 1 (.tget 0 y17)) .tnil)),(.tcons (.tget 0 (.tget 0 y17)) (.tcons (.tget 1 (.tget 0 y17)) .tnil)),(.tget 0 (.tget 0 y17)),(.tget 1 (.tget 0 y17)),(.tget 1 (.tget 0 y17)),y18,y22,y22,y24,y26,y26,y34,y43]))))))))))))))) (.jump 0 [y11,y12,y13,y14,y15,y36])))
noncomputable def e81:Entry:={ f:=81,kn:=.plain,cf:=(scf false [] [] Try.f81),own:=false,ones:=[true,true,true,true],t:=t81 }
theorem ok81:EntOk Try.prog e81:=EntOk.ofPlain Try.func81 (by kernel_rfl) (by kernel_rfl)

noncomputable def t89:T:=(wrapBinds [(.ev (.bin .add .int y1 (.const (.v (.int .i64 1)))))]
 (.join 0 4 (.loop 1 [y4,y3] (wrapBinds [(.ev (.bin .lss .int y5 y2))]
 (.ite y7 (.join 2 6 (.join 3 6 (.loop 4 [y5,y6] (wrapBinds [(.ev (.bin .gtr .int y8 y1)),
 (.ev (.guard y10 true (.eaddr 1 y0 y8))),
 (.ev (.guard y10 true (.ld false 1 y9 y11))),
 (.ev (.guard y10 true (.bin .sub .int y8 (.const (.v (.int .i64 1)))))),
 (.ev (.guard y10 true (.eaddr 1 y0 y13))),
 (.ev (.guard y10 true (.ld false 1 y9 y14))),
 (.call [(y10,true)] 95 y9 [y12,y15] [true]),
 (.ev (.ite y10 y16 (.const (.v (.bool false)))))]
 (.ite y17 (.join 5 9 (wrapBinds [(.ev (.bin .sub .int y8 (.const (.v (.int .i64 1))))),
 (.ev (.bin .sub .int y8 (.const (.v (.int .i64 1))))),
 (.ev (.eaddr 1 y0 y19)),
 (.ev (.ld false 1 y9 y20)),
 (.ev (.eaddr 1 y0 y8)),
 (.ev (.ld false 1 y9 y22)),
 (.ev (.eaddr 1 y0 y8)),
 (.ev (.sto 1 y9 y24 y21)),
 (.ev (.eaddr 1 y0 y18)),
 (.ev (.sto 1 y25 y26 y23))]
 (.jump 5 [y18,y19,y20,y21,y22,y23,y24,y26,y27])) (wrapBinds [(.ev (.bin .sub .int y8 (.const (.v (.int .i64 1)))))]
 (.jump 4 [y27,y26]))) (.jump 3 [y8,y8,y10,y10,y17,y9])))) (.jump 2 [y8,y9,y10,y11,y12,y13])) (wrapBinds [(.ev (.bin .add .int y5 (.const (.v (.int .i64 1)))))]
 (.jump 1 [y14,y13]))) (.jump 0 [y5,y5,y7,y6])))) (.ret (.tcons .tnil (.tcons y8 .tnil)))))
noncomputable def e89:Entry:={ f:=89,kn:=.plain,cf:=(scf false [] [] Try.f89),own:=false,ones:=[true,true,true],t:=t89 }
theorem ok89:EntOk Try.prog e89:=EntOk.ofPlain Try.func89 (by kernel_rfl) (by kernel_rfl)

noncomputable def t95:T:=(wrapBinds [(.call [] 49 y2 [y0] [true]),
 (.call [(y3,true)] 49 y2 [y1] [true]),
 (.ev (.guard y3 true (.un .not y4))),
 (.ev (.ite y3 y5 (.const (.v (.bool false))))),
 (.ev (.guard y6 false (.bin .lss .int y0 y1))),
 (.ev (.ite y6 (.const (.v (.bool true))) y7))]
 (.ret (.tcons y8 (.tcons y2 .tnil))))
noncomputable def e95:Entry:={ f:=95,kn:=.plain,cf:=(scf true [] [] Try.f95),own:=false,ones:=[true,true],t:=t95 }
theorem ok95:EntOk Try.prog e95:=EntOk.ofPlain Try.func95 (by kernel_rfl) (by kernel_rfl)

noncomputable def tabKnown:Tab:=[e5,e9,e10,e11,e12,e13,e7,e50,e25,e26,e15,e44,e65,e45,e51,e27,e79,e52,e77,e53,e30,e31,e29,e55,e56,e80,e57,e35,e58,e59,e60,e61,e43,e34,e62,e37,e38,e39,e40,e41,e42,e64,e22,e23,e49,e18,e20,e21,e78,e28,e32,e33,e36,e54,e14,e6,e88,e16,e17,e19,e63,e46,e48,e66,e81,e89,e95]

theorem tabKnown_ok:∀e,e∈tabKnown→EntOk Try.prog e:=by
 intro e he
 simp only[tabKnown,List.mem_cons,List.not_mem_nil,or_false] at he
 rcases he with rfl | rfl | rfl | rfl | rfl | rfl | rfl | rfl | rfl | rfl | rfl | rfl | rfl | rfl | rfl | rfl | rfl | rfl | rfl | rfl | rfl | rfl | rfl | rfl | rfl | rfl | rfl | rfl | rfl | rfl | rfl | rfl | rfl | rfl | rfl | rfl | rfl | rfl | rfl | rfl | rfl | rfl | rfl | rfl | rfl | rfl | rfl | rfl | rfl | rfl | rfl | rfl | rfl | rfl | rfl | rfl | rfl | rfl | rfl | rfl | rfl | rfl | rfl | rfl | rfl | rfl | rfl
 ·exact ok5
 ·exact ok9
 ·exact ok10
 ·exact ok11
 ·exact ok12
 ·exact ok13
 ·exact ok7
 ·exact ok50
 ·exact ok25
 ·exact ok26
 ·exact ok15
 ·exact ok44
 ·exact ok65
 ·exact ok45
 ·exact ok51
 ·exact ok27
 ·exact ok79
 ·exact ok52
 ·exact ok77
 ·exact ok53
 ·exact ok30
 ·exact ok31
 ·exact ok29
 ·exact ok55
 ·exact ok56
 ·exact ok80
 ·exact ok57
 ·exact ok35
 ·exact ok58
 ·exact ok59
 ·exact ok60
 ·exact ok61
 ·exact ok43
 ·exact ok34
 ·exact ok62
 ·exact ok37
 ·exact ok38
 ·exact ok39
 ·exact ok40
 ·exact ok41
 ·exact ok42
 ·exact ok64
 ·exact ok22
 ·exact ok23
 ·exact ok49
 ·exact ok18
 ·exact ok20
 ·exact ok21
 ·exact ok78
 ·exact ok28
 ·exact ok32
 ·exact ok33
 ·exact ok36
 ·exact ok54
 ·exact ok14
 ·exact ok6
 ·exact ok88
 ·exact ok16
 ·exact ok17
 ·exact ok19
 ·exact ok63
 ·exact ok46
 ·exact ok48
 ·exact ok66
 ·exact ok81
 ·exact ok89
 ·exact ok95

end Go.Am.Sc
