/-
  Several texts, one behind the other.
-/
import Derived.Test.YtdljkokeieeafaaGreatDoorAmFntoAmTabW
import Derived.Test.YtdljkokeieeafaaGreatDoorRaKnW0toRaKnW3
import Derived.Test.YtdljkokeieeafaaGreatDoorRaKnW4
import Derived.Test.YtdljkokeieeafaaGreatDoorRaCA
import Derived.Test.YtdljkokeieeafaaGreatDoorRaCB
import Derived.Test.YtdljkokeieeafaaGreatDoorRaCktoRaD
import Derived.Test.YtdljkokeieeafaaGreatDoorRaBasetoRaTab6
set_option linter.unusedSimpArgs false
set_option linter.unusedVariables false
/-
  The chapter's examples, part by part.
-/
namespace Go.Am.Ra
open Go.Proofs
set_option maxRecDepth 100000
def fKn : Fact := ⟨6, [], b true⟩
noncomputable def fKn_t : Tab := [e42, e17, e19, e24, e88, e111, e140, e165, e168, e169, e170, e171, e232, e233, e234, e235, e282, e283, e20, e90, e91, e85w, e86w, e36, e85, e89, e37, e6]
theorem fKn_o : ∀ e, e ∈ fKn_t → EntOk Tryz.prog e := by
  intro e he
  simp only [fKn_t, List.mem_cons, List.not_mem_nil, or_false] at he
  rcases he with rfl | rfl | rfl | rfl | rfl | rfl | rfl | rfl | rfl | rfl | rfl | rfl | rfl | rfl | rfl | rfl | rfl | rfl | rfl | rfl | rfl | rfl | rfl | rfl | rfl | rfl | rfl | rfl
  · exact ok42
  · exact ok17
  · exact ok19
  · exact ok24
  · exact ok88
  · exact ok111
  · exact ok140
  · exact ok165
  · exact ok168
  · exact ok169
  · exact ok170
  · exact ok171
  · exact ok232
  · exact ok233
  · exact ok234
  · exact ok235
  · exact ok282
  · exact ok283
  · exact ok20
  · exact ok90
  · exact ok91
  · exact ok85w
  · exact ok86w
  · exact ok36
  · exact ok85
  · exact ok89
  · exact ok37
  · exact ok6
theorem fKn_k : (fKn : Fact).ok Tryz.prog b0 := fact_of (l := []) trivial ((factOrc_ok (b0 := b0) (l := [fCk, fCA, fCB, fD9, fD10, fD11, fD12, fD13, fD14, fD15, fD16, fD17]) ⟨fCk_k, fCA_k, fCB_k, fD9_k, fD10_k, fD11_k, fD12_k, fD13_k, fD14_k, fD15_k, fD16_k, fD17_k, trivial⟩).or (wfactOrc_ok (l := [fKnW0, fKnW1, fKnW2, fKnW3, fKnW4]) ⟨fKnW0_k, fKnW1_k, fKnW2_k, fKnW3_k, fKnW4_k, trivial⟩)) fKn 200 40 (by kernel_rfl) b0_ok (by kernel_rfl) fKn_o (by kernel_rfl)

end Go.Am.Ra

/-
 Functions that the chapter's examples reach,as texts.
-/
namespace Go.Am.Ra
open Go.Proofs
set_option maxRecDepth 100000

noncomputable def t4:T:=(wrapBinds [(.ev (.cons (.const (.agg [(.v (.int .i64 0)),(.v (.int .i64 0)),(.v (.int .i64 0)),(.v (.int .i64 0)),(.v (.int .i64 0)),(.v (.int .i64 0)),(.v (.int .i64 0)),(.v (.int .i64 0)),.snil,.snil,.snil,(.v (.int .i64 0)),(.v (.int .i64 0)),(.v (.int .i64 0)),(.v (.int .i64 0)),(.v (.int .i64 0)),.snil,(.v (.bool false)),(.v (.int .i64 0)),(.v (.int .i64 0)),(.v (.int .i64 0)),(.v (.int .i64 0)),.snil,.snil,(.v (.int .i64 0)),.snil,(.v (.int .i64 0)),(.v (.int .i64 0)),(.v (.int .i64 0)),(.v (.int .i64 0))])) (.cons (.const (.agg [(.v (.pointer none))])) (.cons (.const (.agg [(.v (.pointer none))])) (.cons (.const (.agg [(.v (.pointer none))])) (.cons (.const (.agg [.snil])) (.cons (.const (.agg [.snil])) .nil))))))),
 (.ev (.newb 56 35 (.sym 3) (.aggN 35 (.sym 4)))),
 (.ev (.lcons (.scal (.const (.v (.pointer none)))) (.lcons (.scal (.fstid (.sym 3))) (.const (.lst [])))))]
 (.join 0 4 (.loop 1 [(ki 0),(.sym 5)] (wrapBinds [(.ev (.bin .lss .int (.sym 7) (ki 2)))]
 (.ite (.sym 9) (.join 2 39 (wrapBinds [(.ev (.eaddr 1 (.sym 6) (.sym 7))),
 (.ev (.ld false 1 (.sym 8) (.sym 10))),
 (.call [] 12 (.sym 8) [(.sym 11),(.sym 1),(.sym 2)] [true,true]),
 (.ev (.eaddr 1 (.sym 6) (.sym 7))),
 (.ev (.ld false 1 (.sym 8) (.sym 13))),
 (.call [] 13 (.sym 8) [(.sym 14),(.sym 1),(.sym 2),(ki 0)] [true,true]),
 (.ev (.eaddr 1 (.sym 6) (.sym 7))),
 (.ev (.ld false 1 (.sym 8) (.sym 16))),
 (.call [] 14 (.sym 8) [(.sym 17),(.sym 2)] [true,true]),
 (.ev (.bin .neq .int (.tget 1 (.sym 12)) (ki 1))),
 (.ev (.guard (.sym 19) false (.tget 1 (.sym 15)))),
 (.ev (.guard (.sym 19) false (.bin .neq .int (.sym 20) (ki 1)))),
 (.ev (.ite (.sym 19) (kb true) (.sym 21))),
 (.ev (.guard (.sym 22) false (.tget 1 (.sym 18)))),
 (.ev (.guard (.sym 22) false (.bin .neq .int (.sym 23) (ki 1)))),
 (.ev (.ite (.sym 22) (kb true) (.sym 24))),
 (.ev (.guard (.sym 25) false (.tget 0 (.sym 12)))),
 (.ev (.guard (.sym 25) false (.lenL (.sym 26)))),
 (.ev (.guard (.sym 25) false (.tget 0 (.sym 15)))),
 (.ev (.guard (.sym 25) false (.lenL (.sym 28)))),
 (.ev (.guard (.sym 25) false (.bin .add .int (.sym 27) (.sym 29)))),
 (.ev (.guard (.sym 25) false (.tget 0 (.sym 18)))),
 (.ev (.guard (.sym 25) false (.lenL (.sym 31)))),
 (.ev (.guard (.sym 25) false (.bin .add .int (.sym 30) (.sym 32)))),
 (.ev (.guard (.sym 25) false (.bin .neq .int (.sym 33) (ki 0)))),
 (.ev (.ite (.sym 25) (kb true) (.sym 34))),
 (.ev (.guard (.sym 35) false (.eaddr 1 (.sym 6) (.sym 7)))),
 (.ev (.guard (.sym 35) false (.ld false 1 (.sym 8) (.sym 36)))),
 (.wcall [((.sym 35),false)] 15 (.sym 8) [(.sym 37),(.sym 0)] [true]),
 (.ev (.guard (.sym 35) false (.bin .neq .int (.tget 0 (.sym 38)) (ki 1)))),
 (.ev (.ite (.sym 35) (kb true) (.sym 39))),
 (.ev (.guard (.sym 40) false (.eaddr 1 (.sym 6) (.sym 7)))),
 (.ev (.guard (.sym 40) false (.ld false 1 (.tget 1 (.sym 38)) (.sym 41)))),
 (.call [((.sym 40),false)] 16 (.tget 1 (.sym 38)) [(.sym 42)] [true]),
 (.ev (.guard (.sym 40) false (.lenL (.sym 43)))),
 (.ev (.guard (.sym 40) false (.bin .neq .int (.sym 44) (ki 0)))),
 (.ev (.ite (.sym 40) (kb true) (.sym 45))),
 (.ev (.guard (.sym 46) false (.eaddr 1 (.sym 6) (.sym 7)))),
 (.ev (.guard (.sym 46) false (.ld false 1 (.tget 1 (.sym 38)) (.sym 47)))),
 (.wcall [((.sym 46),false)] 17 (.tget 1 (.sym 38)) [(.sym 48)] [true]),
 (.ev (.guard (.sym 46) false (.lenL (.tget 0 (.sym 49))))),
 (.ev (.guard (.sym 46) false (.bin .neq .int (.sym 50) (ki 0)))),
 (.ev (.ite (.sym 46) (kb true) (.sym 51)))]
 (.ite (.sym 52) (.ret (.tcons (kb false) (.tcons (.tget 1 (.sym 49)) .tnil))) (.jump 2 [(.tget 0 (.sym 12)),(.tget 1 (.sym 12)),(.tget 0 (.sym 15)),(.tget 1 (.sym 15)),(.tget 0 (.sym 18)),(.tget 1 (.sym 18)),(.tcons (.tget 0 (.sym 12)) (.tcons (.tget 1 (.sym 12)) .tnil)),(.sym 10),(.sym 11),(.tcons (.tget 0 (.sym 12)) (.tcons (.tget 1 (.sym 12)) .tnil)),(.tget 0 (.sym 12)),(.tget 1 (.sym 12)),(.tcons (.tget 0 (.sym 15)) (.tcons (.tget 1 (.sym 15)) .tnil)),(.sym 13),(.sym 14),(.tcons (.tget 0 (.sym 15)) (.tcons (.tget 1 (.sym 15)) .tnil)),(.tget 0 (.sym 15)),(.tget 1 (.sym 15)),(.tcons (.tget 0 (.sym 18)) (.tcons (.tget 1 (.sym 18)) .tnil)),(.sym 16),(.sym 17),(.tcons (.tget 0 (.sym 18)) (.tcons (.tget 1 (.sym 18)) .tnil)),(.tget 0 (.sym 18)),(.tget 1 (.sym 18)),(.tget 1 (.sym 12)),(.sym 19),(.sym 19),(.sym 22),(.sym 22),(.sym 25),(.sym 25),(.sym 35),(.sym 35),(.sym 40),(.sym 40),(.sym 46),(.sym 46),(.sym 52),(.tget 1 (.sym 49))]))) (wrapBinds [(.ev (.bin .add .int (.sym 7) (ki 1)))]
 (.jump 1 [(.sym 49),(.sym 48)]))) (.jump 0 [(.sym 7),(.sym 7),(.sym 9),(.sym 8)])))) (wrapBinds [(.call [] 6 (.sym 10) [] [true])]
 (.ret (.tcons (.sym 11) (.tcons (.sym 10) .tnil))))))
noncomputable def e4:Entry:={ f:=4,kn:=.plain,cf:={ (autoCfg false ([17]++WRY) PNY [18] [] Tryz.f4) with nils:=true,stk:=true },own:=false,ones:=[true,true,true],t:=t4 }
theorem ok4:EntOk Tryz.prog e4:=EntOk.ofPlain Tryz.func4 (by kernel_rfl) (by kernel_rfl)

noncomputable def t12:T:=(.join 0 11 (wrapBinds [(.call [] 24 (.sym 3) [(.sym 0)] [true]),
 (.ev (.un .not (.sym 4)))]
 (.ite (.sym 5) (.ret (.tcons (.tcons (.const (.lst [])) (.tcons (ki 1) .tnil)) (.tcons (.sym 3) .tnil))) (wrapBinds [(.ev (.nn (.sym 0))),
 (.ev (.padd 0 (.sym 6))),
 (.ev (.padd 6 (.sym 7))),
 (.ev (.padd 0 (.sym 8))),
 (.ev (.ld false 1 (.sym 3) (.sym 9))),
 (.call [] 25 (.sym 3) [(.sym 1),(ki 1),(.sym 10)] [true]),
 (.ev (.un .not (.sym 11)))]
 (.ite (.sym 12) (.ret (.tcons (.tcons (.const (.lst [])) (.tcons (ki 2) .tnil)) (.tcons (.sym 3) .tnil))) (.jump 0 [(.sym 5),(.sym 4),(.sym 5),(.sym 12),(.sym 6),(.sym 7),(.sym 8),(.sym 9),(.sym 10),(.sym 11),(.sym 12)]))))) (wrapBinds [(.ev (.nn (.sym 0))),
 (.ev (.padd 30 (.sym 15))),
 (.ev (.ld false 1 (.sym 3) (.sym 16))),
 (.ev (.bin .sub .int (.sym 1) (ki 1))),
 (.call [] 26 (.sym 3) [(.sym 17),(.sym 18),(.sym 2)] [true,true])]
 (.ret (.tcons (.tcons (.tget 0 (.sym 19)) (.tcons (.tget 1 (.sym 19)) .tnil)) (.tcons (.sym 3) .tnil)))))
noncomputable def e12:Entry:={ f:=12,kn:=.plain,cf:={ (autoCfg true ([]++WRY) PNY [] [] Tryz.f12) with nils:=true,stk:=true },own:=false,ones:=[true,true,true],t:=t12 }
theorem ok12:EntOk Tryz.prog e12:=EntOk.ofPlain Tryz.func12 (by kernel_rfl) (by kernel_rfl)

noncomputable def t13:T:=(wrapBinds [(.call [] 24 (.sym 4) [(.sym 0)] [true]),
 (.ev (.un .not (.sym 5)))]
 (.ite (.sym 6) (.ret (.tcons (.tcons (.const (.lst [])) (.tcons (ki 1) .tnil)) (.tcons (.sym 4) .tnil))) (wrapBinds [(.ev (.nn (.sym 0))),
 (.ev (.padd 31 (.sym 7))),
 (.ev (.ld false 1 (.sym 4) (.sym 8))),
 (.call [] 27 (.sym 4) [(.sym 9),(.sym 1),(.sym 2),(.sym 3)] [true,true])]
 (.ret (.tcons (.tcons (.tget 0 (.sym 10)) (.tcons (.tget 1 (.sym 10)) .tnil)) (.tcons (.sym 4) .tnil))))))
noncomputable def e13:Entry:={ f:=13,kn:=.plain,cf:={ (autoCfg true ([]++WRY) PNY [] [] Tryz.f13) with nils:=true,stk:=true },own:=false,ones:=[true,true,true,true],t:=t13 }
theorem ok13:EntOk Tryz.prog e13:=EntOk.ofPlain Tryz.func13 (by kernel_rfl) (by kernel_rfl)

noncomputable def t14:T:=(wrapBinds [(.call [] 24 (.sym 2) [(.sym 0)] [true]),
 (.ev (.un .not (.sym 3)))]
 (.ite (.sym 4) (.ret (.tcons (.tcons (.const (.lst [])) (.tcons (ki 1) .tnil)) (.tcons (.sym 2) .tnil))) (wrapBinds [(.call [] 25 (.sym 2) [(.sym 1),(ki 0),(ki 10000000)] [true]),
 (.ev (.un .not (.sym 5)))]
 (.ite (.sym 6) (.ret (.tcons (.tcons (.const (.lst [])) (.tcons (ki 2) .tnil)) (.tcons (.sym 2) .tnil))) (wrapBinds [(.ev (.nn (.sym 0))),
 (.ev (.padd 0 (.sym 7))),
 (.ev (.padd 10 (.sym 8))),
 (.ev (.ld true 14 (.sym 2) (.sym 9))),
 (.ev (.nn (.sym 0))),
 (.ev (.padd 33 (.sym 11))),
 (.ev (.ld false 1 (.sym 2) (.sym 12))),
 (.call [] 28 (.sym 2) [(.sym 10),(.sym 13)] [true,true]),
 (.ev (.bin .neq .int (.tget 1 (.sym 14)) (ki 0)))]
 (.ite (.sym 15) (.ret (.tcons (.tcons (.const (.lst [])) (.tcons (.tget 1 (.sym 14)) .tnil)) (.tcons (.sym 2) .tnil))) (wrapBinds [(.ev (.nn (.sym 0))),
 (.ev (.padd 0 (.sym 16))),
 (.ev (.padd 10 (.sym 17))),
 (.ev (.padd 2 (.sym 18))),
 (.ev (.padd 10 (.sym 19))),
 (.ev (.ld false 1 (.sym 2) (.sym 20))),
 (.ev (.lenL (.tget 0 (.sym 14))))]
 (.join 0 3 (.loop 1 [(.const (.lst [])),(ki 0)] (wrapBinds [(.ev (.bin .lss .int (.sym 24) (.sym 22)))]
 (.ite (.sym 25) (.join 2 12 (wrapBinds [(.ev (.eaddr 7 (.tget 0 (.sym 14)) (.sym 24))),
 (.ev (.ld true 7 (.sym 2) (.sym 26))),
 (.ev (.aggN 7 (.sym 27))),
 (.ev (.un .not (.cell 1 (.sym 28))))]
 (.ite (.sym 29) (.jump 2 [(.sym 23),(.sym 26),(.sym 27),(.cell 1 (.sym 28)),(.sym 29),(.cell 0 (.sym 28)),(.cell 1 (.sym 28)),(.cell 2 (.sym 28)),(.cell 3 (.sym 28)),(.cell 4 (.sym 28)),(.cell 5 (.sym 28)),(.cell 6 (.sym 28))]) (wrapBinds [(.ev (.nn (.sym 0))),
 (.ev (.padd 32 (.sym 30))),
 (.ev (.ld false 1 (.sym 2) (.sym 31))),
 (.ev (.bin .add .int (.cell 0 (.sym 28)) (ki 1))),
 (.call [] 29 (.sym 2) [(.sym 32),(.sym 33),(.sym 1)] [true,true,true]),
 (.ev (.bin .neq .int (.tget 2 (.sym 34)) (ki 0)))]
 (.ite (.sym 35) (.ret (.tcons (.tcons (.const (.lst [])) (.tcons (.tget 2 (.sym 34)) .tnil)) (.tcons (.sym 2) .tnil))) (wrapBinds [(.ev (.bin .add .int (.cell 0 (.sym 28)) (ki 1))),
 (.ev (.bin .add .int (.cell 3 (.sym 28)) (.tget 0 (.sym 34)))),
 (.ev (.bin .sub .int (.cell 4 (.sym 28)) (ki 1))),
 (.call [] 30 (.sym 2) [(.sym 21),(.sym 38)] [true]),
 (.ev (.bin .sub .int (.cell 6 (.sym 28)) (.sym 39))),
 (.ev (.cons (.scal (.sym 36)) (.cons (.scal (.cell 3 (.sym 28))) (.cons (.scal (.sym 37)) (.cons (.scal (.tget 1 (.sym 34))) (.cons (.const (.agg [(.v (.int .i64 0))])) (.cons (.scal (.sym 40)) .nil))))))),
 (.ev (.lcons (.aggN 6 (.sym 41)) (.const (.lst [])))),
 (.ev (.app 6 48 (.sym 23) (.sym 42)))]
 (.jump 2 [(.sym 43),(.sym 26),(.sym 27),(.cell 1 (.sym 28)),(.sym 29),(.cell 0 (.sym 28)),(.cell 1 (.sym 28)),(.cell 2 (.sym 28)),(.cell 3 (.sym 28)),(.cell 4 (.sym 28)),(.cell 5 (.sym 28)),(.cell 6 (.sym 28))])))))) (wrapBinds [(.ev (.bin .add .int (.sym 24) (ki 1)))]
 (.jump 1 [(.sym 26),(.sym 38)]))) (.jump 0 [(.sym 23),(.sym 24),(.sym 25)])))) (wrapBinds [(.call [] 31 (.sym 2) [(.sym 23),(.const (.fn 32 [] []))] []),
 (.ev (.lenL (.sym 23)))]
 (.join 0 1 (.loop 1 [] (wrapBinds [(.ev (.bin .lss .int (ki 0) (.sym 27)))]
 (.ite (.sym 28) (.ret (.deref .nil)) (.jump 0 [(.sym 28)])))) (.ret (.tcons (.tcons (.sym 23) (.tcons (ki 0) .tnil)) (.tcons (.sym 2) .tnil)))))))))))))
noncomputable def e14:Entry:={ f:=14,kn:=.plain,cf:={ (autoCfg true ([]++WRY) PNY [] [] Tryz.f14) with nils:=true,stk:=true },own:=false,ones:=[true,true],t:=t14 }
theorem ok14:EntOk Tryz.prog e14:=EntOk.ofPlain Tryz.func14 (by kernel_rfl) (by kernel_rfl)

noncomputable def t16:T:=(wrapBinds [(.call [] 24 (.sym 1) [(.sym 0)] [true]),
 (.ev (.un .not (.sym 2)))]
 (.ite (.sym 3) (.ret (.tcons (.const (.lst [])) (.tcons (.sym 1) .tnil))) (wrapBinds [(.ev (.nn (.sym 0))),
 (.ev (.padd 34 (.sym 4))),
 (.ev (.ld false 1 (.sym 1) (.sym 5))),
 (.call [] 35 (.sym 1) [(.sym 6)] [true])]
 (.ret (.tcons (.sym 7) (.tcons (.sym 1) .tnil))))))
noncomputable def e16:Entry:={ f:=16,kn:=.plain,cf:={ (autoCfg true ([]++WRY) PNY [] [] Tryz.f16) with nils:=true,stk:=true },own:=false,ones:=[true],t:=t16 }
theorem ok16:EntOk Tryz.prog e16:=EntOk.ofPlain Tryz.func16 (by kernel_rfl) (by kernel_rfl)

end Go.Am.Ra

/-
  A nil event, and the zero one.
-/
namespace Go.Am.Ra
open Go.Proofs
set_option maxRecDepth 100000

noncomputable def tabNil : Tab := [e4, e12, e13, e14, e15, e16, e17, e24]

theorem tabNil_ok : ∀ e, e ∈ tabNil → EntOk Tryz.prog e := by
  intro e he
  simp only [tabNil, List.mem_cons, List.not_mem_nil, or_false] at he
  rcases he with rfl | rfl | rfl | rfl | rfl | rfl | rfl | rfl
  · exact ok4
  · exact ok12
  · exact ok13
  · exact ok14
  · exact ok15
  · exact ok16
  · exact ok17
  · exact ok24

def zeroEvent : D := .blk 56 35 [i 0, i 0, i 0, i 0, i 0, i 0, i 0, i 0, .snil, .snil, .snil, i 0, i 0, i 0, i 0, i 0, .snil, b false, i 0, i 0, i 0, i 0, .snil, .snil, i 0, .snil, i 0, i 0, i 0, i 0, .v (.pointer none), .v (.pointer none), .v (.pointer none), .snil, .snil]

theorem c4 (s : ByteArray) (n m : Int) : FSpecWO Tryz.prog 4 (.st b0) [.v (.string s), i n, i m] (.ret (b true)) (.st (b0 ++ [zeroEvent])) :=
  (runOrcB_ok (n := 200) (b0 := b0) tabNil_ok (factOrc_ok (b0 := b0) (l := [fKn]) ⟨fKn_k, trivial⟩) 40).W 4 (.st b0) _ _ _ (by kernel_rfl)

end Go.Am.Ra
