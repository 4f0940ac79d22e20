/-
  Several texts, one behind the other.
-/
import Derived.Test.YtdljkokeieeafaaGreatDoorAmFntoAmTabW
import Derived.Test.YtdljkokeieeafaaGreatDoorProg
set_option linter.unusedSimpArgs false
set_option linter.unusedVariables false
/-
  How the functions of the rally are read; the library's table that every store begins with.
-/
namespace Go.Am.Ra
open Go.Proofs

def WRY : List Nat := [37, 15, 33, 83, 148, 149, 150, 151, 152, 153, 154, 155, 156, 157, 158, 159, 160, 161, 162, 216, 217, 213, 215, 112, 222, 52, 220, 221, 223, 279, 271, 270, 20, 38, 93, 182, 99, 246, 287, 186, 275, 278]
def PNY : List Nat := [211, 212, 214, 148, 149, 150, 151, 152, 153, 154, 155, 156, 157, 158, 159, 160, 161, 162, 217, 220, 221, 223, 1000038]
abbrev ki (n : Int) : E := .const (.v (.int .i64 n))
abbrev kb (b : Bool) : E := .const (.v (.bool b))
def agcFrom (x : E) : Nat → Nat → E
  | _, 0 => .nil
  | k, n + 1 => .cons (.cell k x) (agcFrom x (k + 1) n)
def agc (n : Nat) (x : E) : E := agcFrom x 0 n
abbrev i (n : Int) : D := .v (.int .i64 n)
abbrev b (x : Bool) : D := .v (.bool x)
def b0 : List D := [.glb 7 405 [.int .u8 0, .int .u8 1, .int .u8 56, .int .u8 2, .int .u8 57, .int .u8 49, .int .u8 28, .int .u8 3, .int .u8 61, .int .u8 58, .int .u8 42, .int .u8 50, .int .u8 38, .int .u8 29, .int .u8 17, .int .u8 4, .int .u8 62, .int .u8 47, .int .u8 59, .int .u8 36, .int .u8 45, .int .u8 43, .int .u8 51, .int .u8 22, .int .u8 53, .int .u8 39, .int .u8 33, .int .u8 30, .int .u8 24, .int .u8 18, .int .u8 12, .int .u8 5, .int .u8 63, .int .u8 55, .int .u8 48, .int .u8 27, .int .u8 60, .int .u8 41, .int .u8 37, .int .u8 16, .int .u8 46, .int .u8 35, .int .u8 44, .int .u8 21, .int .u8 52, .int .u8 32, .int .u8 23, .int .u8 11, .int .u8 54, .int .u8 26, .int .u8 40, .int .u8 15, .int .u8 34, .int .u8 20, .int .u8 31, .int .u8 10, .int .u8 25, .int .u8 14, .int .u8 19, .int .u8 9, .int .u8 13, .int .u8 8, .int .u8 7, .int .u8 6]]
theorem ofNd {P : Program} {e : Entry} (h : EntOk P { e with nd := false }) : EntOk P e := h
theorem b0_ok : isBase b0 = true := rfl

end Go.Am.Ra

/-
 Functions that the chapter's examples reach,as texts.
-/
namespace Go.Am.Ra
open Go.Proofs
set_option maxRecDepth 100000

noncomputable def t41:T:=(wrapBinds [(.ev (.bin .neq .ptr (.sym 0) (.const (.v (.pointer none))))),
 (.ev (.guard (.sym 2) true (.nn (.sym 0)))),
 (.ev (.guard (.sym 2) true (.padd 14 (.sym 3)))),
 (.ev (.guard (.sym 2) true (.ld false 1 (.sym 1) (.sym 4)))),
 (.ev (.guard (.sym 2) true (.lenL (.sym 5)))),
 (.ev (.guard (.sym 2) true (.bin .gtr .int (.sym 6) (ki 0)))),
 (.ev (.ite (.sym 2) (.sym 7) (kb false)))]
 (.ret (.tcons (.sym 8) (.tcons (.sym 1) .tnil))))
noncomputable def e41:Entry:={ f:=41,kn:=.plain,cf:={ (autoCfg true ([]++WRY) PNY [] [] Tryz.f41) with nils:=true,stk:=true },own:=false,ones:=[true],t:=t41 }
theorem ok41:EntOk Tryz.prog e41:=EntOk.ofPlain Tryz.func41 (by kernel_rfl) (by kernel_rfl)

noncomputable def t50:T:=(wrapBinds [(.ev (.nn (.sym 0))),
 (.ev (.padd 14 (.sym 4))),
 (.ev (.ld false 1 (.sym 3) (.sym 5))),
 (.ev (.sub 5 (.sym 6) (.sym 1) (.lenL (.sym 6)))),
 (.call [] 108 (.sym 3) [(.sym 7),(.const (.fn 109 [] []))] [true])]
 (.ret (.tcons (.sym 8) (.tcons (.sym 3) .tnil))))
noncomputable def e50:Entry:={ f:=50,kn:=.plain,cf:={ (autoCfg true ([]++WRY) PNY [] [] Tryz.f50) with nils:=true,stk:=true },own:=false,ones:=[true,true,true],t:=t50 }
theorem ok50:EntOk Tryz.prog e50:=EntOk.ofPlain Tryz.func50 (by kernel_rfl) (by kernel_rfl)

noncomputable def t17:T:=(wrapBinds [(.call [] 24 (.sym 1) [(.sym 0)] [true]),
 (.ev (.un .not (.sym 2)))]
 (.ite (.sym 3) (.ret (.tcons (.const (.lst [])) (.tcons (.sym 1) .tnil))) (wrapBinds [(.ev (.nn (.sym 0))),
 (.ev (.padd 33 (.sym 4))),
 (.ev (.ld false 1 (.sym 1) (.sym 5))),
 (.ev (.lenL (.sym 6)))]
 (.join 0 4 (.loop 1 [(.const .snil),(ki 0),(.sym 1)] (wrapBinds [(.ev (.bin .lss .int (.sym 9) (.sym 7)))]
 (.ite (.sym 11) (.join 2 11 (wrapBinds [(.ev (.eaddr 3 (.sym 6) (.sym 9))),
 (.ev (.ld true 3 (.sym 10) (.sym 12))),
 (.ev (.aggN 3 (.sym 13))),
 (.wcall [] 36 (.sym 10) [(agc 3 (.sym 14))] [false]),
 (.ev (.lcons (.aggN 3 (.tget 0 (.sym 15))) (.const (.lst [])))),
 (.ev (.apph 78 3 56 (.tget 1 (.sym 15)) (.sym 8) (.sym 16)))]
 (.jump 2 [(.apps (.tget 1 (.sym 15)) (.sym 8) (.sym 16)),(.sym 12),(.sym 13),(agc 3 (.sym 14)),(.tget 0 (.sym 15)),(.sym 16),(.apps (.tget 1 (.sym 15)) (.sym 8) (.sym 16)),(.cell 0 (.sym 14)),(.cell 1 (.sym 14)),(.cell 2 (.sym 14)),(.sym 17)])) (wrapBinds [(.ev (.bin .add .int (.sym 9) (ki 1)))]
 (.jump 1 [(.sym 12),(.sym 23),(.sym 22)]))) (.jump 0 [(.sym 8),(.sym 9),(.sym 11),(.sym 10)])))) (.ret (.tcons (.sym 8) (.tcons (.sym 11) .tnil)))))))
noncomputable def e17:Entry:={ f:=17,kn:=.plain,cf:={ (autoCfg false ([36]++WRY) PNY [3,22] [] Tryz.f17) with nils:=true,stk:=true },own:=false,ones:=[true],t:=t17 }
theorem ok17:EntOk Tryz.prog e17:=EntOk.ofPlain Tryz.func17 (by kernel_rfl) (by kernel_rfl)

noncomputable def t40:T:=(.join 0 4 (wrapBinds [(.ev (.bin .eql .int (.sym 1) (ki 0)))]
 (.ite (.sym 3) (.ret (.tcons (.const (.v (.string ⟨#[]⟩))) (.tcons (.sym 2) .tnil))) (wrapBinds [(.ev (.bin .eql .int (.sym 1) (ki 1)))]
 (.ite (.sym 4) (.ret (.tcons (.sym 0) (.tcons (.sym 2) .tnil))) (.jump 0 [(.sym 3),(.sym 3),(.sym 4),(.sym 4)]))))) (wrapBinds [(.ev (.bin .lss .int (.sym 1) (ki 0)))]
 (.join 0 0 (.ite (.sym 7) (.pan (.m4 .isifc (.ifc 9 (.const (.v (.string ⟨#[115,116,114,105,110,103,115,58,32,110,101,103,97,116,105,118,101,32,82,101,112,101,97,116,32,99,111,117,110,116]⟩)))) .nil .nil .nil) (.sym 2) [] []) (.jump 0 [])) (wrapBinds [(.ev (.lenS (.sym 0))),
 (.ev (.conv .u64 (.sym 8))),
 (.ev (.conv .u64 (.sym 1))),
 (.call [] 97 (.sym 2) [(.sym 9),(.sym 10)] [true,true]),
 (.ev (.bin .gtr .int (.tget 0 (.sym 11)) (.const (.v (.int .u64 0))))),
 (.ev (.guard (.sym 12) false (.tget 1 (.sym 11)))),
 (.ev (.guard (.sym 12) false (.bin .gtr .int (.sym 13) (.const (.v (.int .u64 9223372036854775807)))))),
 (.ev (.ite (.sym 12) (kb true) (.sym 14)))]
 (.join 0 0 (.ite (.sym 15) (.pan (.m4 .isifc (.ifc 9 (.const (.v (.string ⟨#[115,116,114,105,110,103,115,58,32,82,101,112,101,97,116,32,111,117,116,112,117,116,32,108,101,110,103,116,104,32,111,118,101,114,102,108,111,119]⟩)))) .nil .nil .nil) (.sym 2) [] []) (.jump 0 [])) (wrapBinds [(.ev (.conv .i64 (.tget 1 (.sym 11)))),
 (.ev (.lenS (.sym 0))),
 (.ev (.bin .eql .int (.sym 17) (ki 0)))]
 (.ite (.sym 18) (.ret (.tcons (.const (.v (.string ⟨#[]⟩))) (.tcons (.sym 2) .tnil))) (wrapBinds [(.ev (.m4 .sidx (.sym 0) (ki 0) .nil .nil))]
 (.join 0 2 (wrapBinds [(.ev (.bin .eql .int (.sym 19) (.const (.v (.int .u8 32)))))]
 (.join 1 1 (.ite (.sym 20) (.jump 1 [(.sym 20)]) (wrapBinds [(.ev (.bin .eql .int (.sym 19) (.const (.v (.int .u8 45)))))]
 (.join 2 1 (.ite (.sym 21) (.jump 2 [(.sym 21)]) (wrapBinds [(.ev (.bin .eql .int (.sym 19) (.const (.v (.int .u8 48)))))]
 (.join 3 1 (.ite (.sym 22) (.jump 3 [(.sym 22)]) (wrapBinds [(.ev (.bin .eql .int (.sym 19) (.const (.v (.int .u8 61)))))]
 (.join 4 1 (.ite (.sym 23) (.jump 4 [(.sym 23)]) (wrapBinds [(.ev (.bin .eql .int (.sym 19) (.const (.v (.int .u8 9)))))]
 (.jump 4 [(.sym 24)]))) (.jump 3 [(.sym 24)])))) (.jump 2 [(.sym 23)])))) (.jump 1 [(.sym 22)])))) (.join 1 0 (.ite (.sym 21) (.join 2 20 (wrapBinds [(.ev (.bin .leq .int (.sym 16) (ki 128))),
 (.call [((.sym 22),true)] 98 (.sym 2) [(.const (.v (.string ⟨#[32,32,32,32,32,32,32,32,32,32,32,32,32,32,32,32,32,32,32,32,32,32,32,32,32,32,32,32,32,32,32,32,32,32,32,32,32,32,32,32,32,32,32,32,32,32,32,32,32,32,32,32,32,32,32,32,32,32,32,32,32,32,32,32,32,32,32,32,32,32,32,32,32,32,32,32,32,32,32,32,32,32,32,32,32,32,32,32,32,32,32,32,32,32,32,32,32,32,32,32,32,32,32,32,32,32,32,32,32,32,32,32,32,32,32,32,32,32,32,32,32,32,32,32,32,32,32,32]⟩))),(.sym 0)] [true]),
 (.ev (.ite (.sym 22) (.sym 23) (kb false)))]
 (.ite (.sym 24) (wrapBinds [(.ev (.m4 .ssub (.const (.v (.string ⟨#[32,32,32,32,32,32,32,32,32,32,32,32,32,32,32,32,32,32,32,32,32,32,32,32,32,32,32,32,32,32,32,32,32,32,32,32,32,32,32,32,32,32,32,32,32,32,32,32,32,32,32,32,32,32,32,32,32,32,32,32,32,32,32,32,32,32,32,32,32,32,32,32,32,32,32,32,32,32,32,32,32,32,32,32,32,32,32,32,32,32,32,32,32,32,32,32,32,32,32,32,32,32,32,32,32,32,32,32,32,32,32,32,32,32,32,32,32,32,32,32,32,32,32,32,32,32,32,32]⟩))) (ki 0) (.sym 16) .nil))]
 (.ret (.tcons (.sym 25) (.tcons (.sym 2) .tnil)))) (wrapBinds [(.ev (.bin .leq .int (.sym 16) (ki 128))),
 (.call [((.sym 25),true)] 98 (.sym 2) [(.const (.v (.string ⟨#[45,45,45,45,45,45,45,45,45,45,45,45,45,45,45,45,45,45,45,45,45,45,45,45,45,45,45,45,45,45,45,45,45,45,45,45,45,45,45,45,45,45,45,45,45,45,45,45,45,45,45,45,45,45,45,45,45,45,45,45,45,45,45,45,45,45,45,45,45,45,45,45,45,45,45,45,45,45,45,45,45,45,45,45,45,45,45,45,45,45,45,45,45,45,45,45,45,45,45,45,45,45,45,45,45,45,45,45,45,45,45,45,45,45,45,45,45,45,45,45,45,45,45,45,45,45,45,45]⟩))),(.sym 0)] [true]),
 (.ev (.ite (.sym 25) (.sym 26) (kb false)))]
 (.ite (.sym 27) (wrapBinds [(.ev (.m4 .ssub (.const (.v (.string ⟨#[45,45,45,45,45,45,45,45,45,45,45,45,45,45,45,45,45,45,45,45,45,45,45,45,45,45,45,45,45,45,45,45,45,45,45,45,45,45,45,45,45,45,45,45,45,45,45,45,45,45,45,45,45,45,45,45,45,45,45,45,45,45,45,45,45,45,45,45,45,45,45,45,45,45,45,45,45,45,45,45,45,45,45,45,45,45,45,45,45,45,45,45,45,45,45,45,45,45,45,45,45,45,45,45,45,45,45,45,45,45,45,45,45,45,45,45,45,45,45,45,45,45,45,45,45,45,45,45]⟩))) (ki 0) (.sym 16) .nil))]
 (.ret (.tcons (.sym 28) (.tcons (.sym 2) .tnil)))) (wrapBinds [(.ev (.bin .leq .int (.sym 16) (ki 64))),
 (.call [((.sym 28),true)] 98 (.sym 2) [(.const (.v (.string ⟨#[48,48,48,48,48,48,48,48,48,48,48,48,48,48,48,48,48,48,48,48,48,48,48,48,48,48,48,48,48,48,48,48,48,48,48,48,48,48,48,48,48,48,48,48,48,48,48,48,48,48,48,48,48,48,48,48,48,48,48,48,48,48,48,48]⟩))),(.sym 0)] [true]),
 (.ev (.ite (.sym 28) (.sym 29) (kb false)))]
 (.ite (.sym 30) (wrapBinds [(.ev (.m4 .ssub (.const (.v (.string ⟨#[48,48,48,48,48,48,48,48,48,48,48,48,48,48,48,48,48,48,48,48,48,48,48,48,48,48,48,48,48,48,48,48,48,48,48,48,48,48,48,48,48,48,48,48,48,48,48,48,48,48,48,48,48,48,48,48,48,48,48,48,48,48,48,48]⟩))) (ki 0) (.sym 16) .nil))]
 (.ret (.tcons (.sym 31) (.tcons (.sym 2) .tnil)))) (wrapBinds [(.ev (.bin .leq .int (.sym 16) (ki 128))),
 (.call [((.sym 31),true)] 98 (.sym 2) [(.const (.v (.string ⟨#[61,61,61,61,61,61,61,61,61,61,61,61,61,61,61,61,61,61,61,61,61,61,61,61,61,61,61,61,61,61,61,61,61,61,61,61,61,61,61,61,61,61,61,61,61,61,61,61,61,61,61,61,61,61,61,61,61,61,61,61,61,61,61,61,61,61,61,61,61,61,61,61,61,61,61,61,61,61,61,61,61,61,61,61,61,61,61,61,61,61,61,61,61,61,61,61,61,61,61,61,61,61,61,61,61,61,61,61,61,61,61,61,61,61,61,61,61,61,61,61,61,61,61,61,61,61,61,61]⟩))),(.sym 0)] [true]),
 (.ev (.ite (.sym 31) (.sym 32) (kb false)))]
 (.ite (.sym 33) (wrapBinds [(.ev (.m4 .ssub (.const (.v (.string ⟨#[61,61,61,61,61,61,61,61,61,61,61,61,61,61,61,61,61,61,61,61,61,61,61,61,61,61,61,61,61,61,61,61,61,61,61,61,61,61,61,61,61,61,61,61,61,61,61,61,61,61,61,61,61,61,61,61,61,61,61,61,61,61,61,61,61,61,61,61,61,61,61,61,61,61,61,61,61,61,61,61,61,61,61,61,61,61,61,61,61,61,61,61,61,61,61,61,61,61,61,61,61,61,61,61,61,61,61,61,61,61,61,61,61,61,61,61,61,61,61,61,61,61,61,61,61,61,61,61]⟩))) (ki 0) (.sym 16) .nil))]
 (.ret (.tcons (.sym 34) (.tcons (.sym 2) .tnil)))) (wrapBinds [(.ev (.bin .leq .int (.sym 16) (ki 64))),
 (.call [((.sym 34),true)] 98 (.sym 2) [(.const (.v (.string ⟨#[9,9,9,9,9,9,9,9,9,9,9,9,9,9,9,9,9,9,9,9,9,9,9,9,9,9,9,9,9,9,9,9,9,9,9,9,9,9,9,9,9,9,9,9,9,9,9,9,9,9,9,9,9,9,9,9,9,9,9,9,9,9,9,9]⟩))),(.sym 0)] [true]),
 (.ev (.ite (.sym 34) (.sym 35) (kb false)))]
 (.ite (.sym 36) (wrapBinds [(.ev (.m4 .ssub (.const (.v (.string ⟨#[9,9,9,9,9,9,9,9,9,9,9,9,9,9,9,9,9,9,9,9,9,9,9,9,9,9,9,9,9,9,9,9,9,9,9,9,9,9,9,9,9,9,9,9,9,9,9,9,9,9,9,9,9,9,9,9,9,9,9,9,9,9,9,9]⟩))) (ki 0) (.sym 16) .nil))]
 (.ret (.tcons (.sym 37) (.tcons (.sym 2) .tnil)))) (.jump 2 [(.sym 24),(.sym 22),(.sym 22),(.sym 24),(.sym 27),(.sym 25),(.sym 25),(.sym 27),(.sym 30),(.sym 28),(.sym 28),(.sym 30),(.sym 33),(.sym 31),(.sym 31),(.sym 33),(.sym 36),(.sym 34),(.sym 34),(.sym 36)]))))))))))) (.jump 1 [])) (.jump 1 [])) (.jump 0 [(.sym 21),(.sym 20)])))) (wrapBinds [(.ev (.bin .gtr .int (.sym 16) (ki 8192)))]
 (.join 0 1 (.ite (.sym 22) (wrapBinds [(.ev (.lenS (.sym 0))),
 (.ev (.bin .quo .int (ki 8192) (.sym 23))),
 (.ev (.lenS (.sym 0))),
 (.ev (.bin .mul .int (.sym 24) (.sym 25))),
 (.ev (.bin .eql .int (.sym 26) (ki 0)))]
 (.join 1 1 (.ite (.sym 27) (wrapBinds [(.ev (.lenS (.sym 0)))]
 (.jump 1 [(.sym 28)])) (.jump 1 [(.sym 26)])) (.jump 0 [(.sym 28)]))) (.jump 0 [(.sym 16)])) (.ret (.deref .nil)))))))))))))
noncomputable def e40:Entry:={ f:=40,kn:=.plain,cf:={ (autoCfg true ([]++WRY) PNY [] [] Tryz.f40) with nils:=true,stk:=true },own:=false,ones:=[true,true],t:=t40 }
theorem ok40:EntOk Tryz.prog e40:=EntOk.ofPlain Tryz.func40 (by kernel_rfl) (by kernel_rfl)

noncomputable def t82:T:=(wrapBinds [(.ev (.newb 9 1 (.sym 1) (.cons (.scal (.sym 0)) .nil))),
 (.ev (.mkfn 146 .tnil (.tcons (.fstid (.sym 1)) .tnil)))]
 (.ret (.tcons (.sym 3) (.tcons (.sym 2) .tnil))))
noncomputable def e82:Entry:={ f:=82,kn:=.plain,cf:={ (autoCfg false ([]++WRY) PNY [1] [] Tryz.f82) with nils:=true,stk:=true },own:=false,ones:=[true],t:=t82 }
theorem ok82:EntOk Tryz.prog e82:=EntOk.ofPlain Tryz.func82 (by kernel_rfl) (by kernel_rfl)

noncomputable def t87:T:=(wrapBinds [(.ev (.aggN 30 (.sym 0))),
 (.wcall [] 89 (.sym 1) [(agc 6 (.sym 2))] [true,true]),
 (.ev (.bin .neq .int (.tget 1 (.tget 0 (.sym 3))) (ki 0)))]
 (.ite (.sym 4) (.ret (.tcons (ki 2) (.tcons (.tget 1 (.sym 3)) .tnil))) (wrapBinds [(.wcall [] 90 (.tget 1 (.sym 3)) [(.cons (.cell 6 (.sym 2)) (.cons (.cell 7 (.sym 2)) (.cons (.cell 8 (.sym 2)) .nil))),(.cell 9 (.sym 2))] [true,true]),
 (.ev (.bin .neq .int (.tget 1 (.tget 0 (.sym 5))) (ki 0)))]
 (.ite (.sym 6) (.ret (.tcons (ki 2) (.tcons (.tget 1 (.sym 5)) .tnil))) (wrapBinds [(.call [] 119 (.tget 1 (.sym 5)) [(.cons (.cell 10 (.sym 2)) (.cons (.cell 11 (.sym 2)) (.cons (.cell 12 (.sym 2)) (.cons (.cell 13 (.sym 2)) (.cons (.cell 14 (.sym 2)) (.cons (.cell 15 (.sym 2)) (.cons (.cell 16 (.sym 2)) (.cons (.cell 17 (.sym 2)) (.cons (.cell 18 (.sym 2)) (.cons (.cell 19 (.sym 2)) (.cons (.cell 20 (.sym 2)) (.cons (.cell 21 (.sym 2)) (.cons (.cell 22 (.sym 2)) (.cons (.cell 23 (.sym 2)) .nil))))))))))))))] [true]),
 (.ev (.bin .neq .int (.sym 7) (ki 0))),
 (.call [((.sym 8),false)] 165 (.tget 1 (.sym 5)) [(.cons (.cell 24 (.sym 2)) (.cons (.cell 25 (.sym 2)) (.cons (.cell 26 (.sym 2)) (.cons (.cell 27 (.sym 2)) (.cons (.cell 28 (.sym 2)) (.cons (.cell 29 (.sym 2)) .nil))))))] [true]),
 (.ev (.guard (.sym 8) false (.bin .neq .int (.sym 9) (ki 0)))),
 (.ev (.ite (.sym 8) (kb true) (.sym 10)))]
 (.ite (.sym 11) (.ret (.tcons (ki 2) (.tcons (.tget 1 (.sym 5)) .tnil))) (wrapBinds [(.ev (.bin .neq .int (.cell 5 (.sym 2)) (.cell 6 (.sym 2)))),
 (.ev (.guard (.sym 12) false (.cell 24 (.sym 2)))),
 (.ev (.guard (.sym 12) false (.cell 6 (.sym 2)))),
 (.ev (.guard (.sym 12) false (.bin .neq .int (.sym 13) (.sym 14)))),
 (.ev (.ite (.sym 12) (kb true) (.sym 15))),
 (.ev (.guard (.sym 16) false (.cell 0 (.sym 2)))),
 (.ev (.guard (.sym 16) false (.cell 7 (.sym 2)))),
 (.ev (.guard (.sym 16) false (.bin .neq .int (.sym 17) (.sym 18)))),
 (.ev (.ite (.sym 16) (kb true) (.sym 19))),
 (.ev (.guard (.sym 20) false (.cell 10 (.sym 2)))),
 (.call [((.sym 20),false)] 167 (.tget 1 (.sym 5)) [(.sym 21),(.const (.fn 166 [] []))] [true]),
 (.ev (.guard (.sym 20) false (.un .not (.sym 22)))),
 (.ev (.ite (.sym 20) (kb true) (.sym 23)))]
 (.ite (.sym 24) (.ret (.tcons (ki 2) (.tcons (.tget 1 (.sym 5)) .tnil))) (.ret (.tcons (ki 0) (.tcons (.tget 1 (.sym 5)) .tnil)))))))))))
noncomputable def e87:Entry:={ f:=87,kn:=.plain,cf:={ (autoCfg false ([89,90]++WRY) PNY [] [] Tryz.f87) with nils:=true,stk:=true },own:=true,ones:=[false],t:=t87 }
theorem ok87:EntOk Tryz.prog e87:=EntOk.ofPlain Tryz.func87 (by kernel_rfl) (by kernel_rfl)

noncomputable def t107:T:=(wrapBinds [(.ev (.aggN 5 (.sym 0))),
 (.ev (.ld false 1 (.sym 3) (.sym 1))),
 (.ev (.ld false 1 (.sym 3) (.sym 2))),
 (.ev (.nn (.sym 6))),
 (.ev (.padd 0 (.sym 7))),
 (.ev (.padd 3 (.sym 8))),
 (.ev (.ld false 1 (.sym 3) (.sym 9))),
 (.ev (.bin .sub .int (.sym 5) (.sym 10))),
 (.ev (.bin .gtr .int (.cell 1 (.sym 4)) (.sym 11)))]
 (.ret (.tcons (.sym 12) (.tcons (.sym 3) .tnil))))
noncomputable def e107:Entry:={ f:=107,kn:=.plain,cf:={ (autoCfg true ([]++WRY) PNY [] [] Tryz.f107) with nils:=true,stk:=true },own:=false,ones:=[false,true,true],t:=t107 }
theorem ok107:EntOk Tryz.prog e107:=EntOk.ofPlain Tryz.func107 (by kernel_rfl) (by kernel_rfl)

noncomputable def t111:T:=(wrapBinds [(.ev (.bin .geq .int (.sym 0) (.sym 1))),
 (.ev (.guard (.sym 4) true (.bin .leq .int (.sym 0) (.sym 2)))),
 (.ev (.ite (.sym 4) (.sym 5) (kb false)))]
 (.ret (.tcons (.sym 6) (.tcons (.sym 3) .tnil))))
noncomputable def e111:Entry:={ f:=111,kn:=.plain,cf:={ (autoCfg true ([]++WRY) PNY [] [] Tryz.f111) with nils:=true,stk:=true },own:=false,ones:=[true,true,true],t:=t111 }
theorem ok111:EntOk Tryz.prog e111:=EntOk.ofPlain Tryz.func111 (by kernel_rfl) (by kernel_rfl)

noncomputable def t169:T:=(.nilq (.sym 0) false (.ite (.sym 2) (.ret (.tcons (.const (.lst [])) (.tcons (.sym 1) .tnil))) (wrapBinds [(.ev (.const (.lst []))),
 (.ev (.app 4 32 (.sym 3) (.sym 0)))]
 (.ret (.tcons (.sym 4) (.tcons (.sym 1) .tnil))))))
noncomputable def e169:Entry:={ f:=169,kn:=.plain,cf:={ (autoCfg true ([]++WRY) PNY [] [] Tryz.f169) with nils:=true,stk:=true },own:=false,ones:=[true],t:=t169 }
theorem ok169:EntOk Tryz.prog e169:=EntOk.ofPlain Tryz.func169 (by kernel_rfl) (by kernel_rfl)

noncomputable def t175:T:=(wrapBinds [(.ev (.bin .lss .int (.sym 0) (ki 10)))]
 (.ite (.sym 2) (wrapBinds [(.ev (.bin .add .int (.sym 0) (ki 1))),
 (.ev (.m4 .ssub (.const (.v (.string ⟨#[48,49,50,51,52,53,54,55,56,57,97,98,99,100,101,102,103,104,105,106,107,108,109,110,111,112,113,114,115,116,117,118,119,120,121,122]⟩))) (.sym 0) (.sym 3) .nil))]
 (.ret (.tcons (.sym 4) (.tcons (.sym 1) .tnil)))) (wrapBinds [(.ev (.bin .mul .int (.sym 0) (ki 2))),
 (.ev (.bin .mul .int (.sym 0) (ki 2))),
 (.ev (.bin .add .int (.sym 4) (ki 2))),
 (.ev (.m4 .ssub (.const (.v (.string ⟨#[48,48,48,49,48,50,48,51,48,52,48,53,48,54,48,55,48,56,48,57,49,48,49,49,49,50,49,51,49,52,49,53,49,54,49,55,49,56,49,57,50,48,50,49,50,50,50,51,50,52,50,53,50,54,50,55,50,56,50,57,51,48,51,49,51,50,51,51,51,52,51,53,51,54,51,55,51,56,51,57,52,48,52,49,52,50,52,51,52,52,52,53,52,54,52,55,52,56,52,57,53,48,53,49,53,50,53,51,53,52,53,53,53,54,53,55,53,56,53,57,54,48,54,49,54,50,54,51,54,52,54,53,54,54,54,55,54,56,54,57,55,48,55,49,55,50,55,51,55,52,55,53,55,54,55,55,55,56,55,57,56,48,56,49,56,50,56,51,56,52,56,53,56,54,56,55,56,56,56,57,57,48,57,49,57,50,57,51,57,52,57,53,57,54,57,55,57,56,57,57]⟩))) (.sym 3) (.sym 5) .nil))]
 (.ret (.tcons (.sym 6) (.tcons (.sym 1) .tnil))))))
noncomputable def e175:Entry:={ f:=175,kn:=.plain,cf:={ (autoCfg true ([]++WRY) PNY [] [] Tryz.f175) with nils:=true,stk:=true },own:=false,ones:=[true],t:=t175 }
theorem ok175:EntOk Tryz.prog e175:=EntOk.ofPlain Tryz.func175 (by kernel_rfl) (by kernel_rfl)

noncomputable def t207:T:=(wrapBinds [(.ev (.bin .geq .int (.sym 0) (.const (.v (.int .u64 4294967296)))))]
 (.join 0 2 (.ite (.sym 2) (wrapBinds [(.ev (.bin .shr .int (.sym 0) (.const (.v (.int .u64 32)))))]
 (.jump 0 [(.sym 3),(ki 32)])) (.jump 0 [(.sym 0),(ki 0)])) (wrapBinds [(.ev (.bin .geq .int (.sym 3) (.const (.v (.int .u64 65536)))))]
 (.join 0 2 (.ite (.sym 5) (wrapBinds [(.ev (.bin .shr .int (.sym 3) (.const (.v (.int .u64 16))))),
 (.ev (.bin .add .int (.sym 4) (ki 16)))]
 (.jump 0 [(.sym 6),(.sym 7)])) (.jump 0 [(.sym 3),(.sym 4)])) (wrapBinds [(.ev (.bin .geq .int (.sym 6) (.const (.v (.int .u64 256)))))]
 (.join 0 2 (.ite (.sym 8) (wrapBinds [(.ev (.bin .shr .int (.sym 6) (.const (.v (.int .u64 8))))),
 (.ev (.bin .add .int (.sym 7) (ki 8)))]
 (.jump 0 [(.sym 9),(.sym 10)])) (.jump 0 [(.sym 6),(.sym 7)])) (wrapBinds [(.ev (.conv .u8 (.sym 9))),
 (.ev (.m4 .sidx (.const (.v (.string ⟨#[0,1,2,2,3,3,3,3,4,4,4,4,4,4,4,4,5,5,5,5,5,5,5,5,5,5,5,5,5,5,5,5,6,6,6,6,6,6,6,6,6,6,6,6,6,6,6,6,6,6,6,6,6,6,6,6,6,6,6,6,6,6,6,6,7,7,7,7,7,7,7,7,7,7,7,7,7,7,7,7,7,7,7,7,7,7,7,7,7,7,7,7,7,7,7,7,7,7,7,7,7,7,7,7,7,7,7,7,7,7,7,7,7,7,7,7,7,7,7,7,7,7,7,7,7,7,7,7,8,8,8,8,8,8,8,8,8,8,8,8,8,8,8,8,8,8,8,8,8,8,8,8,8,8,8,8,8,8,8,8,8,8,8,8,8,8,8,8,8,8,8,8,8,8,8,8,8,8,8,8,8,8,8,8,8,8,8,8,8,8,8,8,8,8,8,8,8,8,8,8,8,8,8,8,8,8,8,8,8,8,8,8,8,8,8,8,8,8,8,8,8,8,8,8,8,8,8,8,8,8,8,8,8,8,8,8,8,8,8,8,8,8,8,8,8,8,8,8,8,8,8,8,8,8,8,8]⟩))) (.sym 11) .nil .nil)),
 (.ev (.conv .i64 (.sym 12))),
 (.ev (.bin .add .int (.sym 10) (.sym 13)))]
 (.ret (.tcons (.sym 14) (.tcons (.sym 1) .tnil))))))))))
noncomputable def e207:Entry:={ f:=207,kn:=.plain,cf:={ (autoCfg true ([]++WRY) PNY [] [] Tryz.f207) with nils:=true,stk:=true },own:=false,ones:=[true],t:=t207 }
theorem ok207:EntOk Tryz.prog e207:=EntOk.ofPlain Tryz.func207 (by kernel_rfl) (by kernel_rfl)

noncomputable def t231:T:=(wrapBinds [(.ev (.lenL (.sym 0)))]
 (.join 0 2 (.loop 1 [(ki 0)] (wrapBinds [(.ev (.bin .lss .int (.sym 4) (.sym 3)))]
 (.ite (.sym 5) (.join 2 3 (wrapBinds [(.ev (.eaddr 4 (.sym 0) (.sym 4))),
 (.ev (.ld true 4 (.sym 2) (.sym 6))),
 (.callv [] (.sym 1) (.sym 2) [(.sym 7)] [true])]
 (.ite (.sym 8) (.ret (.tcons (.sym 4) (.tcons (.sym 2) .tnil))) (.jump 2 [(.sym 6),(.sym 7),(.sym 8)]))) (wrapBinds [(.ev (.bin .add .int (.sym 4) (ki 1)))]
 (.jump 1 [(.sym 9)]))) (.jump 0 [(.sym 4),(.sym 5)])))) (.ret (.tcons (ki (-1)) (.tcons (.sym 2) .tnil)))))
noncomputable def e231:Entry:={ f:=231,kn:=.plain,cf:={ (autoCfg true ([]++WRY) PNY [] [] Tryz.f231) with nils:=true,stk:=true },own:=false,ones:=[true,true],t:=t231 }
theorem ok231:EntOk Tryz.prog e231:=EntOk.ofPlain Tryz.func231 (by kernel_rfl) (by kernel_rfl)

noncomputable def t232:T:=(wrapBinds [(.call [] 282 (.sym 2) [(.sym 0),(.sym 1)] [true]),
 (.ev (.bin .geq .int (.sym 3) (ki 0)))]
 (.ret (.tcons (.sym 4) (.tcons (.sym 2) .tnil))))
noncomputable def e232:Entry:={ f:=232,kn:=.plain,cf:={ (autoCfg true ([]++WRY) PNY [] [] Tryz.f232) with nils:=true,stk:=true },own:=false,ones:=[true,true],t:=t232 }
theorem ok232:EntOk Tryz.prog e232:=EntOk.ofPlain Tryz.func232 (by kernel_rfl) (by kernel_rfl)

noncomputable def t238:T:=(wrapBinds [(.call [] 267 (.sym 2) [(.sym 0),(.sym 1)] [true])]
 (.ret (.tcons (.sym 3) (.tcons (.sym 2) .tnil))))
noncomputable def e238:Entry:={ f:=238,kn:=.plain,cf:={ (autoCfg true ([]++WRY) PNY [] [] Tryz.f238) with nils:=true,stk:=true },own:=false,ones:=[true,true],t:=t238 }
theorem ok238:EntOk Tryz.prog e238:=EntOk.ofPlain Tryz.func238 (by kernel_rfl) (by kernel_rfl)

noncomputable def t240:T:=(wrapBinds [(.ev (.bin .eql .int (.sym 1) (ki 10)))]
 (.ite (.sym 3) (wrapBinds [(.ev (.bin .leq .int (ki 0) (.sym 0))),
 (.ev (.guard (.sym 4) true (.bin .lss .int (.sym 0) (ki 100)))),
 (.ev (.ite (.sym 4) (.sym 5) (kb false)))]
 (.ite (.sym 6) (wrapBinds [(.call [] 175 (.sym 2) [(.sym 0)] [true])]
 (.ret (.tcons (.sym 7) (.tcons (.sym 2) .tnil)))) (wrapBinds [(.ev (.conv .u64 (.sym 0))),
 (.ev (.bin .lss .int (.sym 0) (ki 0)))]
 (.join 0 1 (.ite (.sym 8) (wrapBinds [(.ev (.un .neg (.sym 7)))]
 (.jump 0 [(.sym 9)])) (.jump 0 [(.sym 7)])) (wrapBinds [(.call [] 176 (.sym 2) [(.sym 9)] [true])]
 (.ret (.deref .nil))))))) (wrapBinds [(.ev (.conv .u64 (.sym 0))),
 (.ev (.bin .lss .int (.sym 0) (ki 0))),
 (.call [] 178 (.sym 2) [(.const (.lst [])),(.sym 4),(.sym 1),(.sym 5),(kb false)] [true,true])]
 (.ret (.tcons (.tget 1 (.sym 6)) (.tcons (.sym 2) .tnil))))))
noncomputable def e240:Entry:={ f:=240,kn:=.plain,cf:={ (autoCfg true ([]++WRY) PNY [] [] Tryz.f240) with nils:=true,stk:=true },own:=false,ones:=[true,true],t:=t240 }
theorem ok240:EntOk Tryz.prog e240:=EntOk.ofPlain Tryz.func240 (by kernel_rfl) (by kernel_rfl)

noncomputable def t247:T:=(wrapBinds [(.call [] 295 (.sym 2) [(.sym 0)] [true]),
 (.call [] 295 (.sym 2) [(.sym 1)] [true])]
 (.ite (.sym 3) (.ite (.sym 4) (.ret (.tcons (ki 0) (.tcons (.sym 2) .tnil))) (.ret (.tcons (ki (-1)) (.tcons (.sym 2) .tnil)))) (.ite (.sym 4) (.ret (.tcons (ki 1) (.tcons (.sym 2) .tnil))) (wrapBinds [(.ev (.bin .lss .int (.sym 0) (.sym 1)))]
 (.ite (.sym 5) (.ret (.tcons (ki (-1)) (.tcons (.sym 2) .tnil))) (wrapBinds [(.ev (.bin .gtr .int (.sym 0) (.sym 1)))]
 (.ite (.sym 6) (.ret (.tcons (ki 1) (.tcons (.sym 2) .tnil))) (.ret (.tcons (ki 0) (.tcons (.sym 2) .tnil))))))))))
noncomputable def e247:Entry:={ f:=247,kn:=.plain,cf:={ (autoCfg true ([]++WRY) PNY [] [] Tryz.f247) with nils:=true,stk:=true },own:=false,ones:=[true,true],t:=t247 }
theorem ok247:EntOk Tryz.prog e247:=EntOk.ofPlain Tryz.func247 (by kernel_rfl) (by kernel_rfl)

noncomputable def t267:T:=(wrapBinds [(.ev (.lenS (.sym 1))),
 (.ev (.bin .eql .int (.sym 3) (ki 0))),
 (.ev (.guard (.sym 4) false (.bin .eql .str (.sym 1) (.sym 0)))),
 (.ev (.ite (.sym 4) (kb true) (.sym 5)))]
 (.ite (.sym 6) (.ret (.tcons (ki 0) (.tcons (.sym 2) .tnil))) (wrapBinds [(.ev (.bin .eql .int (.sym 3) (ki 1)))]
 (.ite (.sym 7) (wrapBinds [(.ev (.m4 .sidx (.sym 1) (ki 0) .nil .nil)),
 (.call [] 301 (.sym 2) [(.sym 0),(.sym 8)] [true])]
 (.ret (.tcons (.sym 9) (.tcons (.sym 2) .tnil)))) (wrapBinds [(.ev (.lenS (.sym 0))),
 (.ev (.bin .geq .int (.sym 3) (.sym 8)))]
 (.ite (.sym 9) (.ret (.tcons (ki (-1)) (.tcons (.sym 2) .tnil))) (.ret (.deref .nil))))))))
noncomputable def e267:Entry:={ f:=267,kn:=.plain,cf:={ (autoCfg true ([]++WRY) PNY [] [] Tryz.f267) with nils:=true,stk:=true },own:=false,ones:=[true,true],t:=t267 }
theorem ok267:EntOk Tryz.prog e267:=EntOk.ofPlain Tryz.func267 (by kernel_rfl) (by kernel_rfl)

noncomputable def t276:T:=(wrapBinds [(.ev (.aggN 7 (.sym 0)))]
 (.ret (.tcons (.cons (.cell 0 (.sym 2)) (.cons (.cell 1 (.sym 2)) (.cons (.cell 2 (.sym 2)) (.cons (.cell 3 (.sym 2)) (.cons (.cell 4 (.sym 2)) (.cons (.cell 5 (.sym 2)) (.cons (ki 0) .nil))))))) (.tcons (.sym 1) .tnil))))
noncomputable def e276:Entry:={ f:=276,kn:=.plain,cf:={ (autoCfg true ([]++WRY) PNY [] [] Tryz.f276) with nils:=true,stk:=true },own:=false,ones:=[false],t:=t276 }
theorem ok276:EntOk Tryz.prog e276:=EntOk.ofPlain Tryz.func276 (by kernel_rfl) (by kernel_rfl)

noncomputable def t295:T:=(wrapBinds [(.ev (.bin .neq .int (.sym 0) (.sym 0)))]
 (.ret (.tcons (.sym 2) (.tcons (.sym 1) .tnil))))
noncomputable def e295:Entry:={ f:=295,kn:=.plain,cf:={ (autoCfg true ([]++WRY) PNY [] [] Tryz.f295) with nils:=true,stk:=true },own:=false,ones:=[true],t:=t295 }
theorem ok295:EntOk Tryz.prog e295:=EntOk.ofPlain Tryz.func295 (by kernel_rfl) (by kernel_rfl)

noncomputable def t90:T:=(wrapBinds [(.ev (.aggN 3 (.sym 0))),
 (.call [] 171 (.sym 2) [(agc 3 (.sym 3)),(.sym 1)] [true]),
 (.ev (.un .not (.sym 4)))]
 (.ite (.sym 5) (.ret (.tcons (.tcons (.const (.v (.pointer none))) (.tcons (ki 2) .tnil)) (.tcons (.sym 2) .tnil))) (wrapBinds [(.call [] 85 (.sym 2) [(.cell 2 (.sym 3))] [true]),
 (.call [] 168 (.const (.st [])) [(.m4 .noids (.sym 1) .nil .nil .nil)] [true]),
 (.ev (.m4 .newm (.sym 2) .nil .nil .nil)),
 (.ev (.cons (.aggN 3 (.cons (.cell 0 (.sym 3)) (.cons (.cell 1 (.sym 3)) (.cons (.sym 6) .nil)))) (.cons (.scal (.sym 7)) (.cons (.scal (.m4 .fstm (.sym 2) .nil .nil .nil)) .nil)))),
 (.ev (.newb 128 5 (.sym 8) (.aggN 5 (.sym 9))))]
 (.ret (.tcons (.tcons (.fstid (.sym 8)) (.tcons (ki 0) .tnil)) (.tcons (.sym 10) .tnil))))))
noncomputable def e90:Entry:={ f:=90,kn:=.plain,cf:={ (autoCfg false ([]++WRY) PNY [19] [] Tryz.f90) with nils:=true,stk:=true,locs:=[168] },own:=false,ones:=[false,true],t:=t90 }
theorem ok90:EntOk Tryz.prog e90:=EntOk.ofPlain Tryz.func90 (by kernel_rfl) (by kernel_rfl)

noncomputable def t93:T:=(wrapBinds [(.wcall [] 173 (.sym 2) [(.sym 0)] []),
 (.ev (.nn (.sym 0))),
 (.ev (.padd 1 (.sym 4))),
 (.ev (.ld false 1 (.tget 1 (.sym 3)) (.sym 5))),
 (.ev (.apph 5 1 1 (.tget 1 (.sym 3)) (.sym 6) (.m4 .sbytes (.sym 1) .nil .nil .nil))),
 (.ev (.nn (.sym 0))),
 (.ev (.padd 1 (.sym 8))),
 (.ev (.sto 1 (.sym 7) (.sym 9) (.apps (.tget 1 (.sym 3)) (.sym 6) (.m4 .sbytes (.sym 1) .nil .nil .nil)))),
 (.ev (.lenS (.sym 1)))]
 (.ret (.tcons (.tcons (.sym 11) (.tcons (.const (.v .nilIface)) .tnil)) (.tcons (.sym 10) .tnil))))
noncomputable def e93:Entry:={ f:=93,kn:=.plain,cf:={ (autoCfg false ([173]++WRY) PNY [] [] Tryz.f93) with nils:=true,stk:=true },own:=false,ones:=[true,true],t:=t93 }
theorem ok93:EntOk Tryz.prog e93:=EntOk.ofPlain Tryz.func93 (by kernel_rfl) (by kernel_rfl)

noncomputable def t151:T:=(wrapBinds [(.ev (.aggN 2 (.sym 1)))]
 (.wpcall 211 (.sym 2) [(agc 2 (.sym 3)),(ki 6)] [true] [] [] (wrapBinds [(.ev (.eaddr 1 (.tget 0 (.sym 4)) (ki 2))),
 (.ev (.ld false 1 (.tget 1 (.sym 4)) (.sym 5)))]
 (.pcall 214 (.tget 1 (.sym 4)) [(.sym 0),(.sym 6)] [true] [] [] (wrapBinds [(.ev (.eaddr 1 (.tget 0 (.sym 4)) (ki 0))),
 (.ev (.ld false 1 (.tget 1 (.sym 4)) (.sym 8))),
 (.ev (.eaddr 1 (.tget 0 (.sym 4)) (ki 1))),
 (.ev (.ld false 1 (.tget 1 (.sym 4)) (.sym 10))),
 (.ev (.eaddr 1 (.tget 0 (.sym 4)) (ki 2))),
 (.ev (.ld false 1 (.tget 1 (.sym 4)) (.sym 12))),
 (.ev (.eaddr 1 (.tget 0 (.sym 4)) (ki 3))),
 (.ev (.ld false 1 (.tget 1 (.sym 4)) (.sym 14))),
 (.ev (.eaddr 1 (.tget 0 (.sym 4)) (ki 4))),
 (.ev (.ld false 1 (.tget 1 (.sym 4)) (.sym 16))),
 (.ev (.eaddr 1 (.tget 0 (.sym 4)) (ki 5))),
 (.ev (.ld false 1 (.tget 1 (.sym 4)) (.sym 18))),
 (.ev (.cons (.scal (.sym 9)) (.cons (.scal (.sym 11)) (.cons (.scal (ki 1)) (.cons (.scal (.sym 13)) (.cons (.scal (.sym 15)) (.cons (.scal (.sym 17)) (.cons (.scal (.sym 19)) .nil)))))))),
 (.ev (.aggN 7 (.sym 20))),
 (.ev (.bin .eql .str (.cell 0 (.sym 3)) (.const (.v (.string ⟨#[110,111,116]⟩)))))]
 (.join 0 1 (.ite (.sym 22) (.jump 0 [(ki 2)]) (.jump 0 [(.cell 2 (.sym 21))])) (wrapBinds [(.ev (.nn (.sym 0))),
 (.ev (.padd 31 (.sym 24))),
 (.ev (.ld false 1 (.tget 1 (.sym 4)) (.sym 25))),
 (.ev (.lcons (.aggN 7 (.cons (.cell 0 (.sym 21)) (.cons (.cell 1 (.sym 21)) (.cons (.sym 23) (.cons (.cell 3 (.sym 21)) (.cons (.cell 4 (.sym 21)) (.cons (.cell 5 (.sym 21)) (.cons (.cell 6 (.sym 21)) .nil)))))))) (.const (.lst [])))),
 (.wcall [] 216 (.tget 1 (.sym 4)) [(.sym 26),(.sym 27)] [true])]
 (.pcall 212 (.tget 1 (.sym 28)) [(.tget 0 (.sym 28))] [] [] [] (wrapBinds [(.ev (.bin .eql .int (.sym 23) (ki 1))),
 (.ev (.guard (.sym 30) true (.nn (.sym 0)))),
 (.ev (.guard (.sym 30) true (.padd 0 (.sym 31)))),
 (.ev (.guard (.sym 30) true (.padd 9 (.sym 32)))),
 (.ev (.guard (.sym 30) true (.ld false 1 (.tget 1 (.sym 28)) (.sym 33)))),
 (.ev (.guard (.sym 30) true (.cell 0 (.sym 21)))),
 (.ev (.guard (.sym 30) true (.eaddr 2 (.sym 34) (.sym 35)))),
 (.ev (.guard (.sym 30) true (.padd 0 (.sym 36)))),
 (.ev (.guard (.sym 30) true (.ld false 1 (.tget 1 (.sym 28)) (.sym 37)))),
 (.ev (.guard (.sym 30) true (.bin .neq .int (.sym 38) (ki 3)))),
 (.ev (.ite (.sym 30) (.sym 39) (kb false)))]
 (.join 0 1 (.ite (.sym 40) (wrapBinds [(.ev (.nn (.sym 0))),
 (.ev (.padd 30 (.sym 41))),
 (.ev (.ld false 1 (.tget 1 (.sym 28)) (.sym 42))),
 (.ev (.bin .quo .int (.cell 6 (.sym 21)) (ki 1000))),
 (.ev (.cons (.scal (ki 8)) (.cons (.scal (.sym 44)) (.cons (.scal (.cell 4 (.sym 21))) (.cons (.scal (.sym 7)) .nil))))),
 (.wcall [] 213 (.tget 1 (.sym 28)) [(.sym 43),(.sym 45)] [true])]
 (.jump 0 [(.tget 1 (.sym 46))])) (.jump 0 [(.tget 1 (.sym 28))])) (.ret (.tcons .tnil (.tcons (.sym 41) .tnil)))))))))))))
noncomputable def e151:Entry:={ f:=151,kn:=.plain,cf:={ (autoCfg false ([211]++WRY) PNY [] [] Tryz.f151) with nils:=true,stk:=true },own:=false,ones:=[true,false],t:=t151 }
theorem ok151:EntOk Tryz.prog e151:=EntOk.ofPlain Tryz.func151 (by kernel_rfl) (by kernel_rfl)

noncomputable def t277:T:=(wrapBinds [(.ev (.nn (.sym 0))),
 (.ev (.padd 2 (.sym 4))),
 (.ev (.ld false 1 (.sym 3) (.sym 5))),
 (.ev (.ld false 1 (.sym 3) (.sym 2))),
 (.ev (.ld true 4 (.sym 3) (.sym 1))),
 (.ev (.eaddr 4 (.sym 6) (.sym 7))),
 (.ev (.sto 4 (.sym 3) (.sym 9) (.sym 8)))]
 (.ret (.tcons .tnil (.tcons (.sym 10) .tnil))))
noncomputable def e277:Entry:={ f:=277,kn:=.plain,cf:={ (autoCfg false ([]++WRY) PNY [] [] Tryz.f277) with nils:=true,stk:=true },own:=false,ones:=[true,true,true],t:=t277 }
theorem ok277:EntOk Tryz.prog e277:=EntOk.ofPlain Tryz.func277 (by kernel_rfl) (by kernel_rfl)

noncomputable def t6:T:=(wrapBinds [(.call [] 19 (.sym 0) [] [false]),
 (.call [] 18 (.sym 0) [(.sym 1),(.const (.v (.string ⟨#[111,112,101,110,32,48,10,99,111,118,101,114,101,100,32,48,10,112,111,115,116,32,48,32,53,10,112,111,115,116,32,49,32,53,10,115,116,97,114,116,32,49,32,49,48,10,115,116,97,114,116,32,49,32,49,48,10]⟩)))] [true,true]),
 (.call [] 19 (.sym 0) [] [false]),
 (.call [] 18 (.sym 0) [(.sym 3),(.const (.v (.string ⟨#[108,105,110,101,32,49,32,49,32,54,51,51,32,51,48,48,48,48,48,10,111,112,101,110,32,48,48,10,106,117,109,112,32,49,10,112,111,115,116,32,57,32,49]⟩)))] [true,true]),
 (.call [] 19 (.sym 0) [] [false]),
 (.ev (.lcons (.scal (.const (.v (.string ⟨#[112,97,115,115,32,48,32,48,32,49,32,48,32,49,48,48,48,32,50,48,48,48]⟩)))) (.lcons (.scal (.const (.v (.string ⟨#[112,97,115,115,32,48,32,49,32,49,32,49,32,51,48,49,48,48,48,32,51,48,50,48,48,48]⟩)))) (.lcons (.scal (.const (.v (.string ⟨#[108,101,103,32,49,32,48,32,54,48,48]⟩)))) (.lcons (.scal (.const (.v (.string ⟨#[108,105,110,101,32,49,32,48,32,54,51,48,32,48]⟩)))) (.lcons (.scal (.const (.v (.string ⟨#[116,97,107,101,32,49,32,49,32,54,51,51,32,52,48,48,48,48,48]⟩)))) (.const (.lst [])))))))),
 (.wcall [] 20 (.sym 0) [(.sym 5),(.sym 6)] [true,true,true]),
 (.ev (.bin .neq .int (.tget 1 (.sym 2)) (ki 0))),
 (.ev (.guard (.sym 8) false (.tget 1 (.sym 4)))),
 (.ev (.guard (.sym 8) false (.bin .neq .int (.sym 9) (ki 0)))),
 (.ev (.ite (.sym 8) (kb true) (.sym 10))),
 (.ev (.guard (.sym 11) false (.tget 2 (.tget 0 (.sym 7))))),
 (.ev (.guard (.sym 11) false (.bin .neq .int (.sym 12) (ki 0)))),
 (.ev (.ite (.sym 11) (kb true) (.sym 13))),
 (.ev (.guard (.sym 14) false (.tget 1 (.tget 0 (.sym 7))))),
 (.ev (.guard (.sym 14) false (.bin .neq .int (.sym 15) (ki (-1))))),
 (.ev (.ite (.sym 14) (kb true) (.sym 16))),
 (.ev (.guard (.sym 17) false (.tget 0 (.tget 0 (.sym 7))))),
 (.ev (.guard (.sym 17) false (.bin .eql .ptr (.sym 18) (.const (.v (.pointer none)))))),
 (.ev (.ite (.sym 17) (kb true) (.sym 19)))]
 (.ite (.sym 20) (.ret (.tcons (kb false) (.tcons (.tget 1 (.sym 7)) .tnil))) (wrapBinds [(.wcall [] 17 (.tget 1 (.sym 7)) [(.tget 0 (.tget 0 (.sym 7)))] [true]),
 (.ev (.bin .eql .str (.tget 0 (.sym 2)) (.const (.v (.string ⟨#[111,107,10,111,107,10,111,107,10,111,107,10,111,107,10,101,114,114,111,114,32,55,10]⟩))))),
 (.ev (.guard (.sym 22) true (.tget 0 (.sym 4)))),
 (.ev (.guard (.sym 22) true (.bin .eql .str (.sym 23) (.const (.v (.string ⟨#[101,114,114,111,114,32,50,10,101,114,114,111,114,32,51,10,101,114,114,111,114,32,51,10,101,114,114,111,114,32,50,10]⟩)))))),
 (.ev (.ite (.sym 22) (.sym 24) (kb false))),
 (.ev (.guard (.sym 25) true (.tget 0 (.sym 21)))),
 (.ev (.guard (.sym 25) true (.lenL (.sym 26)))),
 (.ev (.guard (.sym 25) true (.bin .eql .int (.sym 27) (ki 1)))),
 (.ev (.ite (.sym 25) (.sym 28) (kb false))),
 (.ev (.guard (.sym 29) true (.tget 0 (.sym 21)))),
 (.ev (.guard (.sym 29) true (.eaddr 3 (.sym 30) (ki 0)))),
 (.ev (.guard (.sym 29) true (.padd 2 (.sym 31)))),
 (.ev (.guard (.sym 29) true (.ld false 1 (.tget 1 (.sym 21)) (.sym 32)))),
 (.ev (.guard (.sym 29) true (.lenL (.sym 33)))),
 (.ev (.guard (.sym 29) true (.bin .eql .int (.sym 34) (ki 3)))),
 (.ev (.ite (.sym 29) (.sym 35) (kb false))),
 (.ev (.guard (.sym 36) true (.tget 0 (.sym 21)))),
 (.ev (.guard (.sym 36) true (.eaddr 3 (.sym 37) (ki 0)))),
 (.ev (.guard (.sym 36) true (.padd 2 (.sym 38)))),
 (.ev (.guard (.sym 36) true (.ld false 1 (.tget 1 (.sym 21)) (.sym 39)))),
 (.ev (.guard (.sym 36) true (.eaddr 4 (.sym 40) (ki 1)))),
 (.ev (.guard (.sym 36) true (.padd 1 (.sym 41)))),
 (.ev (.guard (.sym 36) true (.ld false 1 (.tget 1 (.sym 21)) (.sym 42)))),
 (.ev (.guard (.sym 36) true (.bin .eql .int (.sym 43) (ki 300000)))),
 (.ev (.ite (.sym 36) (.sym 44) (kb false)))]
 (.ret (.tcons (.sym 45) (.tcons (.tget 1 (.sym 21)) .tnil))))))
noncomputable def e6:Entry:={ f:=6,kn:=.plain,cf:={ (autoCfg false ([17]++WRY) PNY [] [] Tryz.f6) with nils:=true,stk:=true },own:=true,ones:=[],t:=t6 }
theorem ok6:EntOk Tryz.prog e6:=EntOk.ofPlain Tryz.func6 (by kernel_rfl) (by kernel_rfl)

end Go.Am.Ra

/-
 Functions that the chapter's examples reach,as texts.
-/
namespace Go.Am.Ra
open Go.Proofs
set_option maxRecDepth 100000

noncomputable def t25:T:=(wrapBinds [(.ev (.bin .geq .int (.sym 0) (.sym 1))),
 (.ev (.guard (.sym 4) true (.bin .leq .int (.sym 0) (.sym 2)))),
 (.ev (.ite (.sym 4) (.sym 5) (kb false)))]
 (.ret (.tcons (.sym 6) (.tcons (.sym 3) .tnil))))
noncomputable def e25:Entry:={ f:=25,kn:=.plain,cf:={ (autoCfg true ([]++WRY) PNY [] [] Tryz.f25) with nils:=true,stk:=true },own:=false,ones:=[true,true,true],t:=t25 }
theorem ok25:EntOk Tryz.prog e25:=EntOk.ofPlain Tryz.func25 (by kernel_rfl) (by kernel_rfl)

noncomputable def t46:T:=(wrapBinds [(.ev (.nn (.sym 0))),
 (.ev (.padd 6 (.sym 4))),
 (.ev (.m4 (.elemA 2 3) (.sym 5) (ki 1) .nil .nil)),
 (.ev (.padd 0 (.sym 6))),
 (.ev (.ld false 1 (.sym 3) (.sym 7))),
 (.ev (.un .not (.sym 8)))]
 (.ret (.tcons (.sym 9) (.tcons (.sym 3) .tnil))))
noncomputable def e46:Entry:={ f:=46,kn:=.plain,cf:={ (autoCfg true ([]++WRY) PNY [] [] Tryz.f46) with nils:=true,stk:=true },own:=false,ones:=[true,true,true],t:=t46 }
theorem ok46:EntOk Tryz.prog e46:=EntOk.ofPlain Tryz.func46 (by kernel_rfl) (by kernel_rfl)

noncomputable def t19:T:=(wrapBinds [(.ev (.cons (.scal (ki 1)) (.cons (.const (.agg [(.v (.int .i64 0))])) (.cons (.scal (ki 30)) (.cons (.const (.agg [(.v (.bool false))])) .nil))))),
 (.ev (.cons (.scal (ki 2)) (.cons (.const (.agg [(.v (.int .i64 0))])) (.cons (.const (.agg [(.v (.int .i64 0))])) (.cons (.const (.agg [(.v (.bool false))])) .nil))))),
 (.ev (.cons (.scal (ki 1)) (.cons (.const (.agg [(.v (.int .i64 0))])) (.cons (.scal (ki 60)) (.cons (.const (.agg [(.v (.bool false))])) .nil))))),
 (.ev (.lcons (.aggN 4 (.sym 1)) (.lcons (.aggN 4 (.sym 2)) (.lcons (.aggN 4 (.sym 3)) (.const (.lst [])))))),
 (.ev (.lcons (.scal (ki 10000)) (.lcons (.scal (ki 60000)) (.const (.lst []))))),
 (.ev (.lcons (.scal (ki 10)) (.lcons (.scal (ki 6)) (.const (.lst []))))),
 (.ev (.lcons (.scal (ki 3)) (.const (.lst [])))),
 (.ev (.cons (.scal (ki 10000)) (.cons (.scal (ki 60000)) (.cons (.scal (ki 15)) (.cons (.scal (ki 30)) (.cons (.scal (.sym 5)) (.cons (.const (.agg [(.v (.bool false))])) (.cons (.const (.agg [(.v (.int .i64 0))])) (.cons (.scal (ki 1)) (.cons (.scal (ki 100)) (.cons (.scal (ki 1)) (.cons (.scal (.sym 6)) (.cons (.scal (.sym 7)) .nil))))))))))))),
 (.ev (.cons (.scal (.sym 4)) (.cons (.scal (ki 1)) (.cons (.aggN 12 (.sym 8)) .nil)))),
 (.ev (.aggN 14 (.sym 9))),
 (.ev (.cons (.scal (ki 2)) (.cons (.scal (ki 60)) (.cons (.scal (ki 1)) (.cons (.const (.agg [(.v (.int .i64 0))])) (.cons (.scal (ki 600)) (.cons (.scal (ki 1)) .nil))))))),
 (.ev (.lcons (.scal (ki 1000)) (.const (.lst [])))),
 (.ev (.cons (.scal (ki 1)) (.cons (.scal (ki 2)) (.cons (.scal (.sym 12)) .nil)))),
 (.ev (.cons (.scal (ki 1)) (.cons (.const (.agg [(.v (.int .i64 0))])) .nil))),
 (.ev (.lcons (.aggN 2 (.sym 14)) (.const (.lst [])))),
 (.ev (.cons (.scal (ki 1)) (.cons (.const (.agg [(.v (.int .i64 0))])) (.cons (.const (.agg [(.v (.int .i64 0))])) (.cons (.scal (ki 1000)) .nil))))),
 (.ev (.lcons (.aggN 4 (.sym 16)) (.const (.lst [])))),
 (.ev (.cons (.scal (ki 1)) (.cons (.scal (.sym 17)) (.cons (.scal (ki 30)) (.cons (.scal (ki 60)) (.cons (.const (.agg [(.v (.int .i64 0))])) (.cons (.const (.agg [(.v (.int .i64 0))])) .nil))))))),
 (.ev (.cons (.aggN 6 (.sym 11)) (.cons (.aggN 3 (.sym 13)) (.cons (.scal (.sym 15)) (.cons (.aggN 14 (agc 14 (.sym 10))) (.cons (.aggN 6 (.sym 18)) .nil)))))),
 (.ev (.aggN 30 (.sym 19)))]
 (.ret (.tcons (agc 30 (.sym 20)) (.tcons (.sym 0) .tnil))))
noncomputable def e19:Entry:={ f:=19,kn:=.plain,cf:={ (autoCfg true ([]++WRY) PNY [] [] Tryz.f19) with nils:=true,stk:=true },own:=true,ones:=[],t:=t19 }
theorem ok19:EntOk Tryz.prog e19:=EntOk.ofPlain Tryz.func19 (by kernel_rfl) (by kernel_rfl)

noncomputable def t94:T:=(wrapBinds [(.call [] 174 (.sym 1) [(.sym 0)] [true])]
 (.ret (.tcons (.sym 2) (.tcons (.sym 1) .tnil))))
noncomputable def e94:Entry:={ f:=94,kn:=.plain,cf:={ (autoCfg true ([]++WRY) PNY [] [] Tryz.f94) with nils:=true,stk:=true },own:=false,ones:=[true],t:=t94 }
theorem ok94:EntOk Tryz.prog e94:=EntOk.ofPlain Tryz.func94 (by kernel_rfl) (by kernel_rfl)

noncomputable def t96:T:=(wrapBinds [(.ev (.bin .eql .int (.sym 1) (ki 10)))]
 (.ite (.sym 3) (wrapBinds [(.ev (.bin .lss .int (.sym 0) (.const (.v (.int .u64 100)))))]
 (.ite (.sym 4) (wrapBinds [(.ev (.conv .i64 (.sym 0))),
 (.call [] 175 (.sym 2) [(.sym 5)] [true])]
 (.ret (.tcons (.sym 6) (.tcons (.sym 2) .tnil)))) (wrapBinds [(.call [] 176 (.sym 2) [(.sym 0)] [true])]
 (.ret (.deref .nil))))) (wrapBinds [(.call [] 178 (.sym 2) [(.const (.lst [])),(.sym 0),(.sym 1),(kb false),(kb false)] [true,true])]
 (.ret (.tcons (.tget 1 (.sym 4)) (.tcons (.sym 2) .tnil))))))
noncomputable def e96:Entry:={ f:=96,kn:=.plain,cf:={ (autoCfg true ([]++WRY) PNY [] [] Tryz.f96) with nils:=true,stk:=true },own:=false,ones:=[true,true],t:=t96 }
theorem ok96:EntOk Tryz.prog e96:=EntOk.ofPlain Tryz.func96 (by kernel_rfl) (by kernel_rfl)

noncomputable def t104:T:=(wrapBinds [(.ev (.mkptr (.cons (.scal (.sym 1)) .nil))),
 (.ev (.nn (.sym 0))),
 (.ev (.padd 14 (.sym 4))),
 (.ev (.ld false 1 (.sym 2) (.sym 5))),
 (.ev (.mkfn 184 .tnil (.tcons (.sym 3) .tnil))),
 (.call [] 108 (.sym 2) [(.sym 6),(.sym 7)] [true])]
 (.ret (.tcons (.sym 8) (.tcons (.sym 2) .tnil))))
noncomputable def e104:Entry:={ f:=104,kn:=.plain,cf:={ (autoCfg true ([]++WRY) PNY [] [] Tryz.f104) with nils:=true,stk:=true },own:=false,ones:=[true,true],t:=t104 }
theorem ok104:EntOk Tryz.prog e104:=EntOk.ofPlain Tryz.func104 (by kernel_rfl) (by kernel_rfl)

noncomputable def t105:T:=(wrapBinds [(.ev (.aggN 5 (.sym 0))),
 (.ev (.un .not (.cell 3 (.sym 3)))),
 (.ev (.guard (.sym 4) true (.cell 2 (.sym 3)))),
 (.ev (.guard (.sym 4) true (.ld false 1 (.sym 2) (.sym 1)))),
 (.ev (.guard (.sym 4) true (.nn (.sym 6)))),
 (.ev (.guard (.sym 4) true (.padd 0 (.sym 7)))),
 (.ev (.guard (.sym 4) true (.padd 2 (.sym 8)))),
 (.ev (.guard (.sym 4) true (.ld false 1 (.sym 2) (.sym 9)))),
 (.ev (.guard (.sym 4) true (.bin .sub .int (.sym 10) (ki 1)))),
 (.ev (.guard (.sym 4) true (.bin .lss .int (.sym 5) (.sym 11)))),
 (.ev (.ite (.sym 4) (.sym 12) (kb false)))]
 (.ret (.tcons (.sym 13) (.tcons (.sym 2) .tnil))))
noncomputable def e105:Entry:={ f:=105,kn:=.plain,cf:={ (autoCfg true ([]++WRY) PNY [] [] Tryz.f105) with nils:=true,stk:=true },own:=false,ones:=[false,true],t:=t105 }
theorem ok105:EntOk Tryz.prog e105:=EntOk.ofPlain Tryz.func105 (by kernel_rfl) (by kernel_rfl)

noncomputable def t122:T:=(wrapBinds [(.ev (.aggN 14 (.sym 0))),
 (.ev (.aggN 3 (.sym 1))),
 (.call [] 119 (.sym 2) [(agc 14 (.sym 3))] [true]),
 (.ev (.bin .neq .int (.sym 5) (ki 0))),
 (.ev (.guard (.sym 6) false (.cell 0 (.sym 4)))),
 (.ev (.guard (.sym 6) false (.cell 1 (.sym 3)))),
 (.ev (.guard (.sym 6) false (.bin .sub .int (.sym 8) (ki 1)))),
 (.call [((.sym 6),false)] 190 (.sym 2) [(.sym 7),(ki 0),(.sym 9)] [true]),
 (.ev (.guard (.sym 6) false (.un .not (.sym 10)))),
 (.ev (.ite (.sym 6) (kb true) (.sym 11))),
 (.ev (.guard (.sym 12) false (.cell 2 (.sym 4)))),
 (.ev (.guard (.sym 12) false (.lenL (.sym 13)))),
 (.ev (.guard (.sym 12) false (.cell 0 (.sym 3)))),
 (.ev (.guard (.sym 12) false (.lenL (.sym 15)))),
 (.ev (.guard (.sym 12) false (.bin .neq .int (.sym 14) (.sym 16)))),
 (.ev (.ite (.sym 12) (kb true) (.sym 17))),
 (.ev (.guard (.sym 18) false (.cell 1 (.sym 4)))),
 (.ev (.guard (.sym 18) false (.lenL (.sym 19)))),
 (.ev (.guard (.sym 18) false (.cell 0 (.sym 3)))),
 (.ev (.guard (.sym 18) false (.cell 0 (.sym 3)))),
 (.ev (.guard (.sym 18) false (.lenL (.sym 22)))),
 (.ev (.guard (.sym 18) false (.bin .sub .int (.sym 23) (ki 1)))),
 (.ev (.guard (.sym 18) false (.eaddr 4 (.sym 21) (.sym 24)))),
 (.ev (.guard (.sym 18) false (.padd 1 (.sym 25)))),
 (.ev (.guard (.sym 18) false (.ld false 1 (.sym 2) (.sym 26)))),
 (.ev (.guard (.sym 18) false (.bin .add .int (.sym 27) (ki 1)))),
 (.ev (.guard (.sym 18) false (.bin .neq .int (.sym 20) (.sym 28)))),
 (.ev (.ite (.sym 18) (kb true) (.sym 29))),
 (.ev (.guard (.sym 30) false (.cell 1 (.sym 4)))),
 (.call [((.sym 30),false)] 191 (.sym 2) [(.sym 31),(ki 1),(ki 6),(ki 100000)] [true]),
 (.ev (.guard (.sym 30) false (.un .not (.sym 32)))),
 (.ev (.ite (.sym 30) (kb true) (.sym 33)))]
 (.ite (.sym 34) (.ret (.tcons (ki 2) (.tcons (.sym 2) .tnil))) (wrapBinds [(.ev (.lenL (.cell 2 (.sym 4))))]
 (.join 0 2 (.loop 1 [(ki 0)] (wrapBinds [(.ev (.bin .lss .int (.sym 36) (.sym 35)))]
 (.ite (.sym 37) (.join 2 19 (wrapBinds [(.ev (.eaddr 4 (.cell 2 (.sym 4)) (.sym 36))),
 (.ev (.ld true 4 (.sym 2) (.sym 38))),
 (.ev (.aggN 4 (.sym 39))),
 (.ev (.bin .gtr .int (.sym 36) (ki 0))),
 (.ev (.guard (.sym 41) true (.cell 2 (.sym 4)))),
 (.ev (.guard (.sym 41) true (.bin .sub .int (.sym 36) (ki 1)))),
 (.ev (.guard (.sym 41) true (.eaddr 4 (.sym 42) (.sym 43)))),
 (.ev (.guard (.sym 41) true (.padd 3 (.sym 44)))),
 (.ev (.guard (.sym 41) true (.ld false 1 (.sym 2) (.sym 45)))),
 (.ev (.guard (.sym 41) true (.bin .eql .int (.sym 46) (ki 2)))),
 (.ev (.ite (.sym 41) (.sym 47) (kb false))),
 (.ev (.guard (.sym 48) true (.cell 0 (.sym 3)))),
 (.ev (.guard (.sym 48) true (.bin .sub .int (.sym 36) (ki 1)))),
 (.ev (.guard (.sym 48) true (.eaddr 4 (.sym 49) (.sym 50)))),
 (.ev (.guard (.sym 48) true (.padd 1 (.sym 51)))),
 (.ev (.guard (.sym 48) true (.ld false 1 (.sym 2) (.sym 52)))),
 (.ev (.guard (.sym 48) true (.cell 0 (.sym 3)))),
 (.ev (.guard (.sym 48) true (.eaddr 4 (.sym 54) (.sym 36)))),
 (.ev (.guard (.sym 48) true (.padd 1 (.sym 55)))),
 (.ev (.guard (.sym 48) true (.ld false 1 (.sym 2) (.sym 56)))),
 (.ev (.guard (.sym 48) true (.bin .eql .int (.sym 53) (.sym 57)))),
 (.ev (.ite (.sym 48) (.sym 58) (kb false))),
 (.ev (.eaddr 4 (.cell 0 (.sym 3)) (.sym 36))),
 (.ev (.ld true 4 (.sym 2) (.sym 60))),
 (.call [] 193 (.sym 2) [(.sym 61),(agc 4 (.sym 40))] [true]),
 (.ev (.un .not (.sym 62))),
 (.ev (.guard (.sym 63) false (.guard (.sym 59) true (.cell 3 (.sym 40))))),
 (.ev (.guard (.sym 63) false (.guard (.sym 59) true (.bin .neq .int (.sym 64) (ki 2))))),
 (.ev (.guard (.sym 63) false (.ite (.sym 59) (.sym 65) (kb false)))),
 (.ev (.ite (.sym 63) (kb true) (.sym 66)))]
 (.ite (.sym 67) (.ret (.tcons (ki 2) (.tcons (.sym 2) .tnil))) (.jump 2 [(.sym 59),(.sym 38),(.sym 39),(.sym 41),(.sym 41),(.sym 48),(.sym 48),(.sym 59),(.sym 60),(.sym 61),(agc 4 (.sym 40)),(.sym 62),(.sym 63),(.sym 63),(.sym 67),(.cell 0 (.sym 40)),(.cell 1 (.sym 40)),(.cell 2 (.sym 40)),(.cell 3 (.sym 40))]))) (wrapBinds [(.ev (.bin .add .int (.sym 36) (ki 1)))]
 (.jump 1 [(.sym 57)]))) (.jump 0 [(.sym 36),(.sym 37)])))) (.ret (.tcons (ki 0) (.tcons (.sym 2) .tnil)))))))
noncomputable def e122:Entry:={ f:=122,kn:=.plain,cf:={ (autoCfg true ([]++WRY) PNY [] [] Tryz.f122) with nils:=true,stk:=true },own:=false,ones:=[false,false],t:=t122 }
theorem ok122:EntOk Tryz.prog e122:=EntOk.ofPlain Tryz.func122 (by kernel_rfl) (by kernel_rfl)

noncomputable def t191:T:=(wrapBinds [(.ev (.mkptr (.cons (.scal (.sym 3)) .nil))),
 (.ev (.lenL (.sym 0))),
 (.call [] 190 (.sym 4) [(.sym 6),(.sym 1),(.sym 2)] [true]),
 (.ev (.guard (.sym 7) true (.mkfn 248 .tnil (.tcons (.sym 5) .tnil)))),
 (.call [((.sym 7),true)] 232 (.sym 4) [(.sym 0),(.sym 8)] [true]),
 (.ev (.guard (.sym 7) true (.un .not (.sym 9)))),
 (.ev (.ite (.sym 7) (.sym 10) (kb false)))]
 (.ret (.tcons (.sym 11) (.tcons (.sym 4) .tnil))))
noncomputable def e191:Entry:={ f:=191,kn:=.plain,cf:={ (autoCfg true ([]++WRY) PNY [] [] Tryz.f191) with nils:=true,stk:=true },own:=false,ones:=[true,true,true,true],t:=t191 }
theorem ok191:EntOk Tryz.prog e191:=EntOk.ofPlain Tryz.func191 (by kernel_rfl) (by kernel_rfl)

noncomputable def t233:T:=(wrapBinds [(.call [] 111 (.sym 1) [(.sym 0),(ki 0),(ki 100000000)] [true]),
 (.ev (.un .not (.sym 2)))]
 (.ret (.tcons (.sym 3) (.tcons (.sym 1) .tnil))))
noncomputable def e233:Entry:={ f:=233,kn:=.plain,cf:={ (autoCfg true ([]++WRY) PNY [] [] Tryz.f233) with nils:=true,stk:=true },own:=false,ones:=[true],t:=t233 }
theorem ok233:EntOk Tryz.prog e233:=EntOk.ofPlain Tryz.func233 (by kernel_rfl) (by kernel_rfl)

noncomputable def t234:T:=(wrapBinds [(.call [] 283 (.sym 2) [(.sym 0),(.sym 1)] [true]),
 (.ev (.bin .geq .int (.sym 3) (ki 0)))]
 (.ret (.tcons (.sym 4) (.tcons (.sym 2) .tnil))))
noncomputable def e234:Entry:={ f:=234,kn:=.plain,cf:={ (autoCfg true ([]++WRY) PNY [] [] Tryz.f234) with nils:=true,stk:=true },own:=false,ones:=[true,true],t:=t234 }
theorem ok234:EntOk Tryz.prog e234:=EntOk.ofPlain Tryz.func234 (by kernel_rfl) (by kernel_rfl)

noncomputable def t248:T:=(wrapBinds [(.ev (.ld false 1 (.sym 2) (.sym 1))),
 (.call [] 190 (.sym 2) [(.sym 0),(ki 0),(.sym 3)] [true]),
 (.ev (.un .not (.sym 4)))]
 (.ret (.tcons (.sym 5) (.tcons (.sym 2) .tnil))))
noncomputable def e248:Entry:={ f:=248,kn:=.plain,cf:={ (autoCfg true ([]++WRY) PNY [] [] Tryz.f248) with nils:=true,stk:=true },own:=false,ones:=[true,true],t:=t248 }
theorem ok248:EntOk Tryz.prog e248:=EntOk.ofPlain Tryz.func248 (by kernel_rfl) (by kernel_rfl)

noncomputable def t269:T:=(wrapBinds [(.ev (.aggN 4 (.sym 1))),
 (.ev (.bin .eql .int (.cell 0 (.sym 3)) (ki 3))),
 (.ev (.guard (.sym 4) false (.cell 0 (.sym 3)))),
 (.ev (.guard (.sym 4) false (.bin .eql .int (.sym 5) (ki 4)))),
 (.ev (.ite (.sym 4) (kb true) (.sym 6))),
 (.ev (.guard (.sym 7) false (.cell 0 (.sym 3)))),
 (.ev (.guard (.sym 7) false (.bin .eql .int (.sym 8) (ki 5)))),
 (.ev (.ite (.sym 7) (kb true) (.sym 9))),
 (.ev (.guard (.sym 10) false (.cell 0 (.sym 3)))),
 (.ev (.guard (.sym 10) false (.bin .eql .int (.sym 11) (ki 8)))),
 (.ev (.ite (.sym 10) (kb true) (.sym 12))),
 (.ev (.bin .eql .int (.cell 0 (.sym 3)) (ki 8))),
 (.ev (.guard (.sym 14) false (.cell 0 (.sym 3)))),
 (.ev (.guard (.sym 14) false (.bin .eql .int (.sym 15) (ki 9)))),
 (.ev (.ite (.sym 14) (kb true) (.sym 16))),
 (.ev (.guard (.sym 17) false (.cell 0 (.sym 3)))),
 (.ev (.guard (.sym 17) false (.bin .eql .int (.sym 18) (ki 10)))),
 (.ev (.ite (.sym 17) (kb true) (.sym 19))),
 (.ev (.bin .lss .int (.cell 0 (.sym 3)) (ki 1))),
 (.ev (.guard (.sym 21) false (.cell 0 (.sym 3)))),
 (.ev (.guard (.sym 21) false (.bin .gtr .int (.sym 22) (ki 10)))),
 (.ev (.ite (.sym 21) (kb true) (.sym 23))),
 (.ev (.guard (.sym 24) false (.cell 1 (.sym 3)))),
 (.call [((.sym 24),false)] 42 (.sym 2) [(.sym 25),(ki 0),(ki 100000)] [true]),
 (.ev (.guard (.sym 24) false (.un .not (.sym 26)))),
 (.ev (.ite (.sym 24) (kb true) (.sym 27))),
 (.ev (.guard (.sym 28) false (.un .not (.sym 13)))),
 (.ev (.guard (.sym 28) false (.guard (.sym 29) true (.cell 2 (.sym 3))))),
 (.ev (.guard (.sym 28) false (.guard (.sym 29) true (.bin .neq .int (.sym 30) (ki 0))))),
 (.ev (.guard (.sym 28) false (.ite (.sym 29) (.sym 31) (kb false)))),
 (.ev (.ite (.sym 28) (kb true) (.sym 32))),
 (.ev (.guard (.sym 33) false (.un .not (.sym 20)))),
 (.ev (.guard (.sym 33) false (.guard (.sym 34) true (.cell 3 (.sym 3))))),
 (.ev (.guard (.sym 33) false (.guard (.sym 34) true (.bin .neq .int (.sym 35) (ki 0))))),
 (.ev (.guard (.sym 33) false (.ite (.sym 34) (.sym 36) (kb false)))),
 (.ev (.ite (.sym 33) (kb true) (.sym 37)))]
 (.ite (.sym 38) (.ret (.tcons (kb false) (.tcons (.sym 2) .tnil))) (wrapBinds [(.ev (.nn (.sym 0))),
 (.ev (.padd 0 (.sym 39))),
 (.ev (.padd 0 (.sym 40))),
 (.ev (.ld false 1 (.sym 2) (.sym 41))),
 (.ev (.bin .sub .int (.sym 42) (ki 1))),
 (.call [] 42 (.sym 2) [(.cell 2 (.sym 3)),(ki 0),(.sym 43)] [true]),
 (.ev (.guard (.sym 44) true (.cell 3 (.sym 3)))),
 (.ev (.guard (.sym 44) true (.nn (.sym 0)))),
 (.ev (.guard (.sym 44) true (.padd 0 (.sym 46)))),
 (.ev (.guard (.sym 44) true (.padd 5 (.sym 47)))),
 (.ev (.guard (.sym 44) true (.ld false 1 (.sym 2) (.sym 48)))),
 (.ev (.guard (.sym 44) true (.bin .sub .int (.sym 49) (ki 1)))),
 (.call [((.sym 44),true)] 42 (.sym 2) [(.sym 45),(ki 0),(.sym 50)] [true]),
 (.ev (.ite (.sym 44) (.sym 51) (kb false)))]
 (.ret (.tcons (.sym 52) (.tcons (.sym 2) .tnil))))))
noncomputable def e269:Entry:={ f:=269,kn:=.plain,cf:={ (autoCfg true ([]++WRY) PNY [] [] Tryz.f269) with nils:=true,stk:=true },own:=false,ones:=[true,false],t:=t269 }
theorem ok269:EntOk Tryz.prog e269:=EntOk.ofPlain Tryz.func269 (by kernel_rfl) (by kernel_rfl)

noncomputable def t286:T:=(wrapBinds [(.ev (.bin .eql .int (.sym 0) (.const (.v (.int .u64 0)))))]
 (.ite (.sym 2) (.ret (.tcons (ki 64) (.tcons (.sym 1) .tnil))) (wrapBinds [(.ev (.un .neg (.sym 0))),
 (.ev (.bin .and .int (.sym 0) (.sym 3))),
 (.ev (.bin .mul .int (.sym 4) (.const (.v (.int .u64 285870213051353865))))),
 (.ev (.bin .shr .int (.sym 5) (.const (.v (.int .u64 58))))),
 (.ev (.m4 (.gix 7 64 1) (.sym 1) (.sym 6) .nil .nil)),
 (.ev (.ld false 1 (.sym 1) (.sym 7))),
 (.ev (.conv .i64 (.sym 8)))]
 (.ret (.tcons (.sym 9) (.tcons (.sym 1) .tnil))))))
noncomputable def e286:Entry:={ f:=286,kn:=.plain,cf:={ (autoCfg true ([]++WRY) PNY [] [] Tryz.f286) with nils:=true,stk:=true },own:=false,ones:=[true],t:=t286 }
theorem ok286:EntOk Tryz.prog e286:=EntOk.ofPlain Tryz.func286 (by kernel_rfl) (by kernel_rfl)

noncomputable def t20:T:=(wrapBinds [(.ev (.aggN 30 (.sym 0))),
 (.wcall [] 37 (.sym 2) [(agc 30 (.sym 3))] [true,true]),
 (.ev (.bin .neq .int (.tget 1 (.tget 0 (.sym 4))) (ki 0)))]
 (.ite (.sym 5) (.ret (.tcons (.tcons (.const (.v (.pointer none))) (.tcons (ki 0) (.tcons (.tget 1 (.tget 0 (.sym 4))) .tnil))) (.tcons (.tget 1 (.sym 4)) .tnil))) (wrapBinds [(.ev (.lenL (.sym 1)))]
 (.join 0 3 (.loop 1 [(ki 0),(.tget 1 (.sym 4))] (wrapBinds [(.ev (.bin .lss .int (.sym 7) (.sym 6)))]
 (.ite (.sym 9) (.join 2 9 (wrapBinds [(.ev (.eaddr 1 (.sym 1) (.sym 7))),
 (.ev (.ld false 1 (.sym 8) (.sym 10))),
 (.wcall [] 15 (.sym 8) [(.tget 0 (.tget 0 (.sym 4))),(.sym 11)] [true]),
 (.ev (.bin .neq .int (.tget 0 (.sym 12)) (ki 0)))]
 (.ite (.sym 13) (.ret (.tcons (.tcons (.const (.v (.pointer none))) (.tcons (.sym 7) (.tcons (.tget 0 (.sym 12)) .tnil))) (.tcons (.tget 1 (.sym 12)) .tnil))) (.jump 2 [(.sym 11),(.tget 0 (.sym 12)),(.sym 10),(.sym 11),(.sym 11),(.tget 0 (.sym 12)),(.tget 0 (.sym 12)),(.sym 13),(.tget 1 (.sym 12))]))) (wrapBinds [(.ev (.bin .add .int (.sym 7) (ki 1)))]
 (.jump 1 [(.sym 19),(.sym 18)]))) (.jump 0 [(.sym 7),(.sym 9),(.sym 8)])))) (.ret (.tcons (.tcons (.tget 0 (.tget 0 (.sym 4))) (.tcons (ki (-1)) (.tcons (ki 0) .tnil))) (.tcons (.sym 9) .tnil)))))))
noncomputable def e20:Entry:={ f:=20,kn:=.plain,cf:={ (autoCfg false ([]++WRY) PNY [] [] Tryz.f20) with nils:=true,stk:=true },own:=false,ones:=[false,true],t:=t20 }
theorem ok20:EntOk Tryz.prog e20:=EntOk.ofPlain Tryz.func20 (by kernel_rfl) (by kernel_rfl)

noncomputable def t38:T:=(wrapBinds [(.ev (.mkptr (.cons (.scal (.sym 0)) .nil))),
 (.ev (.newb 202 2 (.sym 2) (.const (.agg [(.v (.pointer none)),.snil])))),
 (.wcall [] 92 (.sym 4) [(.sym 1),(.const (.v (.string ⟨#[10]⟩)))] [true])]
 (.join 0 1 (.rfor (.tget 0 (.sym 5)) (.tget 1 (.sym 5)) [0,1,2,4,5,8,9] [(.sym 0),(.sym 1),(.sym 3),(.const (.v (.string ⟨#[]⟩))),(.fstid (.sym 2)),(.sym 1),(.tget 0 (.sym 5))] 1 1 (.join 2 2 (wrapBinds [(.ev (.bin .eql .str (.sym 7) (.const (.v (.string ⟨#[]⟩)))))]
 (.ite (.sym 8) (.jump 2 [(.sym 8),(.sym 6)]) (wrapBinds [(.ev (.ld false 1 (.sym 6) (.sym 3))),
 (.wcall [] 15 (.sym 6) [(.m4 (.unifc 33) (.sym 9) .nil .nil .nil),(.sym 7)] [true]),
 (.ev (.bin .eql .int (.tget 0 (.sym 10)) (ki 0)))]
 (.join 3 1 (.ite (.sym 11) (wrapBinds [(.wcall [] 93 (.tget 1 (.sym 10)) [(.fstid (.sym 2)),(.const (.v (.string ⟨#[111,107,10]⟩)))] [true,true])]
 (.jump 3 [(.tget 1 (.sym 12))])) (wrapBinds [(.call [] 94 (.tget 1 (.sym 10)) [(.tget 0 (.sym 10))] [true]),
 (.ev (.bin .add .str (.const (.v (.string ⟨#[101,114,114,111,114,32]⟩))) (.sym 12))),
 (.ev (.bin .add .str (.sym 13) (.const (.v (.string ⟨#[10]⟩))))),
 (.wcall [] 93 (.tget 1 (.sym 10)) [(.fstid (.sym 2)),(.sym 14)] [true,true])]
 (.jump 3 [(.tget 1 (.sym 15))]))) (.jump 2 [(.sym 8),(.sym 12)]))))) (.jump 1 [(.sym 9)])) (.jump 0 [(.sym 6)])) (wrapBinds [(.wcall [] 95 (.sym 6) [(.fstid (.sym 2))] [true])]
 (.ret (.tcons (.tget 0 (.sym 7)) (.tcons (.tget 1 (.sym 7)) .tnil))))))
noncomputable def e38:Entry:={ f:=38,kn:=.plain,cf:={ (autoCfg false ([92,95]++WRY) PNY [] [] Tryz.f38) with nils:=true,stk:=true,invs:=[(15,33)] },own:=false,ones:=[true,true],t:=t38 }
theorem ok38:EntOk Tryz.prog e38:=EntOk.ofPlain Tryz.func38 (by kernel_rfl) (by kernel_rfl)

noncomputable def t52:T:=(wrapBinds [(.ev (.mkptr (.cons (.scal (.sym 1)) .nil))),
 (.wcall [] 112 (.sym 2) [(.sym 0)] [true]),
 (.ev (.cons (.scal (.sym 0)) (.cons (.scal (.tget 0 (.sym 4))) (.cons (.const (.agg [.snil])) .nil)))),
 (.ev (.newb 224 3 (.tget 1 (.sym 4)) (.aggN 3 (.sym 5)))),
 (.ev (.m4 .newm (.sym 6) .nil .nil .nil)),
 (.ev (.newb 225 1 (.sym 7) (.const (.agg [(.v (.map none))])))),
 (.ev (.sto 1 (.sym 8) (.fstid (.sym 7)) (.m4 .fstm (.sym 6) .nil .nil .nil))),
 (.ev (.nn (.fstid (.tget 1 (.sym 4))))),
 (.ev (.padd 1 (.sym 10))),
 (.ev (.ld false 1 (.sym 9) (.sym 11))),
 (.ev (.lenL (.sym 12)))]
 (.join 0 3 (.loop 1 [(ki 0),(.sym 9)] (wrapBinds [(.ev (.bin .lss .int (.sym 14) (.sym 13)))]
 (.ite (.sym 16) (.join 2 13 (wrapBinds [(.ev (.eaddr 7 (.sym 12) (.sym 14))),
 (.ev (.ld true 7 (.sym 15) (.sym 17))),
 (.ev (.aggN 7 (.sym 18))),
 (.ev (.ld false 1 (.sym 15) (.sym 3))),
 (.ev (.bin .leq .int (.cell 6 (.sym 19)) (.sym 20)))]
 (.join 3 1 (.ite (.sym 21) (wrapBinds [(.ev (.ld false 1 (.sym 15) (.fstid (.sym 7)))),
 (.ev (.cons (.scal (.cell 0 (.sym 19))) (.cons (.scal (.cell 1 (.sym 19))) .nil))),
 (.ev (.m4 (.get (.agg [0,0]) false) (.sym 15) (.sym 22) (.sym 23) (ki 0))),
 (.ev (.bin .add .int (.sym 24) (ki 1))),
 (.ev (.m4 (.entm (.agg [0,0])) (.sym 15) (.sym 22) (.sym 23) (ki 0))),
 (.ev (.m4 .ents (.sym 26) (.sym 22) (.tget 1 (.m4 (.entv (.agg [0,0])) (.sym 15) (.sym 22) (.sym 23) (ki 0))) (.sym 25))),
 (.ev (.m4 .same (.m4 (.get (.agg [0,0]) false) (.sym 15) (.sym 22) (.sym 23) (ki 0)) (.m4 (.get (.agg [0,0]) false) (.sym 26) (.sym 22) (.sym 23) (ki 0)) .nil .nil))]
 (.jump 3 [(.sym 27)])) (.jump 3 [(.sym 15)])) (.jump 2 [(.sym 17),(.sym 18),(.cell 6 (.sym 19)),(.sym 20),(.sym 21),(.cell 0 (.sym 19)),(.cell 1 (.sym 19)),(.cell 2 (.sym 19)),(.cell 3 (.sym 19)),(.cell 4 (.sym 19)),(.cell 5 (.sym 19)),(.cell 6 (.sym 19)),(.sym 22)]))) (wrapBinds [(.ev (.bin .add .int (.sym 14) (ki 1)))]
 (.jump 1 [(.sym 30),(.sym 29)]))) (.jump 0 [(.sym 14),(.sym 16),(.sym 15)])))) (wrapBinds [(.ev (.m4 .newm (.sym 16) .nil .nil .nil)),
 (.ev (.newb 231 1 (.sym 17) (.const (.agg [(.v (.map none))])))),
 (.ev (.sto 1 (.sym 18) (.fstid (.sym 17)) (.m4 .fstm (.sym 16) .nil .nil .nil))),
 (.ev (.nn (.fstid (.tget 1 (.sym 4))))),
 (.ev (.padd 1 (.sym 20))),
 (.ev (.ld false 1 (.sym 19) (.sym 21))),
 (.call [] 113 (.sym 19) [(.sym 22)] [true])]
 (.join 0 1 (.rfor (.sym 23) (.sym 19) [0,1,3,4,5,6,9,16,17,18,19,20,21,22,23,24,25,26,27,28,46,47,48,49,50,51] [(.sym 0),(.sym 1),(.sym 3),(.const (.v (.pointer none))),(.fstid (.tget 1 (.sym 4))),(.fstid (.sym 7)),(.fstid (.sym 17)),(.sym 0),(.sym 0),(.tget 0 (.sym 4)),(.sym 5),(.fstid (.tget 1 (.sym 4))),(.m4 .fstm (.sym 6) .nil .nil .nil),(.fstid (.tget 1 (.sym 4))),(.sym 10),(.sym 11),(.sym 12),(.sym 13),(.sym 14),(.sym 15),(.m4 .fstm (.sym 16) .nil .nil .nil),(.fstid (.tget 1 (.sym 4))),(.sym 20),(.sym 21),(.sym 22),(.sym 23)] 2 1 (wrapBinds [(.ev (.newb 228 7 (.sym 24) (.const (.agg [(.v (.int .i64 0)),(.v (.int .i64 0)),(.v (.int .i64 0)),(.v (.int .i64 0)),(.v (.int .i64 0)),(.v (.int .i64 0)),(.v (.int .i64 0))])))),
 (.ev (.sto 7 (.sym 27) (.fstid (.sym 24)) (.sym 26)))]
 (.join 2 15 (wrapBinds [(.ev (.padd 0 (.fstid (.sym 24)))),
 (.ev (.ld false 1 (.sym 28) (.sym 29))),
 (.ev (.padd 1 (.fstid (.sym 24)))),
 (.ev (.ld false 1 (.sym 28) (.sym 31))),
 (.ev (.cons (.scal (.sym 30)) (.cons (.scal (.sym 32)) .nil))),
 (.ev (.newb 230 2 (.sym 28) (.const (.agg [(.v (.int .i64 0)),(.v (.int .i64 0))])))),
 (.ev (.sto 2 (.sym 34) (.fstid (.sym 28)) (.sym 33))),
 (.ev (.padd 2 (.fstid (.sym 24)))),
 (.ev (.ld false 1 (.sym 35) (.sym 36))),
 (.ev (.bin .eql .int (.sym 37) (ki 4))),
 (.ev (.guard (.sym 38) true (.padd 6 (.fstid (.sym 24))))),
 (.ev (.guard (.sym 38) true (.ld false 1 (.sym 35) (.sym 39)))),
 (.ev (.guard (.sym 38) true (.ld false 1 (.sym 35) (.sym 3)))),
 (.ev (.guard (.sym 38) true (.bin .leq .int (.sym 40) (.sym 41)))),
 (.ev (.ite (.sym 38) (.sym 42) (kb false))),
 (.ev (.guard (.sym 43) true (.ld false 1 (.sym 35) (.fstid (.sym 7))))),
 (.ev (.guard (.sym 43) true (.ld true 2 (.sym 35) (.fstid (.sym 28))))),
 (.ev (.guard (.sym 43) true (.m4 (.get (.agg [0,0]) false) (.sym 35) (.sym 44) (.sym 45) (ki 0)))),
 (.ev (.guard (.sym 43) true (.bin .eql .int (.sym 46) (ki 1)))),
 (.ev (.ite (.sym 43) (.sym 47) (kb false))),
 (.ev (.guard (.sym 48) true (.ld false 1 (.sym 35) (.fstid (.sym 17))))),
 (.ev (.guard (.sym 48) true (.ld true 2 (.sym 35) (.fstid (.sym 28))))),
 (.ev (.guard (.sym 48) true (.m4 (.get (.agg [0,0]) false) (.sym 35) (.sym 49) (.sym 50) (kb false)))),
 (.ev (.guard (.sym 48) true (.un .not (.sym 51)))),
 (.ev (.ite (.sym 48) (.sym 52) (kb false)))]
 (.join 3 1 (.ite (.sym 53) (wrapBinds [(.ev (.ld false 1 (.sym 35) (.fstid (.sym 17)))),
 (.ev (.padd 0 (.fstid (.sym 24)))),
 (.ev (.ld false 1 (.sym 35) (.sym 55))),
 (.ev (.padd 3 (.fstid (.sym 24)))),
 (.ev (.ld false 1 (.sym 35) (.sym 57))),
 (.ev (.cons (.scal (.sym 56)) (.cons (.scal (.sym 58)) .nil))),
 (.ev (.m4 (.put (.agg [0,0])) (.sym 35) (.sym 54) (.sym 59) (kb true)))]
 (.jump 3 [(.sym 60)])) (.jump 3 [(.sym 35)])) (.jump 2 [(.sym 29),(.sym 30),(.sym 31),(.sym 32),(.sym 33),(.sym 36),(.sym 37),(.sym 38),(.sym 38),(.sym 43),(.sym 43),(.sym 48),(.sym 48),(.sym 53),(.sym 54)]))) (.jump 1 [(.sym 43)]))) (.jump 0 [(.sym 24)])) (wrapBinds [(.ev (.nn (.fstid (.tget 1 (.sym 4))))),
 (.ev (.padd 1 (.sym 25))),
 (.ev (.ld false 1 (.sym 24) (.sym 26))),
 (.ev (.lenL (.sym 27)))]
 (.join 0 3 (.loop 1 [(ki 0),(.sym 24)] (wrapBinds [(.ev (.bin .lss .int (.sym 29) (.sym 28)))]
 (.ite (.sym 31) (.join 2 22 (wrapBinds [(.ev (.eaddr 7 (.sym 27) (.sym 29))),
 (.ev (.ld true 7 (.sym 30) (.sym 32))),
 (.ev (.aggN 7 (.sym 33))),
 (.ev (.cons (.scal (.cell 0 (.sym 34))) (.cons (.scal (.cell 1 (.sym 34))) .nil))),
 (.ev (.aggN 2 (.sym 35))),
 (.ev (.ld false 1 (.sym 30) (.sym 3))),
 (.ev (.bin .leq .int (.cell 6 (.sym 34)) (.sym 37))),
 (.ev (.guard (.sym 38) true (.ld false 1 (.sym 30) (.fstid (.sym 7))))),
 (.ev (.guard (.sym 38) true (.m4 (.get (.agg [0,0]) false) (.sym 30) (.sym 39) (agc 2 (.sym 36)) (ki 0)))),
 (.ev (.guard (.sym 38) true (.bin .eql .int (.sym 40) (ki 1)))),
 (.ev (.ite (.sym 38) (.sym 41) (kb false))),
 (.ev (.guard (.sym 42) true (.ld false 1 (.sym 30) (.fstid (.sym 17))))),
 (.ev (.guard (.sym 42) true (.m4 (.get (.agg [0,0]) false) (.sym 30) (.sym 43) (agc 2 (.sym 36)) (kb false)))),
 (.ev (.guard (.sym 42) true (.un .not (.sym 44)))),
 (.ev (.ite (.sym 42) (.sym 45) (kb false)))]
 (.join 3 1 (.ite (.sym 46) (wrapBinds [(.ev (.nn (.fstid (.tget 1 (.sym 4))))),
 (.ev (.padd 2 (.sym 47))),
 (.ev (.ld false 1 (.sym 30) (.sym 48))),
 (.ev (.lcons (.scal (.sym 29)) (.const (.lst [])))),
 (.ev (.apph 3 1 8 (.sym 30) (.sym 49) (.sym 50))),
 (.ev (.nn (.fstid (.tget 1 (.sym 4))))),
 (.ev (.padd 2 (.sym 52))),
 (.ev (.sto 1 (.sym 51) (.sym 53) (.apps (.sym 30) (.sym 49) (.sym 50))))]
 (.jump 3 [(.sym 54)])) (.jump 3 [(.sym 30)])) (.jump 2 [(.sym 32),(.sym 33),(.cell 0 (.sym 34)),(.cell 1 (.sym 34)),(.sym 35),(.cell 6 (.sym 34)),(.sym 37),(.sym 38),(.sym 38),(.sym 42),(.sym 42),(.sym 46),(.cell 0 (.sym 34)),(.cell 1 (.sym 34)),(.cell 2 (.sym 34)),(.cell 3 (.sym 34)),(.cell 4 (.sym 34)),(.cell 5 (.sym 34)),(.cell 6 (.sym 34)),(.cell 0 (.sym 36)),(.cell 1 (.sym 36)),(.sym 47)]))) (wrapBinds [(.ev (.bin .add .int (.sym 29) (ki 1)))]
 (.jump 1 [(.sym 54),(.sym 53)]))) (.jump 0 [(.sym 29),(.sym 31),(.sym 30)])))) (.ret (.tcons (.fstid (.tget 1 (.sym 4))) (.tcons (.sym 31) .tnil)))))))))
noncomputable def e52:Entry:={ f:=52,kn:=.plain,cf:={ (autoCfg false ([]++WRY) PNY [20] [] Tryz.f52) with nils:=true,stk:=true },own:=false,ones:=[true,true],t:=t52 }
theorem ok52:EntOk Tryz.prog e52:=EntOk.ofPlain Tryz.func52 (by kernel_rfl) (by kernel_rfl)

noncomputable def t91:T:=(wrapBinds [(.ev (.aggN 6 (.sym 0))),
 (.call [] 165 (.sym 1) [(agc 6 (.sym 2))] [true]),
 (.ev (.bin .neq .int (.sym 3) (ki 0)))]
 (.ite (.sym 4) (.ret (.tcons (.tcons (.const (.v (.pointer none))) (.tcons (.sym 3) .tnil)) (.tcons (.sym 1) .tnil))) (wrapBinds [(.call [] 170 (.sym 1) [(.cell 1 (.sym 2))] [true]),
 (.ev (.cons (.aggN 6 (.cons (.cell 0 (.sym 2)) (.cons (.sym 5) (.cons (.cell 2 (.sym 2)) (.cons (.cell 3 (.sym 2)) (.cons (.cell 4 (.sym 2)) (.cons (.cell 5 (.sym 2)) .nil))))))) (.cons (.scal (kb true)) (.cons (.const (.agg [.snil])) (.cons (.const (.agg [.snil])) .nil))))),
 (.ev (.newb 169 9 (.sym 1) (.aggN 9 (.sym 6))))]
 (.ret (.tcons (.tcons (.fstid (.sym 1)) (.tcons (ki 0) .tnil)) (.tcons (.sym 7) .tnil))))))
noncomputable def e91:Entry:={ f:=91,kn:=.plain,cf:={ (autoCfg false ([]++WRY) PNY [16] [] Tryz.f91) with nils:=true,stk:=true },own:=false,ones:=[false],t:=t91 }
theorem ok91:EntOk Tryz.prog e91:=EntOk.ofPlain Tryz.func91 (by kernel_rfl) (by kernel_rfl)

noncomputable def t112:T:=(wrapBinds [(.call [] 110 (.sym 1) [(.sym 0)] [true]),
 (.ev (.un .not (.sym 2)))]
 (.ite (.sym 3) (.ret (.tcons (.const (.lst [])) (.tcons (.sym 1) .tnil))) (wrapBinds [(.ev (.nn (.sym 0))),
 (.ev (.padd 4 (.sym 4))),
 (.ev (.ld false 1 (.sym 1) (.sym 5))),
 (.ev (.m4 .rng (.sym 1) (.sym 6) .nil .nil))]
 (.join 0 4 (.loop 1 [(.const .snil),(.sym 7)] (.pick (.m4 .next (.sym 9) (.fstid (.sym 1)) .nil .nil) (wrapBinds [(.ev (.tget 0 (.tget 0 (.sym 10))))]
 (.ite (.sym 11) (.join 2 17 (wrapBinds [(.ev (.m4 .entry (.tget 1 (.sym 10)) (.fstid (.sym 1)) .nil .nil)),
 (.ev (.aggN 7 (.tget 0 (.sym 12)))),
 (.ev (.scal (.tget 1 (.sym 12)))),
 (.ev (.lcons (.aggN 7 (.cons (.cell 0 (.sym 13)) (.cons (.cell 1 (.sym 13)) (.cons (.cell 2 (.sym 13)) (.cons (.cell 3 (.sym 13)) (.cons (.cell 4 (.sym 13)) (.cons (.cell 5 (.sym 13)) (.cons (.tget 1 (.sym 12)) .nil)))))))) (.const (.lst [])))),
 (.ev (.apph 228 7 56 (.tget 1 (.sym 10)) (.sym 8) (.sym 15)))]
 (.jump 2 [(.apps (.tget 1 (.sym 10)) (.sym 8) (.sym 15)),(.tget 1 (.sym 12)),(.tcons (.tget 0 (.sym 12)) (.tcons (.tget 1 (.sym 12)) .tnil)),(.tget 0 (.sym 12)),(.tget 1 (.sym 12)),(.tget 1 (.sym 12)),(.cons (.cell 0 (.sym 13)) (.cons (.cell 1 (.sym 13)) (.cons (.cell 2 (.sym 13)) (.cons (.cell 3 (.sym 13)) (.cons (.cell 4 (.sym 13)) (.cons (.cell 5 (.sym 13)) (.cons (.tget 1 (.sym 12)) .nil))))))),(.sym 15),(.apps (.tget 1 (.sym 10)) (.sym 8) (.sym 15)),(.cell 0 (.sym 13)),(.cell 1 (.sym 13)),(.cell 2 (.sym 13)),(.cell 3 (.sym 13)),(.cell 4 (.sym 13)),(.cell 5 (.sym 13)),(.tget 1 (.sym 12)),(.sym 16)])) (.jump 1 [(.sym 12),(.sym 28)])) (.jump 0 [(.sym 8),(.tget 0 (.sym 10)),(.sym 11),(.tget 1 (.sym 10))]))))) (wrapBinds [(.wcall [] 186 (.sym 11) [(.sym 8),(.const (.fn 187 [] []))] [])]
 (.ret (.tcons (.sym 8) (.tcons (.tget 1 (.sym 12)) .tnil))))))))
noncomputable def e112:Entry:={ f:=112,kn:=.plain,cf:={ (autoCfg false ([]++WRY) PNY [3] [] Tryz.f112) with nils:=true,stk:=true,maps:=[126] },own:=false,ones:=[true],t:=t112,nd:=true }
theorem ok112:EntOk Tryz.prog e112:=ofNd (EntOk.ofPlain Tryz.func112 (by kernel_rfl) (by kernel_rfl))

noncomputable def t146:T:=(.loop 0 [(.sym 2)] (.join 1 16 (wrapBinds [(.ev (.ld false 1 (.sym 3) (.sym 1))),
 (.call [] 147 (.sym 3) [(.sym 4),(.const (.v (.string ⟨#[32]⟩)))] [true,true,true]),
 (.wcallv [] (.sym 0) (.sym 3) [(.tget 0 (.sym 5))] [true]),
 (.ev (.un .not (.tget 0 (.sym 6)))),
 (.ev (.guard (.sym 7) false (.tget 2 (.sym 5)))),
 (.ev (.guard (.sym 7) false (.un .not (.sym 8)))),
 (.ev (.ite (.sym 7) (kb true) (.sym 9)))]
 (.ite (.sym 10) (.ret (.tcons .tnil (.tcons (.tget 1 (.sym 6)) .tnil))) (wrapBinds [(.ev (.sto 1 (.tget 1 (.sym 6)) (.sym 1) (.tget 1 (.sym 5))))]
 (.jump 1 [(.tget 0 (.sym 5)),(.tget 1 (.sym 5)),(.tget 2 (.sym 5)),(.tcons (.tget 0 (.sym 5)) (.tcons (.tget 1 (.sym 5)) (.tcons (.tget 2 (.sym 5)) .tnil))),(.sym 4),(.tcons (.tget 0 (.sym 5)) (.tcons (.tget 1 (.sym 5)) (.tcons (.tget 2 (.sym 5)) .tnil))),(.tget 0 (.sym 5)),(.tget 1 (.sym 5)),(.tget 2 (.sym 5)),(.tget 0 (.sym 5)),(.tget 0 (.sym 6)),(.sym 7),(.sym 7),(.sym 10),(.tget 1 (.sym 5)),(.sym 11)])))) (.jump 0 [(.sym 19)])))
noncomputable def e146:Entry:={ f:=146,kn:=.plain,cf:={ (autoCfg false ([1000014]++WRY) PNY [] [] Tryz.f146) with nils:=true,stk:=true },own:=false,ones:=[true,true],t:=t146 }
theorem ok146:EntOk Tryz.prog e146:=EntOk.ofPlain Tryz.func146 (by kernel_rfl) (by kernel_rfl)

noncomputable def t186:T:=(wrapBinds [(.ev (.lenL (.sym 0))),
 (.ev (.conv .u64 (.sym 3))),
 (.call [] 135 (.sym 2) [(.sym 4)] [true]),
 (.wcall [] 246 (.sym 2) [(.sym 0),(ki 0),(.sym 3),(.sym 5),(.sym 1)] [])]
 (.ret (.tcons .tnil (.tcons (.tget 1 (.sym 6)) .tnil))))
noncomputable def e186:Entry:={ f:=186,kn:=.plain,cf:={ (autoCfg false ([]++WRY) PNY [] [] Tryz.f186) with nils:=true,stk:=true },own:=false,ones:=[true,true],t:=t186 }
theorem ok186:EntOk Tryz.prog e186:=EntOk.ofPlain Tryz.func186 (by kernel_rfl) (by kernel_rfl)

noncomputable def t215:T:=(wrapBinds [(.call [] 26 (.sym 3) [(.sym 0),(.sym 1),(.sym 2)] [true,true]),
 (.ev (.bin .neq .int (.tget 1 (.sym 4)) (ki 0)))]
 (.ite (.sym 5) (.ret (.tcons (.tget 1 (.sym 4)) (.tcons (.sym 3) .tnil))) (wrapBinds [(.ev (.lenL (.tget 0 (.sym 4)))),
 (.ev (.bin .gtr .int (.sym 6) (ki 0)))]
 (.ite (.sym 7) (.ret (.tcons (ki 7) (.tcons (.sym 3) .tnil))) (wrapBinds [(.ev (.nn (.sym 0))),
 (.ev (.padd 14 (.sym 8))),
 (.ev (.ld false 1 (.sym 3) (.sym 9))),
 (.ev (.nn (.sym 0))),
 (.ev (.padd 14 (.sym 11))),
 (.ev (.ld false 1 (.sym 3) (.sym 12))),
 (.ev (.eaddr 5 (.sym 10) (.sym 1))),
 (.ev (.padd 0 (.sym 14))),
 (.ev (.sto 1 (.sym 3) (.sym 15) (kb true))),
 (.ev (.eaddr 5 (.sym 13) (.sym 1))),
 (.ev (.padd 1 (.sym 17))),
 (.ev (.sto 1 (.sym 16) (.sym 18) (.sym 2)))]
 (.ret (.tcons (ki 0) (.tcons (.sym 19) .tnil))))))))
noncomputable def e215:Entry:={ f:=215,kn:=.plain,cf:={ (autoCfg false ([]++WRY) PNY [] [] Tryz.f215) with nils:=true,stk:=true },own:=false,ones:=[true,true,true],t:=t215 }
theorem ok215:EntOk Tryz.prog e215:=EntOk.ofPlain Tryz.func215 (by kernel_rfl) (by kernel_rfl)

noncomputable def t270:T:=(wrapBinds [(.ev (.ld false 1 (.sym 2) (.sym 0))),
 (.ev (.nn (.sym 3))),
 (.ev (.padd 13 (.sym 4))),
 (.ev (.ld false 1 (.sym 2) (.sym 5))),
 (.ev (.padd 2 (.sym 1))),
 (.ev (.ld false 1 (.sym 2) (.sym 7))),
 (.ev (.eaddr 3 (.sym 6) (.sym 8))),
 (.ev (.padd 1 (.sym 1))),
 (.ev (.ld false 1 (.sym 2) (.sym 10))),
 (.wcall [] 271 (.sym 2) [(.sym 9),(kb true),(.sym 11),(kb true)] [])]
 (.ret (.tcons .tnil (.tcons (.tget 1 (.sym 12)) .tnil))))
noncomputable def e270:Entry:={ f:=270,kn:=.plain,cf:={ (autoCfg false ([]++WRY) PNY [] [] Tryz.f270) with nils:=true,stk:=true },own:=false,ones:=[true,true],t:=t270 }
theorem ok270:EntOk Tryz.prog e270:=EntOk.ofPlain Tryz.func270 (by kernel_rfl) (by kernel_rfl)

noncomputable def t85w:T:=(.nilq (.sym 0) false (.ite (.sym 2) (.ret (.tcons (.const (.lst [])) (.tcons (.sym 1) .tnil))) (wrapBinds [(.ev (.newv 3 1 (.sym 1) (.const (.lst [])))),
 (.ev (.apph 3 1 8 (.sym 3) (.fstsl (.sym 1) (.const (.lst []))) (.sym 0)))]
 (.ret (.tcons (.apps (.sym 3) (.fstsl (.sym 1) (.const (.lst []))) (.sym 0)) (.tcons (.sym 4) .tnil))))))
noncomputable def e85w:Entry:={ f:=85,kn:=.plain,cf:={ (autoCfg false ([]++WRY) PNY [5,7] [] Tryz.f85) with nils:=true,stk:=true },own:=false,ones:=[true],t:=t85w }
theorem ok85w:EntOk Tryz.prog e85w:=EntOk.ofPlain Tryz.func85 (by kernel_rfl) (by kernel_rfl)

end Go.Am.Ra

/-
 Functions that the chapter's examples reach,as texts.
-/
namespace Go.Am.Ra
open Go.Proofs
set_option maxRecDepth 100000

noncomputable def t24:T:=(wrapBinds [(.ev (.bin .neq .ptr (.sym 0) (.const (.v (.pointer none))))),
 (.ev (.guard (.sym 2) true (.nn (.sym 0)))),
 (.ev (.guard (.sym 2) true (.padd 30 (.sym 3)))),
 (.ev (.guard (.sym 2) true (.ld false 1 (.sym 1) (.sym 4)))),
 (.ev (.guard (.sym 2) true (.bin .neq .ptr (.sym 5) (.const (.v (.pointer none)))))),
 (.ev (.ite (.sym 2) (.sym 6) (kb false)))]
 (.ret (.tcons (.sym 7) (.tcons (.sym 1) .tnil))))
noncomputable def e24:Entry:={ f:=24,kn:=.plain,cf:={ (autoCfg true ([]++WRY) PNY [] [] Tryz.f24) with nils:=true,stk:=true },own:=false,ones:=[true],t:=t24 }
theorem ok24:EntOk Tryz.prog e24:=EntOk.ofPlain Tryz.func24 (by kernel_rfl) (by kernel_rfl)

noncomputable def t92:T:=(wrapBinds [(.wcall [] 172 (.sym 2) [(.sym 0),(.sym 1),(ki 0)] [true])]
 (.ret (.tcons (.tget 0 (.sym 3)) (.tcons (.tget 1 (.sym 3)) .tnil))))
noncomputable def e92:Entry:={ f:=92,kn:=.plain,cf:={ (autoCfg false ([172]++WRY) PNY [] [] Tryz.f92) with nils:=true,stk:=true },own:=false,ones:=[true,true],t:=t92 }
theorem ok92:EntOk Tryz.prog e92:=EntOk.ofPlain Tryz.func92 (by kernel_rfl) (by kernel_rfl)

noncomputable def t101:T:=(wrapBinds [(.call [] 183 (.sym 2) [(.sym 0),(.sym 1)] [true]),
 (.ev (.bin .geq .int (.sym 3) (ki 0)))]
 (.ret (.tcons (.sym 4) (.tcons (.sym 2) .tnil))))
noncomputable def e101:Entry:={ f:=101,kn:=.plain,cf:={ (autoCfg true ([]++WRY) PNY [] [] Tryz.f101) with nils:=true,stk:=true },own:=false,ones:=[true,true],t:=t101 }
theorem ok101:EntOk Tryz.prog e101:=EntOk.ofPlain Tryz.func101 (by kernel_rfl) (by kernel_rfl)

noncomputable def t106:T:=(wrapBinds [(.ev (.aggN 5 (.sym 0))),
 (.ev (.un .not (.cell 3 (.sym 4)))),
 (.ev (.guard (.sym 5) true (.cell 4 (.sym 4)))),
 (.ev (.guard (.sym 5) true (.un .not (.sym 6)))),
 (.ev (.ite (.sym 5) (.sym 7) (kb false))),
 (.ev (.guard (.sym 8) true (.cell 2 (.sym 4)))),
 (.ev (.guard (.sym 8) true (.ld false 1 (.sym 3) (.sym 1)))),
 (.ev (.guard (.sym 8) true (.nn (.sym 10)))),
 (.ev (.guard (.sym 8) true (.padd 0 (.sym 11)))),
 (.ev (.guard (.sym 8) true (.padd 0 (.sym 12)))),
 (.ev (.guard (.sym 8) true (.ld false 1 (.sym 3) (.sym 13)))),
 (.ev (.guard (.sym 8) true (.bin .sub .int (.sym 14) (ki 1)))),
 (.ev (.guard (.sym 8) true (.bin .lss .int (.sym 9) (.sym 15)))),
 (.ev (.ite (.sym 8) (.sym 16) (kb false))),
 (.ev (.guard (.sym 17) true (.ld false 1 (.sym 3) (.sym 2)))),
 (.ev (.guard (.sym 17) true (.cell 1 (.sym 4)))),
 (.ev (.guard (.sym 17) true (.bin .sub .int (.sym 18) (.sym 19)))),
 (.ev (.guard (.sym 17) true (.ld false 1 (.sym 3) (.sym 1)))),
 (.ev (.guard (.sym 17) true (.nn (.sym 21)))),
 (.ev (.guard (.sym 17) true (.padd 0 (.sym 22)))),
 (.ev (.guard (.sym 17) true (.padd 4 (.sym 23)))),
 (.ev (.guard (.sym 17) true (.ld false 1 (.sym 3) (.sym 24)))),
 (.ev (.guard (.sym 17) true (.bin .gtr .int (.sym 20) (.sym 25)))),
 (.ev (.ite (.sym 17) (.sym 26) (kb false)))]
 (.ret (.tcons (.sym 27) (.tcons (.sym 3) .tnil))))
noncomputable def e106:Entry:={ f:=106,kn:=.plain,cf:={ (autoCfg true ([]++WRY) PNY [] [] Tryz.f106) with nils:=true,stk:=true },own:=false,ones:=[false,true,true],t:=t106 }
theorem ok106:EntOk Tryz.prog e106:=EntOk.ofPlain Tryz.func106 (by kernel_rfl) (by kernel_rfl)

noncomputable def t109:T:=(wrapBinds [(.ev (.aggN 5 (.sym 0)))]
 (.ret (.tcons (.cell 0 (.sym 2)) (.tcons (.sym 1) .tnil))))
noncomputable def e109:Entry:={ f:=109,kn:=.plain,cf:={ (autoCfg true ([]++WRY) PNY [] [] Tryz.f109) with nils:=true,stk:=true },own:=false,ones:=[false],t:=t109 }
theorem ok109:EntOk Tryz.prog e109:=EntOk.ofPlain Tryz.func109 (by kernel_rfl) (by kernel_rfl)

noncomputable def t117:T:=(wrapBinds [(.ev (.mkptr (.cons (.scal (.sym 0)) .nil))),
 (.ev (.mkptr (.cons (.scal (.sym 1)) .nil))),
 (.ev (.mkfn 189 .tnil (.tcons (.sym 3) (.tcons (.sym 4) .tnil))))]
 (.ret (.tcons (.sym 5) (.tcons (.sym 2) .tnil))))
noncomputable def e117:Entry:={ f:=117,kn:=.plain,cf:={ (autoCfg true ([]++WRY) PNY [] [] Tryz.f117) with nils:=true,stk:=true },own:=false,ones:=[true,true],t:=t117 }
theorem ok117:EntOk Tryz.prog e117:=EntOk.ofPlain Tryz.func117 (by kernel_rfl) (by kernel_rfl)

noncomputable def t135:T:=(.ite (kb false) (wrapBinds [(.ev (.conv .u32 (.sym 0))),
 (.call [] 206 (.sym 1) [(.sym 2)] [true])]
 (.ret (.tcons (.sym 3) (.tcons (.sym 1) .tnil)))) (wrapBinds [(.call [] 207 (.sym 1) [(.sym 0)] [true])]
 (.ret (.tcons (.sym 2) (.tcons (.sym 1) .tnil)))))
noncomputable def e135:Entry:={ f:=135,kn:=.plain,cf:={ (autoCfg true ([]++WRY) PNY [] [] Tryz.f135) with nils:=true,stk:=true },own:=false,ones:=[true],t:=t135 }
theorem ok135:EntOk Tryz.prog e135:=EntOk.ofPlain Tryz.func135 (by kernel_rfl) (by kernel_rfl)

noncomputable def t147:T:=(wrapBinds [(.call [] 210 (.sym 2) [(.sym 0),(.sym 1)] [true,true,true])]
 (.ret (.tcons (.tcons (.tget 0 (.sym 3)) (.tcons (.tget 1 (.sym 3)) (.tcons (.tget 2 (.sym 3)) .tnil))) (.tcons (.sym 2) .tnil))))
noncomputable def e147:Entry:={ f:=147,kn:=.plain,cf:={ (autoCfg true ([]++WRY) PNY [] [] Tryz.f147) with nils:=true,stk:=true },own:=false,ones:=[true,true],t:=t147 }
theorem ok147:EntOk Tryz.prog e147:=EntOk.ofPlain Tryz.func147 (by kernel_rfl) (by kernel_rfl)

noncomputable def t163:T:=(wrapBinds [(.ev (.bin .eql .str (.sym 0) (.const (.v (.string ⟨#[]⟩)))))]
 (.ite (.sym 4) (.ret (.tcons (.tcons (.const (.v (.int .u64 0))) (.tcons (.ifc 326 (ki 2)) .tnil)) (.tcons (.sym 3) .tnil))) (wrapBinds [(.ev (.bin .eql .int (.sym 1) (ki 0)))]
 (.join 0 6 (wrapBinds [(.ev (.bin .leq .int (ki 2) (.sym 1))),
 (.ev (.guard (.sym 6) true (.bin .leq .int (.sym 1) (ki 36)))),
 (.ev (.ite (.sym 6) (.sym 7) (kb false)))]
 (.join 1 2 (.ite (.sym 8) (.jump 1 [(.sym 0),(.sym 1)]) (wrapBinds [(.ev (.bin .eql .int (.sym 1) (ki 0)))]
 (.ite (.sym 9) (wrapBinds [(.ev (.m4 .sidx (.sym 0) (ki 0) .nil .nil)),
 (.ev (.bin .eql .int (.sym 10) (.const (.v (.int .u8 48)))))]
 (.join 2 2 (.ite (.sym 11) (.join 3 7 (wrapBinds [(.ev (.lenS (.sym 0))),
 (.ev (.bin .geq .int (.sym 12) (ki 3))),
 (.ev (.guard (.sym 13) true (.m4 .sidx (.sym 0) (ki 1) .nil .nil))),
 (.call [((.sym 13),true)] 224 (.sym 3) [(.sym 14)] [true]),
 (.ev (.guard (.sym 13) true (.bin .eql .int (.sym 15) (.const (.v (.int .u8 98)))))),
 (.ev (.ite (.sym 13) (.sym 16) (kb false)))]
 (.join 4 2 (.ite (.sym 17) (wrapBinds [(.ev (.m4 .ssub (.sym 0) (ki 2) (.lenS (.sym 0)) .nil))]
 (.jump 4 [(.sym 18),(ki 2)])) (wrapBinds [(.ev (.lenS (.sym 0))),
 (.ev (.bin .geq .int (.sym 18) (ki 3))),
 (.ev (.guard (.sym 19) true (.m4 .sidx (.sym 0) (ki 1) .nil .nil))),
 (.call [((.sym 19),true)] 224 (.sym 3) [(.sym 20)] [true]),
 (.ev (.guard (.sym 19) true (.bin .eql .int (.sym 21) (.const (.v (.int .u8 111)))))),
 (.ev (.ite (.sym 19) (.sym 22) (kb false)))]
 (.join 5 2 (.ite (.sym 23) (wrapBinds [(.ev (.m4 .ssub (.sym 0) (ki 2) (.lenS (.sym 0)) .nil))]
 (.jump 5 [(.sym 24),(ki 8)])) (wrapBinds [(.ev (.lenS (.sym 0))),
 (.ev (.bin .geq .int (.sym 24) (ki 3))),
 (.ev (.guard (.sym 25) true (.m4 .sidx (.sym 0) (ki 1) .nil .nil))),
 (.call [((.sym 25),true)] 224 (.sym 3) [(.sym 26)] [true]),
 (.ev (.guard (.sym 25) true (.bin .eql .int (.sym 27) (.const (.v (.int .u8 120)))))),
 (.ev (.ite (.sym 25) (.sym 28) (kb false)))]
 (.join 6 2 (.ite (.sym 29) (wrapBinds [(.ev (.m4 .ssub (.sym 0) (ki 2) (.lenS (.sym 0)) .nil))]
 (.jump 6 [(.sym 30),(ki 16)])) (wrapBinds [(.ev (.m4 .ssub (.sym 0) (ki 1) (.lenS (.sym 0)) .nil))]
 (.jump 6 [(.sym 30),(ki 8)]))) (.jump 5 [(.sym 30),(.sym 31)])))) (.jump 4 [(.sym 24),(.sym 25)])))) (.jump 3 [(.sym 18),(.sym 19),(.sym 17),(.sym 12),(.sym 13),(.sym 13),(.sym 17)]))) (.jump 2 [(.sym 12),(.sym 13)])) (.jump 2 [(.sym 0),(ki 10)])) (.jump 1 [(.sym 12),(.sym 13)]))) (.ret (.tcons (.tcons (.const (.v (.int .u64 0))) (.tcons (.ifc 326 (ki 3)) .tnil)) (.tcons (.sym 3) .tnil)))))) (.jump 0 [(.sym 9),(.sym 10),(.sym 8),(.sym 6),(.sym 6),(.sym 8)]))) (wrapBinds [(.ev (.bin .eql .int (.sym 2) (ki 0)))]
 (.join 0 1 (.ite (.sym 12) (.jump 0 [(ki 64)]) (wrapBinds [(.ev (.bin .lss .int (.sym 2) (ki 0))),
 (.ev (.guard (.sym 13) false (.bin .gtr .int (.sym 2) (ki 64)))),
 (.ev (.ite (.sym 13) (kb true) (.sym 14)))]
 (.ite (.sym 15) (.ret (.tcons (.tcons (.const (.v (.int .u64 0))) (.tcons (.ifc 326 (ki 4)) .tnil)) (.tcons (.sym 3) .tnil))) (.jump 0 [(.sym 2)])))) (.join 0 3 (wrapBinds [(.ev (.bin .eql .int (.sym 7) (ki 10)))]
 (.join 1 1 (.ite (.sym 14) (.jump 1 [(.const (.v (.int .u64 1844674407370955162)))]) (wrapBinds [(.ev (.bin .eql .int (.sym 7) (ki 16)))]
 (.join 2 1 (.ite (.sym 15) (.jump 2 [(.const (.v (.int .u64 1152921504606846976)))]) (wrapBinds [(.ev (.conv .u64 (.sym 7))),
 (.ev (.bin .quo .int (.const (.v (.int .u64 18446744073709551615))) (.sym 16))),
 (.ev (.bin .add .int (.sym 17) (.const (.v (.int .u64 1)))))]
 (.jump 2 [(.sym 18)]))) (.jump 1 [(.sym 16)])))) (.jump 0 [(.sym 15),(.sym 14),(.sym 14)]))) (wrapBinds [(.ev (.conv .u64 (.sym 13))),
 (.ev (.bin .shl .int (.const (.v (.int .u64 1))) (.sym 17))),
 (.ev (.bin .sub .int (.sym 18) (.const (.v (.int .u64 1))))),
 (.ev (.m4 .sbytes (.sym 6) .nil .nil .nil)),
 (.ev (.lenL (.sym 20)))]
 (.join 0 4 (.loop 1 [(kb false),(.const (.v (.int .u64 0))),(ki 0)] (wrapBinds [(.ev (.bin .lss .int (.sym 24) (.sym 21)))]
 (.ite (.sym 25) (.join 2 11 (wrapBinds [(.ev (.eaddr 1 (.sym 20) (.sym 24))),
 (.ev (.ld false 1 (.sym 3) (.sym 26)))]
 (.join 3 9 (wrapBinds [(.ev (.bin .eql .int (.sym 27) (.const (.v (.int .u8 95))))),
 (.ev (.ite (.sym 28) (.sym 5) (kb false)))]
 (.ite (.sym 29) (.jump 2 [(kb true),(.sym 23),(.sym 27),(.const (.v (.int .u8 0))),(.sym 26),(.sym 27),(.sym 29),(.sym 27),(.sym 28),(.sym 28),(.sym 29)]) (wrapBinds [(.ev (.bin .leq .int (.const (.v (.int .u8 48))) (.sym 27))),
 (.ev (.guard (.sym 30) true (.bin .leq .int (.sym 27) (.const (.v (.int .u8 57)))))),
 (.ev (.ite (.sym 30) (.sym 31) (kb false)))]
 (.join 4 1 (.ite (.sym 32) (wrapBinds [(.ev (.bin .sub .int (.sym 27) (.const (.v (.int .u8 48)))))]
 (.jump 4 [(.sym 33)])) (wrapBinds [(.call [] 224 (.sym 3) [(.sym 27)] [true]),
 (.ev (.bin .leq .int (.const (.v (.int .u8 97))) (.sym 33))),
 (.call [((.sym 34),true)] 224 (.sym 3) [(.sym 27)] [true]),
 (.ev (.guard (.sym 34) true (.bin .leq .int (.sym 35) (.const (.v (.int .u8 122)))))),
 (.ev (.ite (.sym 34) (.sym 36) (kb false)))]
 (.ite (.sym 37) (wrapBinds [(.call [] 224 (.sym 3) [(.sym 27)] [true]),
 (.ev (.bin .sub .int (.sym 38) (.const (.v (.int .u8 97))))),
 (.ev (.bin .add .int (.sym 39) (.const (.v (.int .u8 10)))))]
 (.jump 4 [(.sym 40)])) (.ret (.tcons (.tcons (.const (.v (.int .u64 0))) (.tcons (.ifc 326 (ki 2)) .tnil)) (.tcons (.sym 3) .tnil)))))) (.jump 3 [(.sym 33),(.sym 29),(.sym 28),(.sym 28),(.sym 29),(.sym 32),(.sym 30),(.sym 30),(.sym 32)]))))) (wrapBinds [(.ev (.conv .u8 (.sym 7))),
 (.ev (.bin .geq .int (.sym 28) (.sym 37)))]
 (.ite (.sym 38) (.ret (.tcons (.tcons (.const (.v (.int .u64 0))) (.tcons (.ifc 326 (ki 2)) .tnil)) (.tcons (.sym 3) .tnil))) (wrapBinds [(.ev (.bin .geq .int (.sym 23) (.sym 14)))]
 (.ite (.sym 39) (.ret (.tcons (.tcons (.sym 19) (.tcons (.ifc 326 (ki 1)) .tnil)) (.tcons (.sym 3) .tnil))) (wrapBinds [(.ev (.conv .u64 (.sym 7))),
 (.ev (.bin .mul .int (.sym 23) (.sym 40))),
 (.ev (.conv .u64 (.sym 28))),
 (.ev (.bin .add .int (.sym 41) (.sym 42))),
 (.ev (.bin .lss .int (.sym 43) (.sym 41))),
 (.ev (.guard (.sym 44) false (.bin .gtr .int (.sym 43) (.sym 19)))),
 (.ev (.ite (.sym 44) (kb true) (.sym 45)))]
 (.ite (.sym 46) (.ret (.tcons (.tcons (.sym 19) (.tcons (.ifc 326 (ki 1)) .tnil)) (.tcons (.sym 3) .tnil))) (.jump 2 [(.sym 22),(.sym 43),(.sym 27),(.sym 28),(.sym 26),(.sym 27),(.sym 29),(.sym 27),(.sym 30),(.sym 31),(.sym 32)]))))))))) (wrapBinds [(.ev (.bin .add .int (.sym 24) (ki 1)))]
 (.jump 1 [(.sym 26),(.sym 27),(.sym 37)]))) (.jump 0 [(.sym 22),(.sym 23),(.sym 24),(.sym 25)])))) (wrapBinds [(.call [((.sym 22),true)] 225 (.sym 3) [(.sym 0)] [true]),
 (.ev (.guard (.sym 22) true (.un .not (.sym 26)))),
 (.ev (.ite (.sym 22) (.sym 27) (kb false)))]
 (.ite (.sym 28) (.ret (.tcons (.tcons (.const (.v (.int .u64 0))) (.tcons (.ifc 326 (ki 2)) .tnil)) (.tcons (.sym 3) .tnil))) (.ret (.tcons (.tcons (.sym 23) (.tcons (.const (.v .nilIface)) .tnil)) (.tcons (.sym 3) .tnil))))))))))))))
noncomputable def e163:Entry:={ f:=163,kn:=.plain,cf:={ (autoCfg true ([]++WRY) PNY [] [] Tryz.f163) with nils:=true,stk:=true },own:=false,ones:=[true,true,true],t:=t163 }
theorem ok163:EntOk Tryz.prog e163:=EntOk.ofPlain Tryz.func163 (by kernel_rfl) (by kernel_rfl)

noncomputable def t173:T:=(wrapBinds [(.ev (.nn (.sym 0))),
 (.ev (.padd 0 (.sym 2))),
 (.ev (.ld false 1 (.sym 1) (.sym 3))),
 (.ev (.bin .eql .ptr (.sym 4) (.const (.v (.pointer none)))))]
 (.join 0 1 (.ite (.sym 5) (wrapBinds [(.ev (.m4 (.uptr 202 2) (.sym 1) (.sym 0) .nil .nil)),
 (.ev (.m4 (.uptr 202 2) (.sym 1) (.sym 6) .nil .nil)),
 (.ev (.nn (.sym 0))),
 (.ev (.padd 0 (.sym 8))),
 (.ev (.sto 1 (.sym 1) (.sym 9) (.sym 7)))]
 (.jump 0 [(.sym 10)])) (wrapBinds [(.ev (.nn (.sym 0))),
 (.ev (.padd 0 (.sym 6))),
 (.ev (.ld false 1 (.sym 1) (.sym 7))),
 (.ev (.m4 (.peq true) (.sym 8) (.sym 0) .nil .nil))]
 (.ite (.sym 9) (.ret (.deref .nil)) (.jump 0 [(.sym 1)])))) (.ret (.tcons .tnil (.tcons (.sym 6) .tnil)))))
noncomputable def e173:Entry:={ f:=173,kn:=.plain,cf:={ (autoCfg false ([]++WRY) PNY [9,11] [] Tryz.f173) with nils:=true,stk:=true },own:=false,ones:=[true],t:=t173 }
theorem ok173:EntOk Tryz.prog e173:=EntOk.ofPlain Tryz.func173 (by kernel_rfl) (by kernel_rfl)

noncomputable def t184:T:=(wrapBinds [(.ev (.aggN 5 (.sym 0))),
 (.ev (.guard (.cell 0 (.sym 3)) true (.ld false 1 (.sym 2) (.sym 1)))),
 (.callv [((.cell 0 (.sym 3)),true)] (.sym 4) (.sym 2) [(agc 5 (.sym 3))] [true]),
 (.ev (.ite (.cell 0 (.sym 3)) (.sym 5) (kb false)))]
 (.ret (.tcons (.sym 6) (.tcons (.sym 2) .tnil))))
noncomputable def e184:Entry:={ f:=184,kn:=.plain,cf:={ (autoCfg true ([]++WRY) PNY [] [] Tryz.f184) with nils:=true,stk:=true },own:=false,ones:=[false,true],t:=t184 }
theorem ok184:EntOk Tryz.prog e184:=EntOk.ofPlain Tryz.func184 (by kernel_rfl) (by kernel_rfl)

noncomputable def t185:T:=(wrapBinds [(.ev (.lenL (.sym 0)))]
 (.join 0 2 (.loop 1 [(ki 0)] (wrapBinds [(.ev (.bin .lss .int (.sym 4) (.sym 3)))]
 (.ite (.sym 5) (.join 2 3 (wrapBinds [(.ev (.eaddr 5 (.sym 0) (.sym 4))),
 (.ev (.ld true 5 (.sym 2) (.sym 6))),
 (.callv [] (.sym 1) (.sym 2) [(.sym 7)] [true])]
 (.ite (.sym 8) (.ret (.tcons (.sym 4) (.tcons (.sym 2) .tnil))) (.jump 2 [(.sym 6),(.sym 7),(.sym 8)]))) (wrapBinds [(.ev (.bin .add .int (.sym 4) (ki 1)))]
 (.jump 1 [(.sym 9)]))) (.jump 0 [(.sym 4),(.sym 5)])))) (.ret (.tcons (ki (-1)) (.tcons (.sym 2) .tnil)))))
noncomputable def e185:Entry:={ f:=185,kn:=.plain,cf:={ (autoCfg true ([]++WRY) PNY [] [] Tryz.f185) with nils:=true,stk:=true },own:=false,ones:=[true,true],t:=t185 }
theorem ok185:EntOk Tryz.prog e185:=EntOk.ofPlain Tryz.func185 (by kernel_rfl) (by kernel_rfl)

noncomputable def t187:T:=(wrapBinds [(.ev (.aggN 7 (.sym 0))),
 (.ev (.aggN 7 (.sym 1))),
 (.call [] 67 (.sym 2) [(.cell 0 (.sym 3)),(.cell 0 (.sym 4))] [true]),
 (.call [] 67 (.sym 2) [(.cell 1 (.sym 3)),(.cell 1 (.sym 4))] [true]),
 (.call [] 247 (.sym 2) [(.cell 2 (.sym 3)),(.cell 2 (.sym 4))] [true]),
 (.call [] 67 (.sym 2) [(.cell 3 (.sym 3)),(.cell 3 (.sym 4))] [true]),
 (.call [] 67 (.sym 2) [(.cell 4 (.sym 3)),(.cell 4 (.sym 4))] [true]),
 (.call [] 67 (.sym 2) [(.cell 5 (.sym 3)),(.cell 5 (.sym 4))] [true]),
 (.ev (.lcons (.scal (.sym 5)) (.lcons (.scal (.sym 6)) (.lcons (.scal (.sym 7)) (.lcons (.scal (.sym 8)) (.lcons (.scal (.sym 9)) (.lcons (.scal (.sym 10)) (.const (.lst []))))))))),
 (.call [] 230 (.sym 2) [(.sym 11)] [true])]
 (.ret (.tcons (.sym 12) (.tcons (.sym 2) .tnil))))
noncomputable def e187:Entry:={ f:=187,kn:=.plain,cf:={ (autoCfg true ([]++WRY) PNY [] [] Tryz.f187) with nils:=true,stk:=true },own:=false,ones:=[false,false],t:=t187 }
theorem ok187:EntOk Tryz.prog e187:=EntOk.ofPlain Tryz.func187 (by kernel_rfl) (by kernel_rfl)

noncomputable def t214:T:=(wrapBinds [(.ev (.nn (.sym 0))),
 (.ev (.padd 0 (.sym 3))),
 (.ev (.padd 6 (.sym 4))),
 (.ev (.padd 0 (.sym 5))),
 (.ev (.ld false 1 (.sym 2) (.sym 6))),
 (.call [] 25 (.sym 2) [(.sym 1),(ki 1),(.sym 7)] [true]),
 (.ev (.un .not (.sym 8)))]
 (.join 0 0 (.ite (.sym 9) (.pcall 212 (.sym 2) [(ki 2)] [] [] [] (.jump 0 [])) (.jump 0 [])) (wrapBinds [(.ev (.bin .sub .int (.sym 1) (ki 1)))]
 (.ret (.tcons (.sym 10) (.tcons (.sym 2) .tnil))))))
noncomputable def e214:Entry:={ f:=214,kn:=.plain,cf:={ (autoCfg true ([]++WRY) PNY [] [] Tryz.f214) with nils:=true,stk:=true },own:=false,ones:=[true,true],t:=t214 }
theorem ok214:EntOk Tryz.prog e214:=EntOk.ofPlain Tryz.func214 (by kernel_rfl) (by kernel_rfl)

noncomputable def t235:T:=(wrapBinds [(.ev (.aggN 2 (.sym 0))),
 (.ev (.bin .lss .int (.cell 0 (.sym 2)) (ki 1))),
 (.ev (.guard (.sym 3) false (.cell 0 (.sym 2)))),
 (.ev (.guard (.sym 3) false (.bin .gtr .int (.sym 4) (ki 3)))),
 (.ev (.ite (.sym 3) (kb true) (.sym 5))),
 (.ev (.guard (.sym 6) false (.cell 1 (.sym 2)))),
 (.call [((.sym 6),false)] 111 (.sym 1) [(.sym 7),(ki 0),(ki 10000000)] [true]),
 (.ev (.guard (.sym 6) false (.un .not (.sym 8)))),
 (.ev (.ite (.sym 6) (kb true) (.sym 9)))]
 (.ret (.tcons (.sym 10) (.tcons (.sym 1) .tnil))))
noncomputable def e235:Entry:={ f:=235,kn:=.plain,cf:={ (autoCfg true ([]++WRY) PNY [] [] Tryz.f235) with nils:=true,stk:=true },own:=false,ones:=[false],t:=t235 }
theorem ok235:EntOk Tryz.prog e235:=EntOk.ofPlain Tryz.func235 (by kernel_rfl) (by kernel_rfl)

noncomputable def t268:T:=(wrapBinds [(.ev (.m4 .srng (.sym 1) (.sym 0) .nil .nil))]
 (.join 0 4 (.loop 1 [(ki 0),(.sym 2)] (wrapBinds [(.ev (.m4 .snh (.sym 4) (.fstid (.sym 1)) .nil .nil)),
 (.ev (.tget 0 (.m4 .snv (.sym 4) (.fstid (.sym 1)) .nil .nil)))]
 (.ite (.sym 6) (.join 2 14 (wrapBinds [(.ev (.tget 2 (.m4 .snv (.sym 4) (.fstid (.sym 1)) .nil .nil))),
 (.ev (.bin .lss .int (.sym 7) (.const (.v (.int .i32 48))))),
 (.ev (.guard (.sym 8) false (.bin .gtr .int (.sym 7) (.const (.v (.int .i32 57)))))),
 (.ev (.ite (.sym 8) (kb true) (.sym 9))),
 (.ev (.guard (.sym 10) false (.bin .gtr .int (.sym 3) (ki 1000000000000000)))),
 (.ev (.ite (.sym 10) (kb true) (.sym 11)))]
 (.ite (.sym 12) (.ret (.tcons (.tcons (ki 0) (.tcons (kb false) .tnil)) (.tcons (.sym 5) .tnil))) (wrapBinds [(.ev (.bin .mul .int (ki 10) (.sym 3))),
 (.ev (.bin .sub .int (.sym 7) (.const (.v (.int .i32 48))))),
 (.ev (.conv .i64 (.sym 14))),
 (.ev (.bin .add .int (.sym 13) (.sym 15)))]
 (.jump 2 [(.sym 16),(.sym 7),(.sym 7),(.sym 7),(.sym 8),(.sym 8),(.sym 10),(.sym 10),(.sym 12),(.sym 13),(.sym 7),(.sym 14),(.sym 15),(.sym 16)])))) (.jump 1 [(.sym 7),(.sym 5)])) (.jump 0 [(.sym 3),(.m4 .snv (.sym 4) (.fstid (.sym 1)) .nil .nil),(.sym 6),(.sym 5)])))) (wrapBinds [(.ev (.bin .neq .str (.sym 0) (.const (.v (.string ⟨#[]⟩))))),
 (.ev (.guard (.sym 7) true (.bin .leq .int (.sym 3) (ki 1000000000000000)))),
 (.ev (.ite (.sym 7) (.sym 8) (kb false))),
 (.ev (.guard (.sym 9) true (.m4 .sidx (.sym 0) (ki 0) .nil .nil))),
 (.ev (.guard (.sym 9) true (.bin .neq .int (.sym 10) (.const (.v (.int .u8 48)))))),
 (.ev (.guard (.sym 9) true (.guard (.sym 11) false (.lenS (.sym 0))))),
 (.ev (.guard (.sym 9) true (.guard (.sym 11) false (.bin .eql .int (.sym 12) (ki 1))))),
 (.ev (.guard (.sym 9) true (.ite (.sym 11) (kb true) (.sym 13)))),
 (.ev (.ite (.sym 9) (.sym 14) (kb false)))]
 (.ret (.tcons (.tcons (.sym 3) (.tcons (.sym 15) .tnil)) (.tcons (.sym 6) .tnil))))))
noncomputable def e268:Entry:={ f:=268,kn:=.plain,cf:={ (autoCfg false ([]++WRY) PNY [] [] Tryz.f268) with nils:=true,stk:=true },own:=false,ones:=[true],t:=t268 }
theorem ok268:EntOk Tryz.prog e268:=EntOk.ofPlain Tryz.func268 (by kernel_rfl) (by kernel_rfl)

noncomputable def t274:T:=(wrapBinds [(.ev (.aggN 7 (.sym 1))),
 (.ev (.nn (.sym 0))),
 (.ev (.padd 3 (.sym 4))),
 (.ev (.ld false 1 (.sym 2) (.sym 5))),
 (.ev (.lenL (.sym 6))),
 (.ev (.bin .sub .int (.sym 7) (ki 1))),
 (.call [] 111 (.sym 2) [(.cell 0 (.sym 3)),(ki 0),(.sym 8)] [true]),
 (.ev (.un .not (.sym 9))),
 (.ev (.guard (.sym 10) false (.cell 1 (.sym 3)))),
 (.call [((.sym 10),false)] 111 (.sym 2) [(.sym 11),(ki 0),(ki 1000000000)] [true]),
 (.ev (.guard (.sym 10) false (.un .not (.sym 12)))),
 (.ev (.ite (.sym 10) (kb true) (.sym 13))),
 (.ev (.guard (.sym 14) false (.cell 6 (.sym 3)))),
 (.call [((.sym 14),false)] 111 (.sym 2) [(.sym 15),(ki 0),(ki 1000000000000)] [true]),
 (.ev (.guard (.sym 14) false (.un .not (.sym 16)))),
 (.ev (.ite (.sym 14) (kb true) (.sym 17)))]
 (.ite (.sym 18) (.ret (.tcons (kb false) (.tcons (.sym 2) .tnil))) (wrapBinds [(.ev (.bin .eql .int (.cell 2 (.sym 3)) (ki 4)))]
 (.ite (.sym 19) (wrapBinds [(.ev (.bin .sub .int (.cell 1 (.sym 3)) (ki 1))),
 (.call [] 111 (.sym 2) [(.cell 3 (.sym 3)),(ki 0),(.sym 20)] [true]),
 (.ev (.guard (.sym 21) true (.cell 4 (.sym 3)))),
 (.ev (.guard (.sym 21) true (.bin .eql .int (.sym 22) (ki 0)))),
 (.ev (.ite (.sym 21) (.sym 23) (kb false))),
 (.ev (.guard (.sym 24) true (.cell 5 (.sym 3)))),
 (.ev (.guard (.sym 24) true (.bin .eql .int (.sym 25) (ki 0)))),
 (.ev (.ite (.sym 24) (.sym 26) (kb false)))]
 (.ret (.tcons (.sym 27) (.tcons (.sym 2) .tnil)))) (wrapBinds [(.ev (.nn (.sym 0))),
 (.ev (.padd 0 (.sym 20))),
 (.ev (.padd 0 (.sym 21))),
 (.ev (.ld false 1 (.sym 2) (.sym 22))),
 (.call [] 111 (.sym 2) [(.cell 3 (.sym 3)),(ki 1),(.sym 23)] [true]),
 (.ev (.un .not (.sym 24))),
 (.ev (.guard (.sym 25) false (.cell 4 (.sym 3)))),
 (.ev (.guard (.sym 25) false (.nn (.sym 0)))),
 (.ev (.guard (.sym 25) false (.padd 0 (.sym 27)))),
 (.ev (.guard (.sym 25) false (.padd 1 (.sym 28)))),
 (.ev (.guard (.sym 25) false (.ld false 1 (.sym 2) (.sym 29)))),
 (.ev (.guard (.sym 25) false (.bin .sub .int (.sym 30) (ki 1)))),
 (.call [((.sym 25),false)] 111 (.sym 2) [(.sym 26),(ki 0),(.sym 31)] [true]),
 (.ev (.guard (.sym 25) false (.un .not (.sym 32)))),
 (.ev (.ite (.sym 25) (kb true) (.sym 33)))]
 (.ite (.sym 34) (.ret (.tcons (kb false) (.tcons (.sym 2) .tnil))) (.join 0 4 (wrapBinds [(.ev (.bin .eql .int (.cell 2 (.sym 3)) (ki 1)))]
 (.join 1 1 (.ite (.sym 35) (.jump 1 [(.sym 35)]) (wrapBinds [(.ev (.bin .eql .int (.cell 2 (.sym 3)) (ki 2)))]
 (.jump 1 [(.sym 36)]))) (.ite (.sym 36) (wrapBinds [(.call [] 111 (.sym 2) [(.cell 5 (.sym 3)),(ki 0),(ki 1000000000000)] [true])]
 (.ret (.tcons (.sym 37) (.tcons (.sym 2) .tnil)))) (wrapBinds [(.ev (.bin .eql .int (.cell 2 (.sym 3)) (ki 3)))]
 (.ite (.sym 37) (wrapBinds [(.ev (.bin .eql .int (.cell 5 (.sym 3)) (ki 0)))]
 (.ret (.tcons (.sym 38) (.tcons (.sym 2) .tnil)))) (.jump 0 [(.sym 36),(.sym 35),(.sym 37),(.sym 37)])))))) (.ret (.tcons (kb false) (.tcons (.sym 2) .tnil))))))))))
noncomputable def e274:Entry:={ f:=274,kn:=.plain,cf:={ (autoCfg true ([]++WRY) PNY [] [] Tryz.f274) with nils:=true,stk:=true },own:=false,ones:=[true,false],t:=t274 }
theorem ok274:EntOk Tryz.prog e274:=EntOk.ofPlain Tryz.func274 (by kernel_rfl) (by kernel_rfl)

noncomputable def t301:T:=(wrapBinds [(.ev (.m4 .sib (.sym 0) (.sym 1) .nil .nil))]
 (.ret (.tcons (.sym 3) (.tcons (.sym 2) .tnil))))
noncomputable def e301:Entry:={ f:=301,kn:=.plain,cf:={ (autoCfg true ([]++WRY) PNY [] [] Tryz.f301) with nils:=true,stk:=true },own:=false,ones:=[true,true],t:=t301 }
theorem ok301:EntOk Tryz.prog e301:=EntOk.ofPlain Tryz.func301 (by kernel_rfl) (by kernel_rfl)

noncomputable def t15:T:=(wrapBinds [(.call [] 24 (.sym 2) [(.sym 0)] [true]),
 (.ev (.un .not (.sym 3)))]
 (.ite (.sym 4) (.ret (.tcons (ki 1) (.tcons (.sym 2) .tnil))) (wrapBinds [(.ev (.nn (.sym 0))),
 (.ev (.padd 34 (.sym 5))),
 (.ev (.ld false 1 (.sym 2) (.sym 6))),
 (.ev (.lenL (.sym 7))),
 (.ev (.bin .geq .int (.sym 8) (ki 5000)))]
 (.ite (.sym 9) (wrapBinds [(.ev (.nn (.sym 0))),
 (.ev (.padd 0 (.sym 10))),
 (.ev (.ld true 30 (.sym 2) (.sym 11))),
 (.ev (.nn (.sym 0))),
 (.ev (.padd 34 (.sym 13))),
 (.ev (.ld false 1 (.sym 2) (.sym 14))),
 (.call [] 23 (.sym 2) [(.sym 15)] [true]),
 (.wcall [] 20 (.sym 2) [(.sym 12),(.sym 16)] [true,true,true]),
 (.wcall [] 33 (.tget 1 (.sym 17)) [(.tget 0 (.tget 0 (.sym 17))),(.sym 1)] [true]),
 (.ev (.bin .neq .int (.tget 0 (.sym 18)) (ki 0)))]
 (.ite (.sym 19) (.ret (.tcons (.tget 0 (.sym 18)) (.tcons (.tget 1 (.sym 18)) .tnil))) (.ret (.tcons (ki 4) (.tcons (.tget 1 (.sym 18)) .tnil))))) (wrapBinds [(.wcall [] 33 (.sym 2) [(.sym 0),(.sym 1)] [true]),
 (.ev (.bin .neq .int (.tget 0 (.sym 10)) (ki 0)))]
 (.ite (.sym 11) (.ret (.tcons (.tget 0 (.sym 10)) (.tcons (.tget 1 (.sym 10)) .tnil))) (wrapBinds [(.ev (.nn (.sym 0))),
 (.ev (.padd 34 (.sym 12))),
 (.ev (.ld false 1 (.tget 1 (.sym 10)) (.sym 13))),
 (.ev (.nn (.sym 0))),
 (.ev (.padd 34 (.sym 15))),
 (.ev (.ld false 1 (.tget 1 (.sym 10)) (.sym 16))),
 (.call [] 34 (.tget 1 (.sym 10)) [(.sym 17),(.sym 1)] [true]),
 (.ev (.cons (.scal (.sym 1)) (.cons (.scal (.sym 18)) .nil))),
 (.ev (.lcons (.aggN 2 (.sym 19)) (.const (.lst [])))),
 (.ev (.apph 27 2 32 (.tget 1 (.sym 10)) (.sym 14) (.sym 20))),
 (.ev (.nn (.sym 0))),
 (.ev (.padd 34 (.sym 22))),
 (.ev (.sto 1 (.sym 21) (.sym 23) (.apps (.tget 1 (.sym 10)) (.sym 14) (.sym 20))))]
 (.ret (.tcons (ki 0) (.tcons (.sym 24) .tnil))))))))))
noncomputable def e15:Entry:={ f:=15,kn:=.plain,cf:={ (autoCfg false ([]++WRY) PNY [] [] Tryz.f15) with nils:=true,stk:=true },own:=false,ones:=[true,true],t:=t15 }
theorem ok15:EntOk Tryz.prog e15:=EntOk.ofPlain Tryz.func15 (by kernel_rfl) (by kernel_rfl)

noncomputable def t217:T:=(wrapBinds [(.ev (.nn (.sym 0))),
 (.ev (.padd 33 (.sym 4))),
 (.ev (.ld false 1 (.sym 3) (.sym 5))),
 (.ev (.eaddr 3 (.sym 6) (.sym 1))),
 (.ev (.ld true 3 (.sym 3) (.sym 7))),
 (.wcall [] 36 (.sym 3) [(.sym 8)] [false]),
 (.ev (.newb 78 3 (.tget 1 (.sym 9)) (.const (.agg [(.v (.int .i64 0)),.snil,.snil])))),
 (.ev (.sto 3 (.sym 10) (.fstid (.tget 1 (.sym 9))) (.tget 0 (.sym 9)))),
 (.wcallv [] (.sym 2) (.sym 11) [(.fstid (.tget 1 (.sym 9)))] []),
 (.ev (.nn (.sym 0))),
 (.ev (.padd 0 (.sym 13))),
 (.ev (.padd 10 (.sym 14))),
 (.ev (.ld true 14 (.tget 1 (.sym 12)) (.sym 15))),
 (.ev (.ld true 3 (.tget 1 (.sym 12)) (.fstid (.tget 1 (.sym 9))))),
 (.call [] 122 (.tget 1 (.sym 12)) [(.sym 16),(.sym 17)] [true])]
 (.pcall 212 (.tget 1 (.sym 12)) [(.sym 18)] [] [] [] (wrapBinds [(.ev (.nn (.sym 0))),
 (.ev (.padd 33 (.sym 20))),
 (.ev (.ld false 1 (.tget 1 (.sym 12)) (.sym 21))),
 (.ev (.ld true 3 (.tget 1 (.sym 12)) (.fstid (.tget 1 (.sym 9))))),
 (.ev (.eaddr 3 (.sym 22) (.sym 1))),
 (.ev (.sto 3 (.tget 1 (.sym 12)) (.sym 24) (.sym 23)))]
 (.ret (.tcons .tnil (.tcons (.sym 25) .tnil))))))
noncomputable def e217:Entry:={ f:=217,kn:=.plain,cf:={ (autoCfg false ([36,1000016]++WRY) PNY [] [] Tryz.f217) with nils:=true,stk:=true },own:=false,ones:=[true,true,true],t:=t217 }
theorem ok217:EntOk Tryz.prog e217:=EntOk.ofPlain Tryz.func217 (by kernel_rfl) (by kernel_rfl)

noncomputable def t222:T:=(wrapBinds [(.call [] 51 (.sym 4) [(.sym 0),(.sym 1),(.sym 2),(.sym 3)] [true]),
 (.ev (.bin .neq .int (.sym 5) (ki 0)))]
 (.ite (.sym 6) (.ret (.tcons (.tcons (ki 0) (.tcons (.sym 5) .tnil)) (.tcons (.sym 4) .tnil))) (wrapBinds [(.wcall [] 52 (.sym 4) [(.sym 0),(.sym 3)] [true]),
 (.wcall [] 278 (.tget 1 (.sym 7)) [(.tget 0 (.sym 7)),(.sym 1),(.sym 2)] [true]),
 (.ev (.bin .lss .int (.tget 0 (.sym 8)) (ki 0)))]
 (.ite (.sym 9) (.ret (.tcons (.tcons (ki 0) (.tcons (ki 5) .tnil)) (.tcons (.tget 1 (.sym 8)) .tnil))) (.ret (.tcons (.tcons (.tget 0 (.sym 8)) (.tcons (ki 0) .tnil)) (.tcons (.tget 1 (.sym 8)) .tnil)))))))
noncomputable def e222:Entry:={ f:=222,kn:=.plain,cf:={ (autoCfg false ([]++WRY) PNY [] [] Tryz.f222) with nils:=true,stk:=true },own:=false,ones:=[true,true,true,true],t:=t222 }
theorem ok222:EntOk Tryz.prog e222:=EntOk.ofPlain Tryz.func222 (by kernel_rfl) (by kernel_rfl)

noncomputable def t246:T:=(.loop 0 [(.sym 1),(.sym 2),(.sym 3),(kb true),(kb true),(.sym 5)] (.join 1 26 (wrapBinds [(.ev (.bin .sub .int (.sym 7) (.sym 6))),
 (.ev (.bin .leq .int (.sym 12) (ki 12)))]
 (.ite (.sym 13) (wrapBinds [(.wcall [] 287 (.sym 11) [(.sym 0),(.sym 6),(.sym 7),(.sym 4)] [])]
 (.ret (.tcons .tnil (.tcons (.tget 1 (.sym 14)) .tnil)))) (wrapBinds [(.ev (.bin .eql .int (.sym 8) (ki 0)))]
 (.ite (.sym 14) (wrapBinds [(.call [] 288 (.sym 11) [(.sym 0),(.sym 6),(.sym 7),(.sym 4)] [])]
 (.ret (.tcons .tnil (.tcons (.sym 11) .tnil)))) (wrapBinds [(.ev (.un .not (.sym 9)))]
 (.join 2 1 (.ite (.sym 15) (wrapBinds [(.call [] 289 (.sym 11) [(.sym 0),(.sym 6),(.sym 7),(.sym 4)] []),
 (.ev (.bin .sub .int (.sym 8) (ki 1)))]
 (.jump 2 [(.sym 17)])) (.jump 2 [(.sym 8)])) (wrapBinds [(.call [] 290 (.sym 11) [(.sym 0),(.sym 6),(.sym 7),(.sym 4)] [true,true]),
 (.ev (.bin .eql .int (.tget 1 (.sym 17)) (ki 2)))]
 (.join 2 2 (.ite (.sym 18) (wrapBinds [(.call [] 291 (.sym 11) [(.sym 0),(.sym 6),(.sym 7),(.sym 4)] []),
 (.ev (.bin .sub .int (.sym 7) (ki 1))),
 (.ev (.bin .sub .int (.tget 0 (.sym 17)) (.sym 6))),
 (.ev (.bin .sub .int (.sym 20) (.sym 21)))]
 (.jump 2 [(.sym 22),(ki 1)])) (.jump 2 [(.tget 0 (.sym 17)),(.tget 1 (.sym 17))])) (wrapBinds [(.ev (.ite (.sym 9) (.sym 10) (kb false))),
 (.ev (.guard (.sym 21) true (.bin .eql .int (.sym 20) (ki 1)))),
 (.ev (.ite (.sym 21) (.sym 22) (kb false)))]
 (.join 2 0 (.ite (.sym 23) (wrapBinds [(.call [] 292 (.sym 11) [(.sym 0),(.sym 6),(.sym 7),(.sym 4)] [true])]
 (.ite (.sym 24) (.ret (.tcons .tnil (.tcons (.sym 11) .tnil))) (.jump 2 []))) (.jump 2 [])) (wrapBinds [(.ev (.bin .gtr .int (.sym 6) (ki 0))),
 (.ev (.guard (.sym 24) true (.bin .sub .int (.sym 6) (ki 1)))),
 (.ev (.guard (.sym 24) true (.eaddr 7 (.sym 0) (.sym 25)))),
 (.ev (.guard (.sym 24) true (.ld true 7 (.sym 11) (.sym 26)))),
 (.ev (.guard (.sym 24) true (.eaddr 7 (.sym 0) (.sym 19)))),
 (.ev (.guard (.sym 24) true (.ld true 7 (.sym 11) (.sym 28)))),
 (.callv [((.sym 24),true)] (.sym 4) (.sym 11) [(.sym 27),(.sym 29)] [true]),
 (.ev (.guard (.sym 24) true (.bin .lss .int (.sym 30) (ki 0)))),
 (.ev (.guard (.sym 24) true (.un .not (.sym 31)))),
 (.ev (.ite (.sym 24) (.sym 32) (kb false)))]
 (.ite (.sym 33) (wrapBinds [(.call [] 293 (.sym 11) [(.sym 0),(.sym 6),(.sym 7),(.sym 19),(.sym 4)] [true])]
 (.jump 1 [(.sym 34),(.sym 7),(.sym 16),(.sym 9),(.sym 10),(.sym 12),(.sym 19),(.sym 20),(.sym 12),(.sym 12),(.sym 13),(.sym 14),(.sym 15),(.tcons (.tget 0 (.sym 17)) (.tcons (.tget 1 (.sym 17)) .tnil)),(.tcons (.tget 0 (.sym 17)) (.tcons (.tget 1 (.sym 17)) .tnil)),(.tget 0 (.sym 17)),(.tget 1 (.sym 17)),(.tget 1 (.sym 17)),(.sym 18),(.sym 21),(.sym 21),(.sym 23),(.sym 24),(.sym 24),(.sym 33),(.sym 11)])) (wrapBinds [(.call [] 294 (.sym 11) [(.sym 0),(.sym 6),(.sym 7),(.sym 19),(.sym 4)] [true,true]),
 (.ev (.bin .sub .int (.tget 0 (.sym 34)) (.sym 6))),
 (.ev (.bin .sub .int (.sym 7) (.tget 0 (.sym 34)))),
 (.ev (.bin .quo .int (.sym 12) (ki 8))),
 (.ev (.bin .lss .int (.sym 35) (.sym 36)))]
 (.join 2 4 (.ite (.sym 38) (wrapBinds [(.ev (.bin .geq .int (.sym 35) (.sym 37))),
 (.wcall [] 246 (.sym 11) [(.sym 0),(.sym 6),(.tget 0 (.sym 34)),(.sym 16),(.sym 4)] []),
 (.ev (.bin .add .int (.tget 0 (.sym 34)) (ki 1)))]
 (.jump 2 [(.sym 41),(.sym 7),(.sym 39),(.tget 1 (.sym 40))])) (wrapBinds [(.ev (.bin .geq .int (.sym 36) (.sym 37))),
 (.ev (.bin .add .int (.tget 0 (.sym 34)) (ki 1))),
 (.wcall [] 246 (.sym 11) [(.sym 0),(.sym 40),(.sym 7),(.sym 16),(.sym 4)] [])]
 (.jump 2 [(.sym 6),(.tget 0 (.sym 34)),(.sym 39),(.tget 1 (.sym 41))]))) (.jump 1 [(.sym 39),(.sym 40),(.sym 16),(.sym 41),(.tget 1 (.sym 34)),(.sym 12),(.sym 19),(.sym 20),(.sym 12),(.sym 12),(.sym 13),(.sym 14),(.sym 15),(.tcons (.tget 0 (.sym 17)) (.tcons (.tget 1 (.sym 17)) .tnil)),(.tcons (.tget 0 (.sym 17)) (.tcons (.tget 1 (.sym 17)) .tnil)),(.tget 0 (.sym 17)),(.tget 1 (.sym 17)),(.tget 1 (.sym 17)),(.sym 18),(.sym 21),(.sym 21),(.sym 23),(.sym 24),(.sym 24),(.sym 33),(.sym 42)]))))))))))))))) (.jump 0 [(.sym 12),(.sym 13),(.sym 14),(.sym 15),(.sym 16),(.sym 37)])))
noncomputable def e246:Entry:={ f:=246,kn:=.plain,cf:={ (autoCfg false ([]++WRY) PNY [] [] Tryz.f246) with nils:=true,stk:=true },own:=false,ones:=[true,true,true,true,true],t:=t246 }
theorem ok246:EntOk Tryz.prog e246:=EntOk.ofPlain Tryz.func246 (by kernel_rfl) (by kernel_rfl)

noncomputable def t275:T:=(wrapBinds [(.ev (.bin .eql .mp (.sym 0) (.const (.v (.map none)))))]
 (.ite (.sym 2) (.ret (.tcons (.const (.v (.map none))) (.tcons (.sym 1) .tnil))) (wrapBinds [(.ev (.m4 .mclh (.sym 1) (.ifc 126 (.sym 0)) .nil .nil)),
 (.ev (.scal (.m4 (.unifc 126) (.m4 .mclv (.sym 1) (.ifc 126 (.sym 0)) .nil .nil) .nil .nil .nil)))]
 (.ret (.tcons (.sym 4) (.tcons (.sym 3) .tnil))))))
noncomputable def e275:Entry:={ f:=275,kn:=.plain,cf:={ (autoCfg false ([]++WRY) PNY [] [] Tryz.f275) with nils:=true,stk:=true },own:=false,ones:=[true],t:=t275 }
theorem ok275:EntOk Tryz.prog e275:=EntOk.ofPlain Tryz.func275 (by kernel_rfl) (by kernel_rfl)

noncomputable def t85:T:=(.nilq (.sym 0) false (.ite (.sym 2) (.ret (.tcons (.const (.lst [])) (.tcons (.sym 1) .tnil))) (wrapBinds [(.ev (.const (.lst []))),
 (.ev (.app 1 8 (.sym 3) (.sym 0)))]
 (.ret (.tcons (.sym 4) (.tcons (.sym 1) .tnil))))))
noncomputable def e85:Entry:={ f:=85,kn:=.plain,cf:={ (autoCfg true ([]++WRY) PNY [] [] Tryz.f85) with nils:=true,stk:=true },own:=false,ones:=[true],t:=t85 }
theorem ok85:EntOk Tryz.prog e85:=EntOk.ofPlain Tryz.func85 (by kernel_rfl) (by kernel_rfl)

noncomputable def t33:T:=(wrapBinds [(.ev (.newb 59 1 (.sym 2) (.const (.agg [(.v (.int .i64 0))]))))]
 (.dfr 81 [4] [(.fstid (.sym 2))] (.ld false 1 (.sym 1) (.sym 0)) (wrapBinds [(.ev (.lenS (.sym 1))),
 (.ev (.bin .gtr .int (.sym 4) (ki 200)))]
 (.ite (.sym 5) (wrapBinds [(.ev (.sto 1 (.sym 3) (.fstid (.sym 2)) (ki 4)))]
 (.ret (.tcons (.tcons (.fstid (.sym 2)) .tnil) (.tcons (.sym 6) .tnil)))) (wrapBinds [(.ev (.newb 22 1 (.sym 3) (.const (.agg [.snil])))),
 (.wcall [] 82 (.sym 6) [(.sym 1)] [true])]
 (.join 0 1 (.rfor (.tget 0 (.sym 7)) (.tget 1 (.sym 7)) [0,1,4,5,10,11,12,13,14] [(.sym 0),(.sym 1),(.fstid (.sym 2)),(.fstid (.sym 3)),(.sym 1),(.sym 4),(.sym 5),(.sym 1),(.tget 0 (.sym 7))] 1 1 (.join 2 4 (wrapBinds [(.ev (.ld false 1 (.sym 8) (.fstid (.sym 3)))),
 (.ev (.lcons (.scal (.sym 9)) (.const (.lst [])))),
 (.ev (.apph 9 1 16 (.sym 8) (.sym 10) (.sym 11))),
 (.ev (.sto 1 (.sym 12) (.fstid (.sym 3)) (.apps (.sym 8) (.sym 10) (.sym 11))))]
 (.jump 2 [(.sym 10),(.sym 11),(.apps (.sym 8) (.sym 10) (.sym 11)),(.sym 13)])) (.jump 1 [(.sym 13)])) (.jump 0 [(.sym 8)])) (wrapBinds [(.wcall [] 83 (.sym 8) [(.sym 0)] [true]),
 (.ev (.ld false 1 (.tget 1 (.sym 9)) (.fstid (.sym 3)))),
 (.ev (.eaddr 1 (.sym 10) (ki 0))),
 (.ev (.ld false 1 (.tget 1 (.sym 9)) (.sym 11))),
 (.ev (.m4 (.getok .str) (.tget 1 (.sym 9)) (.tget 0 (.sym 9)) (.sym 12) (.const (.v .nilFunc)))),
 (.ev (.m4 .same (.ld false 1 (.tget 1 (.sym 9)) (.fstid (.sym 3))) (.ld false 1 (.sym 8) (.fstid (.sym 3))) .nil .nil)),
 (.ev (.m4 .same (.ld false 1 (.tget 1 (.sym 9)) (.sym 11)) (.ld false 1 (.sym 8) (.sym 11)) .nil .nil)),
 (.ev (.un .not (.tget 1 (.sym 13))))]
 (.ite (.sym 16) (wrapBinds [(.ev (.sto 1 (.tget 1 (.sym 9)) (.fstid (.sym 2)) (ki 3)))]
 (.ret (.tcons (.tcons (.fstid (.sym 2)) .tnil) (.tcons (.sym 17) .tnil)))) (wrapBinds [(.ev (.ld false 1 (.tget 1 (.sym 9)) (.fstid (.sym 3)))),
 (.ev (.eaddr 1 (.sym 17) (ki 0))),
 (.ev (.ld false 1 (.tget 1 (.sym 9)) (.sym 18))),
 (.ev (.ld false 1 (.tget 1 (.sym 9)) (.fstid (.sym 3)))),
 (.ev (.sub 1 (.sym 20) (ki 1) (.lenL (.sym 20)))),
 (.ev (.cons (.scal (.sym 19)) (.cons (.scal (.sym 21)) .nil)))]
 (.wpcallv (.tget 0 (.sym 13)) (.tget 1 (.sym 9)) [(.sym 22)] [] [4] [(.fstid (.sym 2))] (wrapBinds [(.ev (.sto 1 (.tget 1 (.sym 23)) (.fstid (.sym 2)) (ki 0)))]
 (.ret (.tcons (.tcons (.fstid (.sym 2)) .tnil) (.tcons (.sym 24) .tnil))))))))))))))
noncomputable def e33:Entry:={ f:=33,kn:=(.defers [4]),cf:={ (autoCfg false ([82]++WRY) PNY [] [] Tryz.f33) with nils:=true,stk:=true },own:=false,ones:=[true,true],t:=t33 }
theorem ok33:EntOk Tryz.prog e33:=EntOk.ofDefers Tryz.func33 (by kernel_rfl) (by kernel_rfl)

end Go.Am.Ra

/-
 Functions that the chapter's examples reach,as texts.
-/
namespace Go.Am.Ra
open Go.Proofs
set_option maxRecDepth 100000

noncomputable def t44:T:=(wrapBinds [(.ev (.nn (.sym 0))),
 (.ev (.padd 12 (.sym 4))),
 (.ev (.ld false 1 (.sym 3) (.sym 5))),
 (.call [] 101 (.sym 3) [(.sym 6),(.const (.fn 102 [] []))] [true])]
 (.ret (.tcons (.sym 7) (.tcons (.sym 3) .tnil))))
noncomputable def e44:Entry:={ f:=44,kn:=.plain,cf:={ (autoCfg true ([]++WRY) PNY [] [] Tryz.f44) with nils:=true,stk:=true },own:=false,ones:=[true,true,true],t:=t44 }
theorem ok44:EntOk Tryz.prog e44:=EntOk.ofPlain Tryz.func44 (by kernel_rfl) (by kernel_rfl)

noncomputable def t49:T:=(wrapBinds [(.ev (.mkptr (.cons (.scal (.sym 0)) .nil))),
 (.ev (.mkptr (.cons (.scal (.sym 2)) .nil))),
 (.ev (.ld false 1 (.sym 3) (.sym 4))),
 (.ev (.mkfn 107 .tnil (.tcons (.sym 5) (.tcons (.sym 4) .tnil)))),
 (.call [] 104 (.sym 3) [(.sym 6),(.sym 7)] [true])]
 (.ret (.tcons (.sym 8) (.tcons (.sym 3) .tnil))))
noncomputable def e49:Entry:={ f:=49,kn:=.plain,cf:={ (autoCfg true ([]++WRY) PNY [] [] Tryz.f49) with nils:=true,stk:=true },own:=false,ones:=[true,true,true],t:=t49 }
theorem ok49:EntOk Tryz.prog e49:=EntOk.ofPlain Tryz.func49 (by kernel_rfl) (by kernel_rfl)

noncomputable def t67:T:=(wrapBinds [(.call [] 137 (.sym 2) [(.sym 0)] [true]),
 (.call [] 137 (.sym 2) [(.sym 1)] [true])]
 (.ite (.sym 3) (.ite (.sym 4) (.ret (.tcons (ki 0) (.tcons (.sym 2) .tnil))) (.ret (.tcons (ki (-1)) (.tcons (.sym 2) .tnil)))) (.ite (.sym 4) (.ret (.tcons (ki 1) (.tcons (.sym 2) .tnil))) (wrapBinds [(.ev (.bin .lss .int (.sym 0) (.sym 1)))]
 (.ite (.sym 5) (.ret (.tcons (ki (-1)) (.tcons (.sym 2) .tnil))) (wrapBinds [(.ev (.bin .gtr .int (.sym 0) (.sym 1)))]
 (.ite (.sym 6) (.ret (.tcons (ki 1) (.tcons (.sym 2) .tnil))) (.ret (.tcons (ki 0) (.tcons (.sym 2) .tnil))))))))))
noncomputable def e67:Entry:={ f:=67,kn:=.plain,cf:={ (autoCfg true ([]++WRY) PNY [] [] Tryz.f67) with nils:=true,stk:=true },own:=false,ones:=[true,true],t:=t67 }
theorem ok67:EntOk Tryz.prog e67:=EntOk.ofPlain Tryz.func67 (by kernel_rfl) (by kernel_rfl)

noncomputable def t21:T:=(wrapBinds [(.ev (.lenS (.sym 1)))]
 (.join 0 3 (.loop 1 [(.sym 0),(ki 0)] (wrapBinds [(.ev (.bin .lss .int (.sym 5) (.sym 3)))]
 (.ite (.sym 6) (.join 2 5 (wrapBinds [(.ev (.m4 .sidx (.sym 1) (.sym 5) .nil .nil)),
 (.ev (.conv .u64 (.sym 7))),
 (.ev (.bin .xor .int (.sym 4) (.sym 8))),
 (.ev (.bin .mul .int (.sym 9) (.const (.v (.int .u64 1099511628211)))))]
 (.jump 2 [(.sym 10),(.sym 7),(.sym 8),(.sym 9),(.sym 10)])) (wrapBinds [(.ev (.bin .add .int (.sym 5) (ki 1)))]
 (.jump 1 [(.sym 7),(.sym 12)]))) (.jump 0 [(.sym 4),(.sym 5),(.sym 6)])))) (wrapBinds [(.ev (.bin .mul .int (.sym 4) (.const (.v (.int .u64 1099511628211)))))]
 (.ret (.tcons (.sym 7) (.tcons (.sym 2) .tnil))))))
noncomputable def e21:Entry:={ f:=21,kn:=.plain,cf:={ (autoCfg true ([]++WRY) PNY [] [] Tryz.f21) with nils:=true,stk:=true },own:=false,ones:=[true,true],t:=t21 }
theorem ok21:EntOk Tryz.prog e21:=EntOk.ofPlain Tryz.func21 (by kernel_rfl) (by kernel_rfl)

noncomputable def t84:T:=(wrapBinds [(.call [] 163 (.sym 3) [(.sym 0),(.sym 1),(.sym 2)] [true,true]),
 (.ev (.m4 (.ifnil true) (.tget 1 (.sym 4)) .nil .nil .nil))]
 (.ite (.sym 5) (wrapBinds [(.call [] 164 (.sym 3) [(.const (.v (.string ⟨#[80,97,114,115,101,85,105,110,116]⟩))),(.sym 0),(.sym 1),(.sym 2),(.tget 1 (.sym 4))] [true])]
 (.ret (.tcons (.tcons (.tget 0 (.sym 4)) (.tcons (.sym 6) .tnil)) (.tcons (.sym 3) .tnil)))) (.ret (.tcons (.tcons (.tget 0 (.sym 4)) (.tcons (.const (.v .nilIface)) .tnil)) (.tcons (.sym 3) .tnil)))))
noncomputable def e84:Entry:={ f:=84,kn:=.plain,cf:={ (autoCfg true ([]++WRY) PNY [] [] Tryz.f84) with nils:=true,stk:=true },own:=false,ones:=[true,true,true],t:=t84 }
theorem ok84:EntOk Tryz.prog e84:=EntOk.ofPlain Tryz.func84 (by kernel_rfl) (by kernel_rfl)

noncomputable def t108:T:=(wrapBinds [(.call [] 185 (.sym 2) [(.sym 0),(.sym 1)] [true]),
 (.ev (.bin .geq .int (.sym 3) (ki 0)))]
 (.ret (.tcons (.sym 4) (.tcons (.sym 2) .tnil))))
noncomputable def e108:Entry:={ f:=108,kn:=.plain,cf:={ (autoCfg true ([]++WRY) PNY [] [] Tryz.f108) with nils:=true,stk:=true },own:=false,ones:=[true,true],t:=t108 }
theorem ok108:EntOk Tryz.prog e108:=EntOk.ofPlain Tryz.func108 (by kernel_rfl) (by kernel_rfl)

noncomputable def t110:T:=(wrapBinds [(.ev (.bin .neq .ptr (.sym 0) (.const (.v (.pointer none))))),
 (.ev (.guard (.sym 2) true (.nn (.sym 0)))),
 (.ev (.guard (.sym 2) true (.padd 4 (.sym 3)))),
 (.ev (.guard (.sym 2) true (.ld false 1 (.sym 1) (.sym 4)))),
 (.ev (.guard (.sym 2) true (.bin .neq .mp (.sym 5) (.const (.v (.map none)))))),
 (.ev (.ite (.sym 2) (.sym 6) (kb false)))]
 (.ret (.tcons (.sym 7) (.tcons (.sym 1) .tnil))))
noncomputable def e110:Entry:={ f:=110,kn:=.plain,cf:={ (autoCfg true ([]++WRY) PNY [] [] Tryz.f110) with nils:=true,stk:=true },own:=false,ones:=[true],t:=t110 }
theorem ok110:EntOk Tryz.prog e110:=EntOk.ofPlain Tryz.func110 (by kernel_rfl) (by kernel_rfl)

noncomputable def t119:T:=(wrapBinds [(.ev (.aggN 14 (.sym 0))),
 (.ev (.lenL (.cell 0 (.sym 2)))),
 (.call [] 190 (.sym 1) [(.sym 3),(ki 1),(ki 100)] [true]),
 (.ev (.un .not (.sym 4))),
 (.ev (.guard (.sym 5) false (.cell 1 (.sym 2)))),
 (.call [((.sym 5),false)] 190 (.sym 1) [(.sym 6),(ki 1),(ki 20)] [true]),
 (.ev (.guard (.sym 5) false (.un .not (.sym 7)))),
 (.ev (.ite (.sym 5) (kb true) (.sym 8))),
 (.ev (.guard (.sym 9) false (.cell 0 (.sym 2)))),
 (.ev (.guard (.sym 9) false (.eaddr 4 (.sym 10) (ki 0)))),
 (.ev (.guard (.sym 9) false (.padd 1 (.sym 11)))),
 (.ev (.guard (.sym 9) false (.ld false 1 (.sym 1) (.sym 12)))),
 (.ev (.guard (.sym 9) false (.bin .neq .int (.sym 13) (ki 0)))),
 (.ev (.ite (.sym 9) (kb true) (.sym 14)))]
 (.ite (.sym 15) (.ret (.tcons (ki 2) (.tcons (.sym 1) .tnil))) (wrapBinds [(.ev (.lenL (.cell 0 (.sym 2))))]
 (.join 0 2 (.loop 1 [(ki 0)] (wrapBinds [(.ev (.bin .lss .int (.sym 17) (.sym 16)))]
 (.ite (.sym 18) (.join 2 14 (wrapBinds [(.ev (.eaddr 4 (.cell 0 (.sym 2)) (.sym 17))),
 (.ev (.ld true 4 (.sym 1) (.sym 19))),
 (.ev (.aggN 4 (.sym 20))),
 (.ev (.bin .gtr .int (.sym 17) (ki 0))),
 (.ev (.guard (.sym 22) true (.cell 1 (.sym 21)))),
 (.ev (.guard (.sym 22) true (.cell 0 (.sym 2)))),
 (.ev (.guard (.sym 22) true (.bin .sub .int (.sym 17) (ki 1)))),
 (.ev (.guard (.sym 22) true (.eaddr 4 (.sym 24) (.sym 25)))),
 (.ev (.guard (.sym 22) true (.padd 1 (.sym 26)))),
 (.ev (.guard (.sym 22) true (.ld false 1 (.sym 1) (.sym 27)))),
 (.ev (.guard (.sym 22) true (.bin .sub .int (.sym 23) (.sym 28)))),
 (.call [((.sym 22),true)] 190 (.sym 1) [(.sym 29),(ki 0),(ki 1)] [true]),
 (.ev (.guard (.sym 22) true (.un .not (.sym 30)))),
 (.ev (.ite (.sym 22) (.sym 31) (kb false))),
 (.ev (.guard (.sym 32) false (.cell 1 (.sym 21)))),
 (.ev (.guard (.sym 32) false (.bin .geq .int (.sym 33) (ki 6)))),
 (.ev (.ite (.sym 32) (kb true) (.sym 34)))]
 (.ite (.sym 35) (.ret (.tcons (ki 2) (.tcons (.sym 1) .tnil))) (.join 3 2 (wrapBinds [(.ev (.bin .eql .int (.cell 0 (.sym 21)) (ki 1)))]
 (.join 4 0 (.ite (.sym 36) (wrapBinds [(.call [] 190 (.sym 1) [(.cell 2 (.sym 21)),(ki 0),(ki 1440)] [true]),
 (.ev (.un .not (.sym 37)))]
 (.ite (.sym 38) (.ret (.tcons (ki 2) (.tcons (.sym 1) .tnil))) (.jump 4 []))) (wrapBinds [(.ev (.bin .eql .int (.cell 0 (.sym 21)) (ki 2)))]
 (.ite (.sym 37) (wrapBinds [(.ev (.bin .neq .int (.cell 2 (.sym 21)) (ki 0))),
 (.ev (.guard (.sym 38) false (.cell 3 (.sym 21)))),
 (.ev (.ite (.sym 38) (kb true) (.sym 39)))]
 (.ite (.sym 40) (.ret (.tcons (ki 2) (.tcons (.sym 1) .tnil))) (.jump 4 []))) (.ret (.tcons (ki 2) (.tcons (.sym 1) .tnil)))))) (.jump 3 [(.sym 36),(.sym 36)]))) (.jump 2 [(.sym 19),(.sym 20),(.sym 22),(.sym 22),(.sym 32),(.sym 32),(.sym 35),(.cell 0 (.sym 21)),(.sym 36),(.sym 37),(.cell 0 (.sym 21)),(.cell 1 (.sym 21)),(.cell 2 (.sym 21)),(.cell 3 (.sym 21))])))) (wrapBinds [(.ev (.bin .add .int (.sym 17) (ki 1)))]
 (.jump 1 [(.sym 33)]))) (.jump 0 [(.sym 17),(.sym 18)])))) (wrapBinds [(.ev (.lcons (.scal (.cell 2 (.sym 2))) (.lcons (.scal (.cell 3 (.sym 2))) (.lcons (.scal (.cell 8 (.sym 2))) (.const (.lst [])))))),
 (.call [] 191 (.sym 1) [(.sym 19),(ki 3),(ki 3),(ki 36000000)] [true]),
 (.ev (.un .not (.sym 20))),
 (.ev (.guard (.sym 21) false (.cell 4 (.sym 2)))),
 (.ev (.guard (.sym 21) false (.cell 5 (.sym 2)))),
 (.ev (.guard (.sym 21) false (.lcons (.scal (.sym 22)) (.lcons (.scal (.sym 23)) (.const (.lst [])))))),
 (.call [((.sym 21),false)] 191 (.sym 1) [(.sym 24),(ki 2),(ki 2),(ki 1440)] [true]),
 (.ev (.guard (.sym 21) false (.un .not (.sym 25)))),
 (.ev (.ite (.sym 21) (kb true) (.sym 26))),
 (.ev (.guard (.sym 27) false (.cell 6 (.sym 2)))),
 (.call [((.sym 27),false)] 191 (.sym 1) [(.sym 28),(ki 1),(ki 10),(ki 36000000)] [true]),
 (.ev (.guard (.sym 27) false (.un .not (.sym 29)))),
 (.ev (.ite (.sym 27) (kb true) (.sym 30)))]
 (.ite (.sym 31) (.ret (.tcons (ki 2) (.tcons (.sym 1) .tnil))) (wrapBinds [(.ev (.bin .lss .int (.cell 9 (.sym 2)) (ki 1))),
 (.ev (.guard (.sym 32) false (.cell 9 (.sym 2)))),
 (.ev (.guard (.sym 32) false (.bin .gtr .int (.sym 33) (ki 4)))),
 (.ev (.ite (.sym 32) (kb true) (.sym 34))),
 (.ev (.guard (.sym 35) false (.cell 10 (.sym 2)))),
 (.call [((.sym 35),false)] 190 (.sym 1) [(.sym 36),(ki 100),(ki 1000)] [true]),
 (.ev (.guard (.sym 35) false (.un .not (.sym 37)))),
 (.ev (.ite (.sym 35) (kb true) (.sym 38))),
 (.ev (.guard (.sym 39) false (.cell 12 (.sym 2)))),
 (.call [((.sym 39),false)] 191 (.sym 1) [(.sym 40),(ki 0),(ki 60),(ki 1000)] [true]),
 (.ev (.guard (.sym 39) false (.un .not (.sym 41)))),
 (.ev (.ite (.sym 39) (kb true) (.sym 42))),
 (.ev (.guard (.sym 43) false (.cell 13 (.sym 2)))),
 (.call [((.sym 43),false)] 191 (.sym 1) [(.sym 44),(ki 0),(ki 60),(ki 1000)] [true]),
 (.ev (.guard (.sym 43) false (.un .not (.sym 45)))),
 (.ev (.ite (.sym 43) (kb true) (.sym 46)))]
 (.ite (.sym 47) (.ret (.tcons (ki 2) (.tcons (.sym 1) .tnil))) (wrapBinds [(.ev (.lenL (.cell 0 (.sym 2)))),
 (.ev (.bin .sub .int (.sym 48) (ki 1))),
 (.call [] 190 (.sym 1) [(.cell 11 (.sym 2)),(ki (-1)),(.sym 49)] [true]),
 (.ev (.un .not (.sym 50))),
 (.ev (.guard (.sym 51) false (.cell 11 (.sym 2)))),
 (.ev (.guard (.sym 51) false (.bin .geq .int (.sym 52) (ki 0)))),
 (.ev (.guard (.sym 51) false (.guard (.sym 53) true (.cell 0 (.sym 2))))),
 (.ev (.guard (.sym 51) false (.guard (.sym 53) true (.cell 11 (.sym 2))))),
 (.ev (.guard (.sym 51) false (.guard (.sym 53) true (.eaddr 4 (.sym 54) (.sym 55))))),
 (.ev (.guard (.sym 51) false (.guard (.sym 53) true (.padd 0 (.sym 56))))),
 (.ev (.guard (.sym 51) false (.guard (.sym 53) true (.ld false 1 (.sym 1) (.sym 57))))),
 (.ev (.guard (.sym 51) false (.guard (.sym 53) true (.bin .neq .int (.sym 58) (ki 2))))),
 (.ev (.guard (.sym 51) false (.ite (.sym 53) (.sym 59) (kb false)))),
 (.ev (.ite (.sym 51) (kb true) (.sym 60)))]
 (.ite (.sym 61) (.ret (.tcons (ki 2) (.tcons (.sym 1) .tnil))) (.ret (.tcons (ki 0) (.tcons (.sym 1) .tnil)))))))))))))
noncomputable def e119:Entry:={ f:=119,kn:=.plain,cf:={ (autoCfg true ([]++WRY) PNY [] [] Tryz.f119) with nils:=true,stk:=true },own:=false,ones:=[false],t:=t119 }
theorem ok119:EntOk Tryz.prog e119:=EntOk.ofPlain Tryz.func119 (by kernel_rfl) (by kernel_rfl)

noncomputable def t140:T:=(wrapBinds [(.ev (.bin .geq .int (.sym 0) (.sym 1))),
 (.ev (.guard (.sym 4) true (.bin .leq .int (.sym 0) (.sym 2)))),
 (.ev (.ite (.sym 4) (.sym 5) (kb false)))]
 (.ret (.tcons (.sym 6) (.tcons (.sym 3) .tnil))))
noncomputable def e140:Entry:={ f:=140,kn:=.plain,cf:={ (autoCfg true ([]++WRY) PNY [] [] Tryz.f140) with nils:=true,stk:=true },own:=false,ones:=[true,true,true],t:=t140 }
theorem ok140:EntOk Tryz.prog e140:=EntOk.ofPlain Tryz.func140 (by kernel_rfl) (by kernel_rfl)

noncomputable def t166:T:=(wrapBinds [(.ev (.aggN 4 (.sym 0))),
 (.ev (.bin .eql .int (.cell 0 (.sym 2)) (ki 2)))]
 (.ret (.tcons (.sym 3) (.tcons (.sym 1) .tnil))))
noncomputable def e166:Entry:={ f:=166,kn:=.plain,cf:={ (autoCfg true ([]++WRY) PNY [] [] Tryz.f166) with nils:=true,stk:=true },own:=false,ones:=[false],t:=t166 }
theorem ok166:EntOk Tryz.prog e166:=EntOk.ofPlain Tryz.func166 (by kernel_rfl) (by kernel_rfl)

noncomputable def t170:T:=(.nilq (.sym 0) false (.ite (.sym 2) (.ret (.tcons (.const (.lst [])) (.tcons (.sym 1) .tnil))) (wrapBinds [(.ev (.const (.lst []))),
 (.ev (.app 4 32 (.sym 3) (.sym 0)))]
 (.ret (.tcons (.sym 4) (.tcons (.sym 1) .tnil))))))
noncomputable def e170:Entry:={ f:=170,kn:=.plain,cf:={ (autoCfg true ([]++WRY) PNY [] [] Tryz.f170) with nils:=true,stk:=true },own:=false,ones:=[true],t:=t170 }
theorem ok170:EntOk Tryz.prog e170:=EntOk.ofPlain Tryz.func170 (by kernel_rfl) (by kernel_rfl)

noncomputable def t171:T:=(wrapBinds [(.ev (.aggN 3 (.sym 0))),
 (.call [] 111 (.sym 2) [(.cell 0 (.sym 3)),(ki 1),(ki 200)] [true]),
 (.ev (.un .not (.sym 4))),
 (.ev (.guard (.sym 5) false (.cell 1 (.sym 3)))),
 (.call [((.sym 5),false)] 111 (.sym 2) [(.sym 6),(ki 2),(ki 30)] [true]),
 (.ev (.guard (.sym 5) false (.un .not (.sym 7)))),
 (.ev (.ite (.sym 5) (kb true) (.sym 8))),
 (.ev (.guard (.sym 9) false (.cell 2 (.sym 3)))),
 (.ev (.guard (.sym 9) false (.lenL (.sym 10)))),
 (.ev (.guard (.sym 9) false (.cell 1 (.sym 3)))),
 (.ev (.guard (.sym 9) false (.bin .sub .int (.sym 12) (ki 1)))),
 (.ev (.guard (.sym 9) false (.bin .neq .int (.sym 11) (.sym 13)))),
 (.ev (.ite (.sym 9) (kb true) (.sym 14))),
 (.ev (.guard (.sym 15) false (.lenL (.sym 1)))),
 (.ev (.guard (.sym 15) false (.bin .gtr .int (.sym 16) (ki 50)))),
 (.ev (.ite (.sym 15) (kb true) (.sym 17)))]
 (.ite (.sym 18) (.ret (.tcons (kb false) (.tcons (.sym 2) .tnil))) (wrapBinds [(.call [] 232 (.sym 2) [(.cell 2 (.sym 3)),(.const (.fn 233 [] []))] [true]),
 (.ev (.un .not (.sym 19))),
 (.call [((.sym 20),true)] 234 (.sym 2) [(.sym 1),(.const (.fn 235 [] []))] [true]),
 (.ev (.guard (.sym 20) true (.un .not (.sym 21)))),
 (.ev (.ite (.sym 20) (.sym 22) (kb false)))]
 (.ret (.tcons (.sym 23) (.tcons (.sym 2) .tnil))))))
noncomputable def e171:Entry:={ f:=171,kn:=.plain,cf:={ (autoCfg true ([]++WRY) PNY [] [] Tryz.f171) with nils:=true,stk:=true },own:=false,ones:=[false,true],t:=t171 }
theorem ok171:EntOk Tryz.prog e171:=EntOk.ofPlain Tryz.func171 (by kernel_rfl) (by kernel_rfl)

noncomputable def t174:T:=(wrapBinds [(.call [] 240 (.sym 1) [(.sym 0),(ki 10)] [true])]
 (.ret (.tcons (.sym 2) (.tcons (.sym 1) .tnil))))
noncomputable def e174:Entry:={ f:=174,kn:=.plain,cf:={ (autoCfg true ([]++WRY) PNY [] [] Tryz.f174) with nils:=true,stk:=true },own:=false,ones:=[true],t:=t174 }
theorem ok174:EntOk Tryz.prog e174:=EntOk.ofPlain Tryz.func174 (by kernel_rfl) (by kernel_rfl)

noncomputable def t212:T:=(wrapBinds [(.ev (.bin .neq .int (.sym 0) (ki 0)))]
 (.join 0 0 (.ite (.sym 2) (wrapBinds [(.ev (.cons (.scal (.sym 0)) .nil))]
 (.pan (.m4 .isifc (.ifc 172 (.sym 3)) .nil .nil .nil) (.sym 1) [] [])) (.jump 0 [])) (.ret (.tcons .tnil (.tcons (.sym 1) .tnil)))))
noncomputable def e212:Entry:={ f:=212,kn:=.plain,cf:={ (autoCfg true ([]++WRY) PNY [] [] Tryz.f212) with nils:=true,stk:=true },own:=false,ones:=[true],t:=t212 }
theorem ok212:EntOk Tryz.prog e212:=EntOk.ofPlain Tryz.func212 (by kernel_rfl) (by kernel_rfl)

noncomputable def t282:T:=(wrapBinds [(.ev (.lenL (.sym 0)))]
 (.join 0 2 (.loop 1 [(ki 0)] (wrapBinds [(.ev (.bin .lss .int (.sym 4) (.sym 3)))]
 (.ite (.sym 5) (.join 2 3 (wrapBinds [(.ev (.eaddr 1 (.sym 0) (.sym 4))),
 (.ev (.ld false 1 (.sym 2) (.sym 6))),
 (.callv [] (.sym 1) (.sym 2) [(.sym 7)] [true])]
 (.ite (.sym 8) (.ret (.tcons (.sym 4) (.tcons (.sym 2) .tnil))) (.jump 2 [(.sym 6),(.sym 7),(.sym 8)]))) (wrapBinds [(.ev (.bin .add .int (.sym 4) (ki 1)))]
 (.jump 1 [(.sym 9)]))) (.jump 0 [(.sym 4),(.sym 5)])))) (.ret (.tcons (ki (-1)) (.tcons (.sym 2) .tnil)))))
noncomputable def e282:Entry:={ f:=282,kn:=.plain,cf:={ (autoCfg true ([]++WRY) PNY [] [] Tryz.f282) with nils:=true,stk:=true },own:=false,ones:=[true,true],t:=t282 }
theorem ok282:EntOk Tryz.prog e282:=EntOk.ofPlain Tryz.func282 (by kernel_rfl) (by kernel_rfl)

noncomputable def t283:T:=(wrapBinds [(.ev (.lenL (.sym 0)))]
 (.join 0 2 (.loop 1 [(ki 0)] (wrapBinds [(.ev (.bin .lss .int (.sym 4) (.sym 3)))]
 (.ite (.sym 5) (.join 2 3 (wrapBinds [(.ev (.eaddr 2 (.sym 0) (.sym 4))),
 (.ev (.ld true 2 (.sym 2) (.sym 6))),
 (.callv [] (.sym 1) (.sym 2) [(.sym 7)] [true])]
 (.ite (.sym 8) (.ret (.tcons (.sym 4) (.tcons (.sym 2) .tnil))) (.jump 2 [(.sym 6),(.sym 7),(.sym 8)]))) (wrapBinds [(.ev (.bin .add .int (.sym 4) (ki 1)))]
 (.jump 1 [(.sym 9)]))) (.jump 0 [(.sym 4),(.sym 5)])))) (.ret (.tcons (ki (-1)) (.tcons (.sym 2) .tnil)))))
noncomputable def e283:Entry:={ f:=283,kn:=.plain,cf:={ (autoCfg true ([]++WRY) PNY [] [] Tryz.f283) with nils:=true,stk:=true },own:=false,ones:=[true,true],t:=t283 }
theorem ok283:EntOk Tryz.prog e283:=EntOk.ofPlain Tryz.func283 (by kernel_rfl) (by kernel_rfl)

noncomputable def t155:T:=(wrapBinds [(.ev (.aggN 2 (.sym 1)))]
 (.wpcall 211 (.sym 2) [(agc 2 (.sym 3)),(ki 3)] [true] [] [] (wrapBinds [(.ev (.newb 36 1 (.tget 1 (.sym 4)) (.const (.agg [.snil])))),
 (.ev (.sto 1 (.sym 5) (.fstid (.tget 1 (.sym 4))) (.tget 0 (.sym 4)))),
 (.ev (.ld false 1 (.sym 6) (.fstid (.tget 1 (.sym 4))))),
 (.ev (.eaddr 1 (.sym 7) (ki 0))),
 (.ev (.ld false 1 (.sym 6) (.sym 8)))]
 (.pcall 214 (.sym 6) [(.sym 0),(.sym 9)] [true] [] [] (wrapBinds [(.ev (.ld false 1 (.sym 6) (.fstid (.tget 1 (.sym 4))))),
 (.ev (.eaddr 1 (.sym 11) (ki 1))),
 (.ev (.ld false 1 (.sym 6) (.sym 12))),
 (.ev (.nn (.sym 0))),
 (.ev (.padd 33 (.sym 14))),
 (.ev (.ld false 1 (.sym 6) (.sym 15))),
 (.ev (.eaddr 3 (.sym 16) (.sym 10))),
 (.ev (.padd 1 (.sym 17))),
 (.ev (.ld false 1 (.sym 6) (.sym 18))),
 (.ev (.lenL (.sym 19))),
 (.ev (.bin .geq .int (.sym 13) (.sym 20)))]
 (.join 0 0 (.ite (.sym 21) (.pcall 212 (.sym 6) [(ki 2)] [] [] [] (.jump 0 [])) (.jump 0 [])) (wrapBinds [(.ev (.mkfn 219 .tnil (.tcons (.fstid (.tget 1 (.sym 4))) .tnil)))]
 (.wpcall 217 (.sym 6) [(.sym 0),(.sym 10),(.sym 22)] [] [] [] (.ret (.tcons .tnil (.tcons (.tget 1 (.sym 23)) .tnil)))))))))))
noncomputable def e155:Entry:={ f:=155,kn:=.plain,cf:={ (autoCfg false ([211]++WRY) PNY [] [] Tryz.f155) with nils:=true,stk:=true },own:=false,ones:=[true,false],t:=t155 }
theorem ok155:EntOk Tryz.prog e155:=EntOk.ofPlain Tryz.func155 (by kernel_rfl) (by kernel_rfl)

noncomputable def t156:T:=(wrapBinds [(.ev (.aggN 2 (.sym 1))),
 (.ev (.lenL (.cell 1 (.sym 3)))),
 (.ev (.bin .sub .int (.sym 4) (ki 1))),
 (.ev (.bin .geq .int (.sym 5) (ki 0))),
 (.ev (.guard (.sym 6) true (.cell 1 (.sym 3)))),
 (.ev (.guard (.sym 6) true (.eaddr 1 (.sym 7) (.sym 5)))),
 (.ev (.guard (.sym 6) true (.ld false 1 (.sym 2) (.sym 8)))),
 (.ev (.guard (.sym 6) true (.bin .eql .str (.sym 9) (.const (.v (.string ⟨#[106,117,109,112]⟩)))))),
 (.ev (.ite (.sym 6) (.sym 10) (kb false)))]
 (.join 0 3 (.ite (.sym 11) (wrapBinds [(.ev (.sub 1 (.cell 1 (.sym 3)) (ki 0) (.sym 5))),
 (.ev (.bin .add .int (ki 0) (ki 1)))]
 (.jump 0 [(.sym 13),(.sym 12),(kb true)])) (.jump 0 [(ki 0),(.cell 1 (.sym 3)),(kb false)])) (wrapBinds [(.ev (.lenL (.sym 13))),
 (.ev (.bin .sub .int (.sym 15) (ki 1))),
 (.ev (.bin .geq .int (.sym 16) (ki 0))),
 (.ev (.guard (.sym 17) true (.eaddr 1 (.sym 13) (.sym 16)))),
 (.ev (.guard (.sym 17) true (.ld false 1 (.sym 2) (.sym 18)))),
 (.ev (.guard (.sym 17) true (.bin .eql .str (.sym 19) (.const (.v (.string ⟨#[115,116,111,112,112,101,100]⟩)))))),
 (.ev (.ite (.sym 17) (.sym 20) (kb false)))]
 (.join 0 3 (.ite (.sym 21) (wrapBinds [(.ev (.sub 1 (.sym 13) (ki 0) (.sym 16))),
 (.ev (.bin .add .int (.sym 12) (ki 1)))]
 (.jump 0 [(.sym 23),(.sym 22),(ki 1)])) (.jump 0 [(.sym 12),(.sym 13),(ki 0)])) (wrapBinds [(.ev (.lenL (.sym 23))),
 (.ev (.bin .sub .int (.sym 25) (ki 1))),
 (.ev (.bin .eql .int (.sym 22) (ki 0))),
 (.ev (.guard (.sym 27) true (.bin .geq .int (.sym 26) (ki 0)))),
 (.ev (.ite (.sym 27) (.sym 28) (kb false))),
 (.ev (.guard (.sym 29) true (.eaddr 1 (.sym 23) (.sym 26)))),
 (.ev (.guard (.sym 29) true (.ld false 1 (.sym 2) (.sym 30)))),
 (.ev (.guard (.sym 29) true (.bin .eql .str (.sym 31) (.const (.v (.string ⟨#[109,105,115,115,101,100]⟩)))))),
 (.ev (.ite (.sym 29) (.sym 32) (kb false)))]
 (.join 0 2 (.ite (.sym 33) (wrapBinds [(.ev (.sub 1 (.sym 23) (ki 0) (.sym 26)))]
 (.jump 0 [(.sym 34),(ki 2)])) (.jump 0 [(.sym 23),(.sym 24)])) (wrapBinds [(.ev (.m4 .newm (.sym 2) .nil .nil .nil)),
 (.ev (.m4 (.put .int) (.sym 36) (.m4 .fstm (.sym 2) .nil .nil .nil) (ki 0) (ki 4))),
 (.ev (.m4 (.put .int) (.sym 37) (.m4 .fstm (.sym 2) .nil .nil .nil) (ki 1) (ki 3))),
 (.ev (.m4 (.put .int) (.sym 38) (.m4 .fstm (.sym 2) .nil .nil .nil) (ki 2) (ki 2))),
 (.ev (.m4 (.get .int false) (.sym 39) (.m4 .fstm (.sym 2) .nil .nil .nil) (.sym 35) (ki 0)))]
 (.wpcall 211 (.sym 39) [(.cons (.cell 0 (.sym 3)) (.cons (.sym 34) .nil)),(.sym 40)] [true] [] [] (wrapBinds [(.ev (.lenL (.tget 0 (.sym 41)))),
 (.ev (.bin .gtr .int (.sym 42) (ki 2)))]
 (.join 0 1 (.ite (.sym 43) (wrapBinds [(.ev (.eaddr 1 (.tget 0 (.sym 41)) (ki 2))),
 (.ev (.ld false 1 (.tget 1 (.sym 41)) (.sym 44)))]
 (.jump 0 [(.sym 45)])) (.jump 0 [(ki 0)])) (wrapBinds [(.ev (.lenL (.tget 0 (.sym 41)))),
 (.ev (.bin .gtr .int (.sym 45) (ki 3)))]
 (.join 0 1 (.ite (.sym 46) (wrapBinds [(.ev (.eaddr 1 (.tget 0 (.sym 41)) (ki 3))),
 (.ev (.ld false 1 (.tget 1 (.sym 41)) (.sym 47)))]
 (.jump 0 [(.sym 48)])) (.jump 0 [(ki 0)])) (wrapBinds [(.ev (.eaddr 1 (.tget 0 (.sym 41)) (ki 0))),
 (.ev (.ld false 1 (.tget 1 (.sym 41)) (.sym 48))),
 (.call [] 214 (.tget 1 (.sym 41)) [(.sym 0),(.sym 49)] [true]),
 (.ev (.eaddr 1 (.tget 0 (.sym 41)) (ki 1))),
 (.ev (.ld false 1 (.tget 1 (.sym 41)) (.sym 51)))]
 (.wpcall 220 (.tget 1 (.sym 41)) [(.sym 0),(.sym 50),(.sym 52),(.cons (.sym 44) (.cons (.sym 47) (.cons (.sym 14) (.cons (.sym 35) .nil))))] [] [] [] (.ret (.tcons .tnil (.tcons (.tget 1 (.sym 53)) .tnil)))))))))))))))))
noncomputable def e156:Entry:={ f:=156,kn:=.plain,cf:={ (autoCfg false ([211]++WRY) PNY [] [] Tryz.f156) with nils:=true,stk:=true },own:=false,ones:=[true,false],t:=t156 }
theorem ok156:EntOk Tryz.prog e156:=EntOk.ofPlain Tryz.func156 (by kernel_rfl) (by kernel_rfl)

noncomputable def t157:T:=(wrapBinds [(.ev (.mkptr (.cons (.scal (.sym 0)) .nil))),
 (.ev (.aggN 2 (.sym 1)))]
 (.wpcall 211 (.sym 2) [(agc 2 (.sym 4)),(ki 4)] [true] [] [] (wrapBinds [(.ev (.newb 36 1 (.tget 1 (.sym 5)) (.const (.agg [.snil])))),
 (.ev (.sto 1 (.sym 6) (.fstid (.tget 1 (.sym 5))) (.tget 0 (.sym 5)))),
 (.ev (.ld false 1 (.sym 7) (.sym 3))),
 (.ev (.ld false 1 (.sym 7) (.fstid (.tget 1 (.sym 5))))),
 (.ev (.eaddr 1 (.sym 9) (ki 0))),
 (.ev (.ld false 1 (.sym 7) (.sym 10))),
 (.call [] 214 (.sym 7) [(.sym 8),(.sym 11)] [true]),
 (.ev (.ld false 1 (.sym 7) (.fstid (.tget 1 (.sym 5))))),
 (.ev (.eaddr 1 (.sym 13) (ki 1))),
 (.ev (.ld false 1 (.sym 7) (.sym 14))),
 (.ev (.ld false 1 (.sym 7) (.sym 3))),
 (.ev (.nn (.sym 16))),
 (.ev (.padd 0 (.sym 17))),
 (.ev (.padd 10 (.sym 18))),
 (.ev (.padd 0 (.sym 19))),
 (.ev (.ld false 1 (.sym 7) (.sym 20))),
 (.ev (.lenL (.sym 21))),
 (.ev (.bin .geq .int (.sym 15) (.sym 22)))]
 (.join 0 0 (.ite (.sym 23) (.pcall 212 (.sym 7) [(ki 2)] [] [] [] (.jump 0 [])) (.jump 0 [])) (wrapBinds [(.ev (.mkfn 221 .tnil (.tcons (.sym 3) (.tcons (.fstid (.tget 1 (.sym 5))) .tnil)))),
 (.wcallv [] (.sym 24) (.sym 7) [(ki 0)] [true]),
 (.ev (.ld false 1 (.tget 1 (.sym 25)) (.sym 3))),
 (.ev (.nn (.sym 26))),
 (.ev (.padd 0 (.sym 27))),
 (.ev (.padd 6 (.sym 28))),
 (.ev (.padd 1 (.sym 29))),
 (.ev (.ld false 1 (.tget 1 (.sym 25)) (.sym 30))),
 (.ev (.bin .sub .int (.sym 31) (ki 1))),
 (.wcallv [] (.sym 24) (.tget 1 (.sym 25)) [(.sym 32)] [true]),
 (.ev (.m4 .same (.ld false 1 (.tget 1 (.sym 25)) (.sym 3)) (.ld false 1 (.sym 7) (.sym 3)) .nil .nil)),
 (.ev (.m4 .same (.ld false 1 (.tget 1 (.sym 25)) (.sym 30)) (.ld false 1 (.sym 7) (.sym 30)) .nil .nil)),
 (.ev (.bin .leq .int (.tget 0 (.sym 33)) (.tget 0 (.sym 25))))]
 (.join 0 0 (.ite (.sym 36) (.pcall 212 (.tget 1 (.sym 33)) [(ki 2)] [] [] [] (.jump 0 [])) (.jump 0 [])) (wrapBinds [(.ev (.ld false 1 (.tget 1 (.sym 33)) (.sym 3))),
 (.ev (.ld false 1 (.tget 1 (.sym 33)) (.fstid (.tget 1 (.sym 5))))),
 (.ev (.eaddr 1 (.sym 38) (ki 1))),
 (.ev (.ld false 1 (.tget 1 (.sym 33)) (.sym 39))),
 (.ev (.ld false 1 (.tget 1 (.sym 33)) (.fstid (.tget 1 (.sym 5))))),
 (.ev (.eaddr 1 (.sym 41) (ki 2))),
 (.ev (.ld false 1 (.tget 1 (.sym 33)) (.sym 42))),
 (.ev (.bin .sub .int (.tget 0 (.sym 33)) (.tget 0 (.sym 25)))),
 (.ev (.cons (.scal (.sym 43)) (.cons (.scal (.sym 44)) (.cons (.const (.agg [(.v (.bool false))])) (.cons (.const (.agg [(.v (.int .i64 0))])) .nil)))))]
 (.wpcall 220 (.tget 1 (.sym 33)) [(.sym 37),(.sym 12),(.sym 40),(.sym 45)] [] [] [] (.ret (.tcons .tnil (.tcons (.tget 1 (.sym 46)) .tnil)))))))))))
noncomputable def e157:Entry:={ f:=157,kn:=.plain,cf:={ (autoCfg false ([211,1000030,1000039]++WRY) PNY [] [] Tryz.f157) with nils:=true,stk:=true },own:=false,ones:=[true,false],t:=t157 }
theorem ok157:EntOk Tryz.prog e157:=EntOk.ofPlain Tryz.func157 (by kernel_rfl) (by kernel_rfl)

noncomputable def t278:T:=(wrapBinds [(.ev (.mkptr (.cons (.scal (.sym 0)) .nil))),
 (.ev (.mkptr (.cons (.scal (.sym 2)) .nil))),
 (.ev (.newb 36 1 (.sym 3) (.const (.agg [.snil])))),
 (.ev (.ld false 1 (.sym 6) (.sym 4))),
 (.call [] 117 (.sym 6) [(.sym 7),(.sym 1)] [true])]
 (.join 0 1 (.rfor (.sym 8) (.sym 6) [0,1,2,3,5,6,7,12,13,14] [(.sym 0),(.sym 1),(.sym 2),(.sym 4),(.sym 5),(ki 0),(.fstid (.sym 3)),(.sym 7),(.sym 1),(.sym 8)] 2 1 (wrapBinds [(.ev (.newb 228 7 (.sym 9) (.const (.agg [(.v (.int .i64 0)),(.v (.int .i64 0)),(.v (.int .i64 0)),(.v (.int .i64 0)),(.v (.int .i64 0)),(.v (.int .i64 0)),(.v (.int .i64 0))])))),
 (.ev (.sto 7 (.sym 12) (.fstid (.sym 9)) (.sym 11)))]
 (.join 2 6 (wrapBinds [(.ev (.padd 2 (.fstid (.sym 9)))),
 (.ev (.ld false 1 (.sym 13) (.sym 14))),
 (.ev (.bin .eql .int (.sym 15) (ki 1))),
 (.ev (.guard (.sym 16) true (.padd 4 (.fstid (.sym 9))))),
 (.ev (.guard (.sym 16) true (.ld false 1 (.sym 13) (.sym 17)))),
 (.ev (.guard (.sym 16) true (.ld false 1 (.sym 13) (.sym 5)))),
 (.ev (.guard (.sym 16) true (.bin .eql .int (.sym 18) (.sym 19)))),
 (.ev (.ite (.sym 16) (.sym 20) (kb false)))]
 (.join 3 1 (.ite (.sym 21) (wrapBinds [(.ev (.ld false 1 (.sym 13) (.fstid (.sym 3)))),
 (.ev (.lcons (.scal (.sym 10)) (.const (.lst [])))),
 (.ev (.apph 3 1 8 (.sym 13) (.sym 22) (.sym 23))),
 (.ev (.sto 1 (.sym 24) (.fstid (.sym 3)) (.apps (.sym 13) (.sym 22) (.sym 23))))]
 (.jump 3 [(.sym 25)])) (.jump 3 [(.sym 13)])) (.jump 2 [(.sym 14),(.sym 15),(.sym 16),(.sym 16),(.sym 21),(.sym 22)]))) (.jump 1 [(.sym 19)]))) (.jump 0 [(.sym 9)])) (wrapBinds [(.ev (.ld false 1 (.sym 9) (.fstid (.sym 3)))),
 (.ev (.mkfn 308 .tnil (.tcons (.sym 4) .tnil))),
 (.call [] 307 (.sym 9) [(.sym 10),(.sym 11)] [true,true]),
 (.ev (.un .not (.tget 1 (.sym 12))))]
 (.ite (.sym 13) (.ret (.tcons (ki (-1)) (.tcons (.sym 9) .tnil))) (.ret (.tcons (.tget 0 (.sym 12)) (.tcons (.sym 9) .tnil)))))))
noncomputable def e278:Entry:={ f:=278,kn:=.plain,cf:={ (autoCfg false ([]++WRY) PNY [] [] Tryz.f278) with nils:=true,stk:=true },own:=false,ones:=[true,true,true],t:=t278 }
theorem ok278:EntOk Tryz.prog e278:=EntOk.ofPlain Tryz.func278 (by kernel_rfl) (by kernel_rfl)

noncomputable def t287:T:=(wrapBinds [(.ev (.bin .add .int (.sym 1) (ki 1)))]
 (.join 0 4 (.loop 1 [(.sym 5),(.sym 4)] (wrapBinds [(.ev (.bin .lss .int (.sym 6) (.sym 2)))]
 (.ite (.sym 8) (.join 2 6 (.join 3 6 (.loop 4 [(.sym 6),(.sym 7)] (wrapBinds [(.ev (.bin .gtr .int (.sym 9) (.sym 1))),
 (.ev (.guard (.sym 11) true (.eaddr 7 (.sym 0) (.sym 9)))),
 (.ev (.guard (.sym 11) true (.ld true 7 (.sym 10) (.sym 12)))),
 (.ev (.guard (.sym 11) true (.bin .sub .int (.sym 9) (ki 1)))),
 (.ev (.guard (.sym 11) true (.eaddr 7 (.sym 0) (.sym 14)))),
 (.ev (.guard (.sym 11) true (.ld true 7 (.sym 10) (.sym 15)))),
 (.callv [((.sym 11),true)] (.sym 3) (.sym 10) [(.sym 13),(.sym 16)] [true]),
 (.ev (.guard (.sym 11) true (.bin .lss .int (.sym 17) (ki 0)))),
 (.ev (.ite (.sym 11) (.sym 18) (kb false)))]
 (.ite (.sym 19) (.join 5 9 (wrapBinds [(.ev (.bin .sub .int (.sym 9) (ki 1))),
 (.ev (.bin .sub .int (.sym 9) (ki 1))),
 (.ev (.eaddr 7 (.sym 0) (.sym 21))),
 (.ev (.ld true 7 (.sym 10) (.sym 22))),
 (.ev (.eaddr 7 (.sym 0) (.sym 9))),
 (.ev (.ld true 7 (.sym 10) (.sym 24))),
 (.ev (.eaddr 7 (.sym 0) (.sym 9))),
 (.ev (.sto 7 (.sym 10) (.sym 26) (.sym 23))),
 (.ev (.eaddr 7 (.sym 0) (.sym 20))),
 (.ev (.sto 7 (.sym 27) (.sym 28) (.sym 25)))]
 (.jump 5 [(.sym 20),(.sym 21),(.sym 22),(.sym 23),(.sym 24),(.sym 25),(.sym 26),(.sym 28),(.sym 29)])) (wrapBinds [(.ev (.bin .sub .int (.sym 9) (ki 1)))]
 (.jump 4 [(.sym 29),(.sym 28)]))) (.jump 3 [(.sym 9),(.sym 9),(.sym 11),(.sym 11),(.sym 19),(.sym 10)])))) (.jump 2 [(.sym 9),(.sym 10),(.sym 11),(.sym 12),(.sym 13),(.sym 14)])) (wrapBinds [(.ev (.bin .add .int (.sym 6) (ki 1)))]
 (.jump 1 [(.sym 15),(.sym 14)]))) (.jump 0 [(.sym 6),(.sym 6),(.sym 8),(.sym 7)])))) (.ret (.tcons .tnil (.tcons (.sym 9) .tnil)))))
noncomputable def e287:Entry:={ f:=287,kn:=.plain,cf:={ (autoCfg false ([]++WRY) PNY [] [] Tryz.f287) with nils:=true,stk:=true },own:=false,ones:=[true,true,true,true],t:=t287 }
theorem ok287:EntOk Tryz.prog e287:=EntOk.ofPlain Tryz.func287 (by kernel_rfl) (by kernel_rfl)

noncomputable def t36:T:=(wrapBinds [(.ev (.aggN 3 (.sym 0))),
 (.wcall [] 85 (.sym 1) [(.cell 1 (.sym 2))] [true]),
 (.wcall [] 86 (.tget 1 (.sym 3)) [(.cell 2 (.sym 2))] [true])]
 (.ret (.tcons (.cons (.cell 0 (.sym 2)) (.cons (.tget 0 (.sym 3)) (.cons (.tget 0 (.sym 4)) .nil))) (.tcons (.tget 1 (.sym 4)) .tnil))))
noncomputable def e36:Entry:={ f:=36,kn:=.plain,cf:={ (autoCfg false ([85,86]++WRY) PNY [] [] Tryz.f36) with nils:=true,stk:=true },own:=false,ones:=[false],t:=t36 }
theorem ok36:EntOk Tryz.prog e36:=EntOk.ofPlain Tryz.func36 (by kernel_rfl) (by kernel_rfl)

noncomputable def t89:T:=(wrapBinds [(.ev (.aggN 6 (.sym 0))),
 (.call [] 42 (.sym 1) [(.cell 0 (.sym 2)),(ki 1),(ki 60)] [true]),
 (.ev (.un .not (.sym 3))),
 (.ev (.guard (.sym 4) false (.cell 1 (.sym 2)))),
 (.call [((.sym 4),false)] 42 (.sym 1) [(.sym 5),(ki 1),(ki 100000)] [true]),
 (.ev (.guard (.sym 4) false (.un .not (.sym 6)))),
 (.ev (.ite (.sym 4) (kb true) (.sym 7))),
 (.ev (.guard (.sym 8) false (.cell 2 (.sym 2)))),
 (.ev (.guard (.sym 8) false (.cell 0 (.sym 2)))),
 (.call [((.sym 8),false)] 42 (.sym 1) [(.sym 9),(ki 1),(.sym 10)] [true]),
 (.ev (.guard (.sym 8) false (.un .not (.sym 11)))),
 (.ev (.ite (.sym 8) (kb true) (.sym 12))),
 (.ev (.guard (.sym 13) false (.cell 3 (.sym 2)))),
 (.call [((.sym 13),false)] 42 (.sym 1) [(.sym 14),(ki 0),(ki 100000)] [true]),
 (.ev (.guard (.sym 13) false (.un .not (.sym 15)))),
 (.ev (.ite (.sym 13) (kb true) (.sym 16))),
 (.ev (.guard (.sym 17) false (.cell 4 (.sym 2)))),
 (.call [((.sym 17),false)] 42 (.sym 1) [(.sym 18),(ki 1),(ki 100000)] [true]),
 (.ev (.guard (.sym 17) false (.un .not (.sym 19)))),
 (.ev (.ite (.sym 17) (kb true) (.sym 20))),
 (.ev (.guard (.sym 21) false (.cell 5 (.sym 2)))),
 (.call [((.sym 21),false)] 42 (.sym 1) [(.sym 22),(ki 1),(ki 200)] [true]),
 (.ev (.guard (.sym 21) false (.un .not (.sym 23)))),
 (.ev (.ite (.sym 21) (kb true) (.sym 24)))]
 (.ite (.sym 25) (.ret (.tcons (.tcons (.const (.v (.pointer none))) (.tcons (ki 2) .tnil)) (.tcons (.sym 1) .tnil))) (wrapBinds [(.ev (.rep 24 (.cell 0 (.sym 2)) (.agg [(.v (.bool false)),(.v (.int .i64 0)),(.v (.bool false))]))),
 (.ev (.rep 24 (.cell 0 (.sym 2)) (.agg [(.v (.bool false)),(.v (.int .i64 0)),(.v (.bool false))]))),
 (.ev (.rep 32 (.cell 5 (.sym 2)) (.agg [(.v (.bool false)),(.v (.int .i64 0)),(.v (.int .i64 0)),(.v (.bool false)),(.v (.bool false))]))),
 (.ev (.cons (.aggN 6 (agc 6 (.sym 2))) (.cons (.const (.agg [(.v (.bool false)),(.v (.int .i64 0)),(.v (.bool false)),(.v (.bool false)),(.v (.int .i64 0)),(.v (.bool false))])) (.cons (kb false) (.cons (kb false) (.cons (kb false) .nil)))))),
 (.ev (.nn (.fstid (.newv 1000000000 5 (.newv 1000000000 3 (.newv 1000000000 3 (.sym 1) (.sym 26)) (.sym 27)) (.sym 28))))),
 (.ev (.padd 14 (.sym 30))),
 (.ev (.ld false 1 (.newb 1000000000 15 (.newv 1000000000 5 (.newv 1000000000 3 (.newv 1000000000 3 (.sym 1) (.sym 26)) (.sym 27)) (.sym 28)) (.cons (.cell 0 (.sym 29)) (.cons (.cell 1 (.sym 29)) (.cons (.cell 2 (.sym 29)) (.cons (.cell 3 (.sym 29)) (.cons (.cell 4 (.sym 29)) (.cons (.cell 5 (.sym 29)) (.cons (.cell 6 (.sym 29)) (.cons (.cell 7 (.sym 29)) (.cons (.cell 8 (.sym 29)) (.cons (.cell 9 (.sym 29)) (.cons (.cell 10 (.sym 29)) (.cons (.cell 11 (.sym 29)) (.cons (.fstsl (.sym 1) (.sym 26)) (.cons (.fstsl (.newv 1000000000 3 (.sym 1) (.sym 26)) (.sym 27)) (.cons (.fstsl (.newv 1000000000 3 (.newv 1000000000 3 (.sym 1) (.sym 26)) (.sym 27)) (.sym 28)) .nil)))))))))))))))) (.sym 31))),
 (.ev (.lenL (.sym 32)))]
 (.join 0 3 (.loop 1 [(ki 0),(.newb 1000000000 15 (.newv 1000000000 5 (.newv 1000000000 3 (.newv 1000000000 3 (.sym 1) (.sym 26)) (.sym 27)) (.sym 28)) (.cons (.cell 0 (.sym 29)) (.cons (.cell 1 (.sym 29)) (.cons (.cell 2 (.sym 29)) (.cons (.cell 3 (.sym 29)) (.cons (.cell 4 (.sym 29)) (.cons (.cell 5 (.sym 29)) (.cons (.cell 6 (.sym 29)) (.cons (.cell 7 (.sym 29)) (.cons (.cell 8 (.sym 29)) (.cons (.cell 9 (.sym 29)) (.cons (.cell 10 (.sym 29)) (.cons (.cell 11 (.sym 29)) (.cons (.fstsl (.sym 1) (.sym 26)) (.cons (.fstsl (.newv 1000000000 3 (.sym 1) (.sym 26)) (.sym 27)) (.cons (.fstsl (.newv 1000000000 3 (.newv 1000000000 3 (.sym 1) (.sym 26)) (.sym 27)) (.sym 28)) .nil))))))))))))))))] (wrapBinds [(.ev (.bin .lss .int (.sym 34) (.sym 33)))]
 (.ite (.sym 36) (.join 2 6 (wrapBinds [(.ev (.nn (.fstid (.newv 1000000000 5 (.newv 1000000000 3 (.newv 1000000000 3 (.sym 1) (.sym 26)) (.sym 27)) (.sym 28))))),
 (.ev (.padd 14 (.sym 37))),
 (.ev (.ld false 1 (.sym 35) (.sym 38))),
 (.ev (.eaddr 5 (.sym 39) (.sym 34))),
 (.ev (.padd 2 (.sym 40))),
 (.ev (.sto 1 (.sym 35) (.sym 41) (ki (-1))))]
 (.jump 2 [(.sym 37),(.sym 38),(.sym 39),(.sym 40),(.sym 41),(.sym 42)])) (wrapBinds [(.ev (.bin .add .int (.sym 34) (ki 1)))]
 (.jump 1 [(.sym 43),(.sym 42)]))) (.jump 0 [(.sym 34),(.sym 36),(.sym 35)])))) (.ret (.tcons (.tcons (.fstid (.newv 1000000000 5 (.newv 1000000000 3 (.newv 1000000000 3 (.sym 1) (.sym 26)) (.sym 27)) (.sym 28))) (.tcons (ki 0) .tnil)) (.tcons (.sym 36) .tnil)))))))
noncomputable def e89:Entry:={ f:=89,kn:=.plain,cf:={ (autoCfg false ([]++WRY) PNY [] [(4,1000045),(4,1000048),(4,1000051),(4,1000053)] Tryz.f89) with nils:=true,stk:=true },own:=false,ones:=[false],t:=t89 }
theorem ok89:EntOk Tryz.prog e89:=EntOk.ofPlain Tryz.func89 (by kernel_rfl) (by kernel_rfl)

noncomputable def t18:T:=(wrapBinds [(.ev (.aggN 30 (.sym 0))),
 (.wcall [] 37 (.sym 2) [(agc 30 (.sym 3))] [true,true])]
 (.join 0 5 (wrapBinds [(.ev (.bin .neq .int (.tget 1 (.tget 0 (.sym 4))) (ki 0)))]
 (.ite (.sym 5) (.ret (.tcons (.tcons (.const (.v (.string ⟨#[]⟩))) (.tcons (.tget 1 (.tget 0 (.sym 4))) .tnil)) (.tcons (.tget 1 (.sym 4)) .tnil))) (wrapBinds [(.ev (.lenS (.sym 1))),
 (.ev (.bin .gtr .int (.sym 6) (ki 50000)))]
 (.ite (.sym 7) (.ret (.tcons (.tcons (.const (.v (.string ⟨#[]⟩))) (.tcons (ki 4) .tnil)) (.tcons (.tget 1 (.sym 4)) .tnil))) (.jump 0 [(.sym 5),(.sym 5),(.sym 7),(.sym 6),(.sym 7)]))))) (wrapBinds [(.wcall [] 38 (.tget 1 (.sym 4)) [(.ifc 33 (.tget 0 (.tget 0 (.sym 4)))),(.sym 1)] [true])]
 (.ret (.tcons (.tcons (.tget 0 (.sym 10)) (.tcons (ki 0) .tnil)) (.tcons (.tget 1 (.sym 10)) .tnil))))))
noncomputable def e18:Entry:={ f:=18,kn:=.plain,cf:={ (autoCfg false ([]++WRY) PNY [] [] Tryz.f18) with nils:=true,stk:=true },own:=true,ones:=[false,true],t:=t18 }
theorem ok18:EntOk Tryz.prog e18:=EntOk.ofPlain Tryz.func18 (by kernel_rfl) (by kernel_rfl)

end Go.Am.Ra

/-
 Functions that the chapter's examples reach,as texts.
-/
namespace Go.Am.Ra
open Go.Proofs
set_option maxRecDepth 100000

noncomputable def t26:T:=(wrapBinds [(.call [] 41 (.sym 3) [(.sym 0)] [true]),
 (.ev (.un .not (.sym 4)))]
 (.ite (.sym 5) (.ret (.tcons (.tcons (.const (.lst [])) (.tcons (ki 1) .tnil)) (.tcons (.sym 3) .tnil))) (wrapBinds [(.ev (.nn (.sym 0))),
 (.ev (.padd 0 (.sym 6))),
 (.ev (.padd 5 (.sym 7))),
 (.ev (.ld false 1 (.sym 3) (.sym 8))),
 (.ev (.bin .sub .int (.sym 9) (ki 1))),
 (.call [] 42 (.sym 3) [(.sym 1),(ki 0),(.sym 10)] [true]),
 (.ev (.un .not (.sym 11))),
 (.call [((.sym 12),false)] 42 (.sym 3) [(.sym 2),(ki 0),(ki 100000)] [true]),
 (.ev (.guard (.sym 12) false (.un .not (.sym 13)))),
 (.ev (.ite (.sym 12) (kb true) (.sym 14)))]
 (.ite (.sym 15) (.ret (.tcons (.tcons (.const (.lst [])) (.tcons (ki 2) .tnil)) (.tcons (.sym 3) .tnil))) (wrapBinds [(.ev (.mkfn 43 (.tcons (.sym 0) .tnil) .tnil)),
 (.ev (.mkfn 44 (.tcons (.sym 0) .tnil) .tnil)),
 (.ev (.mkfn 45 (.tcons (.sym 0) .tnil) .tnil)),
 (.ev (.mkfn 46 (.tcons (.sym 0) .tnil) .tnil)),
 (.ev (.mkfn 47 (.tcons (.sym 0) .tnil) .tnil)),
 (.ev (.mkfn 48 (.tcons (.sym 0) .tnil) .tnil)),
 (.ev (.mkfn 49 (.tcons (.sym 0) .tnil) .tnil)),
 (.ev (.mkfn 50 (.tcons (.sym 0) .tnil) .tnil)),
 (.ev (.lcons (.scal (.sym 16)) (.lcons (.scal (.sym 17)) (.lcons (.scal (.sym 18)) (.lcons (.scal (.sym 19)) (.lcons (.scal (.sym 20)) (.lcons (.scal (.sym 21)) (.lcons (.scal (.sym 22)) (.lcons (.scal (.sym 23)) (.const (.lst []))))))))))),
 (.ev (.lenL (.sym 24)))]
 (.join 0 3 (.loop 1 [(.const (.lst [])),(ki 0)] (wrapBinds [(.ev (.bin .lss .int (.sym 27) (.sym 25)))]
 (.ite (.sym 28) (.join 2 6 (wrapBinds [(.ev (.eaddr 1 (.sym 24) (.sym 27))),
 (.ev (.ld false 1 (.sym 3) (.sym 29))),
 (.callv [] (.sym 30) (.sym 3) [(.sym 1),(.sym 2)] [true])]
 (.join 3 1 (.ite (.sym 31) (wrapBinds [(.ev (.bin .add .int (ki 1) (.sym 27))),
 (.ev (.lcons (.scal (.sym 32)) (.const (.lst [])))),
 (.ev (.app 1 8 (.sym 26) (.sym 33)))]
 (.jump 3 [(.sym 34)])) (.jump 3 [(.sym 26)])) (.jump 2 [(.sym 32),(.sym 30),(.sym 29),(.sym 30),(.sym 30),(.sym 31)]))) (wrapBinds [(.ev (.bin .add .int (.sym 27) (ki 1)))]
 (.jump 1 [(.sym 29),(.sym 35)]))) (.jump 0 [(.sym 26),(.sym 27),(.sym 28)])))) (.ret (.tcons (.tcons (.sym 26) (.tcons (ki 0) .tnil)) (.tcons (.sym 3) .tnil)))))))))
noncomputable def e26:Entry:={ f:=26,kn:=.plain,cf:={ (autoCfg true ([]++WRY) PNY [] [] Tryz.f26) with nils:=true,stk:=true },own:=false,ones:=[true,true,true],t:=t26 }
theorem ok26:EntOk Tryz.prog e26:=EntOk.ofPlain Tryz.func26 (by kernel_rfl) (by kernel_rfl)

noncomputable def t48:T:=(wrapBinds [(.ev (.mkptr (.cons (.scal (.sym 0)) .nil))),
 (.ev (.mkptr (.cons (.scal (.sym 2)) .nil))),
 (.ev (.ld false 1 (.sym 3) (.sym 4))),
 (.ev (.mkfn 106 .tnil (.tcons (.sym 4) (.tcons (.sym 5) .tnil)))),
 (.call [] 104 (.sym 3) [(.sym 6),(.sym 7)] [true])]
 (.ret (.tcons (.sym 8) (.tcons (.sym 3) .tnil))))
noncomputable def e48:Entry:={ f:=48,kn:=.plain,cf:={ (autoCfg true ([]++WRY) PNY [] [] Tryz.f48) with nils:=true,stk:=true },own:=false,ones:=[true,true,true],t:=t48 }
theorem ok48:EntOk Tryz.prog e48:=EntOk.ofPlain Tryz.func48 (by kernel_rfl) (by kernel_rfl)

noncomputable def t51:T:=(wrapBinds [(.call [] 110 (.sym 4) [(.sym 0)] [true]),
 (.ev (.un .not (.sym 5)))]
 (.ite (.sym 6) (.ret (.tcons (ki 1) (.tcons (.sym 4) .tnil))) (wrapBinds [(.ev (.nn (.sym 0))),
 (.ev (.padd 0 (.sym 7))),
 (.ev (.padd 0 (.sym 8))),
 (.ev (.ld false 1 (.sym 4) (.sym 9))),
 (.call [] 111 (.sym 4) [(.sym 1),(ki 1),(.sym 10)] [true]),
 (.ev (.un .not (.sym 11))),
 (.ev (.guard (.sym 12) false (.nn (.sym 0)))),
 (.ev (.guard (.sym 12) false (.padd 0 (.sym 13)))),
 (.ev (.guard (.sym 12) false (.padd 1 (.sym 14)))),
 (.ev (.guard (.sym 12) false (.ld false 1 (.sym 4) (.sym 15)))),
 (.ev (.guard (.sym 12) false (.bin .sub .int (.sym 16) (ki 1)))),
 (.call [((.sym 12),false)] 111 (.sym 4) [(.sym 2),(ki 0),(.sym 17)] [true]),
 (.ev (.guard (.sym 12) false (.un .not (.sym 18)))),
 (.ev (.ite (.sym 12) (kb true) (.sym 19))),
 (.call [((.sym 20),false)] 111 (.sym 4) [(.sym 3),(ki 0),(ki 1000000000000)] [true]),
 (.ev (.guard (.sym 20) false (.un .not (.sym 21)))),
 (.ev (.ite (.sym 20) (kb true) (.sym 22)))]
 (.ite (.sym 23) (.ret (.tcons (ki 2) (.tcons (.sym 4) .tnil))) (.ret (.tcons (ki 0) (.tcons (.sym 4) .tnil)))))))
noncomputable def e51:Entry:={ f:=51,kn:=.plain,cf:={ (autoCfg true ([]++WRY) PNY [] [] Tryz.f51) with nils:=true,stk:=true },own:=false,ones:=[true,true,true,true],t:=t51 }
theorem ok51:EntOk Tryz.prog e51:=EntOk.ofPlain Tryz.func51 (by kernel_rfl) (by kernel_rfl)

noncomputable def t22:T:=(wrapBinds [(.call [] 39 (.sym 1) [(.sym 0),(ki 16)] [true]),
 (.ev (.lenS (.sym 2))),
 (.ev (.bin .sub .int (ki 16) (.sym 3))),
 (.call [] 40 (.sym 1) [(.const (.v (.string ⟨#[48]⟩))),(.sym 4)] [true]),
 (.ev (.bin .add .str (.sym 5) (.sym 2)))]
 (.ret (.tcons (.sym 6) (.tcons (.sym 1) .tnil))))
noncomputable def e22:Entry:={ f:=22,kn:=.plain,cf:={ (autoCfg true ([]++WRY) PNY [] [] Tryz.f22) with nils:=true,stk:=true },own:=false,ones:=[true],t:=t22 }
theorem ok22:EntOk Tryz.prog e22:=EntOk.ofPlain Tryz.func22 (by kernel_rfl) (by kernel_rfl)

noncomputable def t34:T:=(wrapBinds [(.ev (.lenL (.sym 0))),
 (.ev (.bin .gtr .int (.sym 3) (ki 0)))]
 (.join 0 1 (.ite (.sym 4) (wrapBinds [(.ev (.bin .sub .int (.sym 3) (ki 1))),
 (.ev (.eaddr 2 (.sym 0) (.sym 5))),
 (.ev (.padd 1 (.sym 6))),
 (.ev (.ld false 1 (.sym 2) (.sym 7))),
 (.call [] 84 (.sym 2) [(.sym 8),(ki 16),(ki 64)] [true,true])]
 (.jump 0 [(.tget 0 (.sym 9))])) (.jump 0 [(.const (.v (.int .u64 14695981039346656037)))])) (wrapBinds [(.call [] 21 (.sym 2) [(.sym 5),(.sym 1)] [true]),
 (.call [] 22 (.sym 2) [(.sym 6)] [true])]
 (.ret (.tcons (.sym 7) (.tcons (.sym 2) .tnil))))))
noncomputable def e34:Entry:={ f:=34,kn:=.plain,cf:={ (autoCfg true ([]++WRY) PNY [] [] Tryz.f34) with nils:=true,stk:=true },own:=false,ones:=[true,true],t:=t34 }
theorem ok34:EntOk Tryz.prog e34:=EntOk.ofPlain Tryz.func34 (by kernel_rfl) (by kernel_rfl)

noncomputable def t39:T:=(wrapBinds [(.call [] 96 (.sym 2) [(.sym 0),(.sym 1)] [true])]
 (.ret (.tcons (.sym 3) (.tcons (.sym 2) .tnil))))
noncomputable def e39:Entry:={ f:=39,kn:=.plain,cf:={ (autoCfg true ([]++WRY) PNY [] [] Tryz.f39) with nils:=true,stk:=true },own:=false,ones:=[true,true],t:=t39 }
theorem ok39:EntOk Tryz.prog e39:=EntOk.ofPlain Tryz.func39 (by kernel_rfl) (by kernel_rfl)

noncomputable def t88:T:=(wrapBinds [(.ev (.aggN 30 (.sym 0))),
 (.call [] 85 (.sym 1) [(.cell 8 (.sym 2))] [true]),
 (.call [] 168 (.sym 1) [(.cell 9 (.sym 2))] [true]),
 (.call [] 169 (.sym 1) [(.cell 10 (.sym 2))] [true]),
 (.call [] 85 (.sym 1) [(.cell 16 (.sym 2))] [true]),
 (.call [] 85 (.sym 1) [(.cell 22 (.sym 2))] [true]),
 (.call [] 85 (.sym 1) [(.cell 23 (.sym 2))] [true]),
 (.call [] 170 (.sym 1) [(.cell 25 (.sym 2))] [true])]
 (.ret (.tcons (.cons (.cell 0 (.sym 2)) (.cons (.cell 1 (.sym 2)) (.cons (.cell 2 (.sym 2)) (.cons (.cell 3 (.sym 2)) (.cons (.cell 4 (.sym 2)) (.cons (.cell 5 (.sym 2)) (.cons (.cell 6 (.sym 2)) (.cons (.cell 7 (.sym 2)) (.cons (.sym 3) (.cons (.sym 4) (.cons (.sym 5) (.cons (.cell 11 (.sym 2)) (.cons (.cell 12 (.sym 2)) (.cons (.cell 13 (.sym 2)) (.cons (.cell 14 (.sym 2)) (.cons (.cell 15 (.sym 2)) (.cons (.sym 6) (.cons (.cell 17 (.sym 2)) (.cons (.cell 18 (.sym 2)) (.cons (.cell 19 (.sym 2)) (.cons (.cell 20 (.sym 2)) (.cons (.cell 21 (.sym 2)) (.cons (.sym 7) (.cons (.sym 8) (.cons (.cell 24 (.sym 2)) (.cons (.sym 9) (.cons (.cell 26 (.sym 2)) (.cons (.cell 27 (.sym 2)) (.cons (.cell 28 (.sym 2)) (.cons (.cell 29 (.sym 2)) .nil)))))))))))))))))))))))))))))) (.tcons (.sym 1) .tnil))))
noncomputable def e88:Entry:={ f:=88,kn:=.plain,cf:={ (autoCfg true ([]++WRY) PNY [] [] Tryz.f88) with nils:=true,stk:=true },own:=false,ones:=[false],t:=t88 }
theorem ok88:EntOk Tryz.prog e88:=EntOk.ofPlain Tryz.func88 (by kernel_rfl) (by kernel_rfl)

noncomputable def t95:T:=(wrapBinds [(.ev (.nn (.sym 0))),
 (.ev (.padd 1 (.sym 2))),
 (.ev (.ld false 1 (.sym 1) (.sym 3))),
 (.ev (.m4 .usd (.sym 4) .nil .nil .nil)),
 (.ev (.nn (.sym 0))),
 (.ev (.padd 1 (.sym 6))),
 (.ev (.ld false 1 (.sym 1) (.sym 7))),
 (.ev (.lenL (.sym 8))),
 (.ev (.m4 (.ustrh 5) (.sym 1) (.sym 5) (.sym 9) .nil))]
 (.ret (.tcons (.m4 (.ustr 5) (.sym 1) (.sym 5) (.sym 9) .nil) (.tcons (.sym 10) .tnil))))
noncomputable def e95:Entry:={ f:=95,kn:=.plain,cf:={ (autoCfg false ([]++WRY) PNY [] [] Tryz.f95) with nils:=true,stk:=true },own:=false,ones:=[true],t:=t95 }
theorem ok95:EntOk Tryz.prog e95:=EntOk.ofPlain Tryz.func95 (by kernel_rfl) (by kernel_rfl)

noncomputable def t102:T:=(wrapBinds [(.ev (.aggN 3 (.sym 0)))]
 (.ret (.tcons (.cell 0 (.sym 2)) (.tcons (.sym 1) .tnil))))
noncomputable def e102:Entry:={ f:=102,kn:=.plain,cf:={ (autoCfg true ([]++WRY) PNY [] [] Tryz.f102) with nils:=true,stk:=true },own:=false,ones:=[false],t:=t102 }
theorem ok102:EntOk Tryz.prog e102:=EntOk.ofPlain Tryz.func102 (by kernel_rfl) (by kernel_rfl)

noncomputable def t167:T:=(wrapBinds [(.call [] 231 (.sym 2) [(.sym 0),(.sym 1)] [true]),
 (.ev (.bin .geq .int (.sym 3) (ki 0)))]
 (.ret (.tcons (.sym 4) (.tcons (.sym 2) .tnil))))
noncomputable def e167:Entry:={ f:=167,kn:=.plain,cf:={ (autoCfg true ([]++WRY) PNY [] [] Tryz.f167) with nils:=true,stk:=true },own:=false,ones:=[true,true],t:=t167 }
theorem ok167:EntOk Tryz.prog e167:=EntOk.ofPlain Tryz.func167 (by kernel_rfl) (by kernel_rfl)

noncomputable def t168:T:=(.nilq (.sym 0) false (.ite (.sym 2) (.ret (.tcons (.const (.lst [])) (.tcons (.sym 1) .tnil))) (wrapBinds [(.ev (.const (.lst []))),
 (.ev (.app 2 16 (.sym 3) (.sym 0)))]
 (.ret (.tcons (.sym 4) (.tcons (.sym 1) .tnil))))))
noncomputable def e168:Entry:={ f:=168,kn:=.plain,cf:={ (autoCfg true ([]++WRY) PNY [] [] Tryz.f168) with nils:=true,stk:=true },own:=false,ones:=[true],t:=t168 }
theorem ok168:EntOk Tryz.prog e168:=EntOk.ofPlain Tryz.func168 (by kernel_rfl) (by kernel_rfl)

noncomputable def t178:T:=(wrapBinds [(.ev (.bin .lss .int (.sym 2) (ki 2))),
 (.ev (.guard (.sym 6) false (.bin .eql .int (.sym 2) (ki 10)))),
 (.ev (.ite (.sym 6) (kb true) (.sym 7))),
 (.ev (.guard (.sym 8) false (.bin .gtr .int (.sym 2) (ki 36)))),
 (.ev (.ite (.sym 8) (kb true) (.sym 9)))]
 (.join 0 0 (.ite (.sym 10) (.pan (.m4 .isifc (.ifc 9 (.const (.v (.string ⟨#[115,116,114,99,111,110,118,58,32,105,108,108,101,103,97,108,32,65,112,112,101,110,100,73,110,116,47,70,111,114,109,97,116,73,110,116,32,98,97,115,101]⟩)))) .nil .nil .nil) (.sym 5) [] []) (.jump 0 [])) (wrapBinds [(.ev (.newb 344 65 (.sym 5) (.const (.agg [(.v (.int .u8 0)),(.v (.int .u8 0)),(.v (.int .u8 0)),(.v (.int .u8 0)),(.v (.int .u8 0)),(.v (.int .u8 0)),(.v (.int .u8 0)),(.v (.int .u8 0)),(.v (.int .u8 0)),(.v (.int .u8 0)),(.v (.int .u8 0)),(.v (.int .u8 0)),(.v (.int .u8 0)),(.v (.int .u8 0)),(.v (.int .u8 0)),(.v (.int .u8 0)),(.v (.int .u8 0)),(.v (.int .u8 0)),(.v (.int .u8 0)),(.v (.int .u8 0)),(.v (.int .u8 0)),(.v (.int .u8 0)),(.v (.int .u8 0)),(.v (.int .u8 0)),(.v (.int .u8 0)),(.v (.int .u8 0)),(.v (.int .u8 0)),(.v (.int .u8 0)),(.v (.int .u8 0)),(.v (.int .u8 0)),(.v (.int .u8 0)),(.v (.int .u8 0)),(.v (.int .u8 0)),(.v (.int .u8 0)),(.v (.int .u8 0)),(.v (.int .u8 0)),(.v (.int .u8 0)),(.v (.int .u8 0)),(.v (.int .u8 0)),(.v (.int .u8 0)),(.v (.int .u8 0)),(.v (.int .u8 0)),(.v (.int .u8 0)),(.v (.int .u8 0)),(.v (.int .u8 0)),(.v (.int .u8 0)),(.v (.int .u8 0)),(.v (.int .u8 0)),(.v (.int .u8 0)),(.v (.int .u8 0)),(.v (.int .u8 0)),(.v (.int .u8 0)),(.v (.int .u8 0)),(.v (.int .u8 0)),(.v (.int .u8 0)),(.v (.int .u8 0)),(.v (.int .u8 0)),(.v (.int .u8 0)),(.v (.int .u8 0)),(.v (.int .u8 0)),(.v (.int .u8 0)),(.v (.int .u8 0)),(.v (.int .u8 0)),(.v (.int .u8 0)),(.v (.int .u8 0))]))))]
 (.join 0 1 (.ite (.sym 3) (wrapBinds [(.ev (.un .neg (.sym 1)))]
 (.jump 0 [(.sym 12)])) (.jump 0 [(.sym 1)])) (wrapBinds [(.call [] 243 (.sym 11) [(.sym 2)] [true])]
 (.join 0 3 (.ite (.sym 13) (wrapBinds [(.ev (.conv .u64 (.sym 2))),
 (.call [] 244 (.sym 11) [(.sym 14)] [true]),
 (.ev (.conv .u64 (.sym 15))),
 (.ev (.conv .u64 (.sym 2))),
 (.ev (.conv .u64 (.sym 2))),
 (.ev (.bin .sub .int (.sym 18) (.const (.v (.int .u64 1)))))]
 (.join 1 5 (.loop 2 [(.sym 12),(ki 65),(.sym 11)] (wrapBinds [(.ev (.bin .geq .int (.sym 20) (.sym 17)))]
 (.ite (.sym 23) (.join 3 9 (wrapBinds [(.ev (.bin .sub .int (.sym 21) (ki 1))),
 (.ev (.bin .and .int (.sym 20) (.sym 19))),
 (.ev (.m4 .sidx (.const (.v (.string ⟨#[48,49,50,51,52,53,54,55,56,57,97,98,99,100,101,102,103,104,105,106,107,108,109,110,111,112,113,114,115,116,117,118,119,120,121,122]⟩))) (.sym 25) .nil .nil)),
 (.ev (.m4 (.elemA 65 1) (.fstid (.sym 5)) (.sym 24) .nil .nil)),
 (.ev (.sto 1 (.sym 22) (.sym 27) (.sym 26))),
 (.ev (.bin .shr .int (.sym 20) (.sym 16)))]
 (.jump 3 [(.sym 29),(.sym 24),(.sym 24),(.sym 24),(.sym 25),(.sym 26),(.sym 27),(.sym 29),(.sym 28)])) (.jump 2 [(.sym 24),(.sym 25),(.sym 32)])) (.jump 1 [(.sym 20),(.sym 21),(.sym 20),(.sym 23),(.sym 22)])))) (wrapBinds [(.ev (.bin .sub .int (.sym 21) (ki 1))),
 (.ev (.m4 .sidx (.const (.v (.string ⟨#[48,49,50,51,52,53,54,55,56,57,97,98,99,100,101,102,103,104,105,106,107,108,109,110,111,112,113,114,115,116,117,118,119,120,121,122]⟩))) (.sym 20) .nil .nil)),
 (.ev (.m4 (.elemA 65 1) (.fstid (.sym 5)) (.sym 25) .nil .nil)),
 (.ev (.sto 1 (.sym 24) (.sym 27) (.sym 26)))]
 (.jump 0 [(.sym 20),(.sym 25),(.sym 28)])))) (wrapBinds [(.ev (.conv .u64 (.sym 2)))]
 (.join 1 5 (.loop 2 [(.sym 12),(ki 65),(.sym 11)] (wrapBinds [(.ev (.bin .geq .int (.sym 15) (.sym 14)))]
 (.ite (.sym 18) (.join 3 13 (wrapBinds [(.ev (.bin .sub .int (.sym 16) (ki 1))),
 (.ev (.bin .quo .int (.sym 15) (.sym 14))),
 (.ev (.bin .mul .int (.sym 20) (.sym 14))),
 (.ev (.bin .sub .int (.sym 15) (.sym 21))),
 (.ev (.m4 .sidx (.const (.v (.string ⟨#[48,49,50,51,52,53,54,55,56,57,97,98,99,100,101,102,103,104,105,106,107,108,109,110,111,112,113,114,115,116,117,118,119,120,121,122]⟩))) (.sym 22) .nil .nil)),
 (.ev (.m4 (.elemA 65 1) (.fstid (.sym 5)) (.sym 19) .nil .nil)),
 (.ev (.sto 1 (.sym 17) (.sym 24) (.sym 23)))]
 (.jump 3 [(.sym 20),(.sym 19),(.sym 20),(.sym 19),(.sym 20),(.sym 19),(.sym 20),(.sym 21),(.sym 22),(.sym 23),(.sym 24),(.sym 20),(.sym 25)])) (.jump 2 [(.sym 19),(.sym 20),(.sym 31)])) (.jump 1 [(.sym 15),(.sym 16),(.sym 15),(.sym 18),(.sym 17)])))) (wrapBinds [(.ev (.bin .sub .int (.sym 16) (ki 1))),
 (.ev (.m4 .sidx (.const (.v (.string ⟨#[48,49,50,51,52,53,54,55,56,57,97,98,99,100,101,102,103,104,105,106,107,108,109,110,111,112,113,114,115,116,117,118,119,120,121,122]⟩))) (.sym 15) .nil .nil)),
 (.ev (.m4 (.elemA 65 1) (.fstid (.sym 5)) (.sym 20) .nil .nil)),
 (.ev (.sto 1 (.sym 19) (.sym 22) (.sym 21)))]
 (.jump 0 [(.sym 15),(.sym 20),(.sym 23)]))))) (.join 0 2 (.ite (.sym 3) (wrapBinds [(.ev (.bin .sub .int (.sym 15) (ki 1))),
 (.ev (.m4 (.elemA 65 1) (.fstid (.sym 5)) (.sym 17) .nil .nil)),
 (.ev (.sto 1 (.sym 16) (.sym 18) (.const (.v (.int .u8 45)))))]
 (.jump 0 [(.sym 17),(.sym 19)])) (.jump 0 [(.sym 15),(.sym 16)])) (.ite (.sym 4) (wrapBinds [(.ev (.m4 (.asl 65 1) (.fstid (.sym 5)) (.sym 17) .nil .nil)),
 (.ev (.apph 5 1 1 (.sym 18) (.sym 0) (.sym 19)))]
 (.ret (.tcons (.tcons (.apps (.sym 18) (.sym 0) (.sym 19)) (.tcons (.const (.v (.string ⟨#[]⟩))) .tnil)) (.tcons (.sym 20) .tnil)))) (wrapBinds [(.ev (.m4 (.asl 65 1) (.fstid (.sym 5)) (.sym 17) .nil .nil)),
 (.ev (.m4 .bstrh (.sym 18) (.sym 19) .nil .nil))]
 (.ret (.tcons (.tcons (.const (.lst [])) (.tcons (.sym 20) .tnil)) (.tcons (.sym 18) .tnil))))))))))))
noncomputable def e178:Entry:={ f:=178,kn:=.plain,cf:={ (autoCfg false ([]++WRY) PNY [12,101] [] Tryz.f178) with nils:=true,stk:=true },own:=true,ones:=[true,true,true,true,true],t:=t178 }
theorem ok178:EntOk Tryz.prog e178:=EntOk.ofPlain Tryz.func178 (by kernel_rfl) (by kernel_rfl)

noncomputable def t190:T:=(wrapBinds [(.ev (.bin .geq .int (.sym 0) (.sym 1))),
 (.ev (.guard (.sym 4) true (.bin .leq .int (.sym 0) (.sym 2)))),
 (.ev (.ite (.sym 4) (.sym 5) (kb false)))]
 (.ret (.tcons (.sym 6) (.tcons (.sym 3) .tnil))))
noncomputable def e190:Entry:={ f:=190,kn:=.plain,cf:={ (autoCfg true ([]++WRY) PNY [] [] Tryz.f190) with nils:=true,stk:=true },own:=false,ones:=[true,true,true],t:=t190 }
theorem ok190:EntOk Tryz.prog e190:=EntOk.ofPlain Tryz.func190 (by kernel_rfl) (by kernel_rfl)

noncomputable def t224:T:=(wrapBinds [(.ev (.bin .or .int (.sym 0) (.const (.v (.int .u8 32)))))]
 (.ret (.tcons (.sym 2) (.tcons (.sym 1) .tnil))))
noncomputable def e224:Entry:={ f:=224,kn:=.plain,cf:={ (autoCfg true ([]++WRY) PNY [] [] Tryz.f224) with nils:=true,stk:=true },own:=false,ones:=[true],t:=t224 }
theorem ok224:EntOk Tryz.prog e224:=EntOk.ofPlain Tryz.func224 (by kernel_rfl) (by kernel_rfl)

noncomputable def t230:T:=(wrapBinds [(.ev (.lenL (.sym 0)))]
 (.join 0 2 (.loop 1 [(ki 0)] (wrapBinds [(.ev (.bin .lss .int (.sym 3) (.sym 2)))]
 (.ite (.sym 4) (.join 2 5 (wrapBinds [(.ev (.eaddr 1 (.sym 0) (.sym 3))),
 (.ev (.ld false 1 (.sym 1) (.sym 5))),
 (.ev (.bin .neq .int (.sym 6) (ki 0)))]
 (.ite (.sym 7) (.ret (.tcons (.sym 6) (.tcons (.sym 1) .tnil))) (.jump 2 [(.sym 6),(.sym 5),(.sym 6),(.sym 6),(.sym 7)]))) (wrapBinds [(.ev (.bin .add .int (.sym 3) (ki 1)))]
 (.jump 1 [(.sym 10)]))) (.jump 0 [(.sym 3),(.sym 4)])))) (.ret (.tcons (ki 0) (.tcons (.sym 1) .tnil)))))
noncomputable def e230:Entry:={ f:=230,kn:=.plain,cf:={ (autoCfg true ([]++WRY) PNY [] [] Tryz.f230) with nils:=true,stk:=true },own:=false,ones:=[true],t:=t230 }
theorem ok230:EntOk Tryz.prog e230:=EntOk.ofPlain Tryz.func230 (by kernel_rfl) (by kernel_rfl)

noncomputable def t244:T:=(.ite (kb false) (wrapBinds [(.ev (.conv .u32 (.sym 0))),
 (.call [] 285 (.sym 1) [(.sym 2)] [true])]
 (.ret (.tcons (.sym 3) (.tcons (.sym 1) .tnil)))) (wrapBinds [(.call [] 286 (.sym 1) [(.sym 0)] [true])]
 (.ret (.tcons (.sym 2) (.tcons (.sym 1) .tnil)))))
noncomputable def e244:Entry:={ f:=244,kn:=.plain,cf:={ (autoCfg true ([]++WRY) PNY [] [] Tryz.f244) with nils:=true,stk:=true },own:=false,ones:=[true],t:=t244 }
theorem ok244:EntOk Tryz.prog e244:=EntOk.ofPlain Tryz.func244 (by kernel_rfl) (by kernel_rfl)

noncomputable def t273:T:=(wrapBinds [(.ev (.aggN 7 (.sym 0))),
 (.ev (.ld false 1 (.sym 2) (.sym 1))),
 (.call [] 274 (.sym 2) [(.sym 4),(agc 7 (.sym 3))] [true]),
 (.ev (.un .not (.sym 5)))]
 (.ret (.tcons (.sym 6) (.tcons (.sym 2) .tnil))))
noncomputable def e273:Entry:={ f:=273,kn:=.plain,cf:={ (autoCfg true ([]++WRY) PNY [] [] Tryz.f273) with nils:=true,stk:=true },own:=false,ones:=[false,true],t:=t273 }
theorem ok273:EntOk Tryz.prog e273:=EntOk.ofPlain Tryz.func273 (by kernel_rfl) (by kernel_rfl)

noncomputable def t305:T:=(wrapBinds [(.ev (.lenL (.sym 0)))]
 (.join 0 2 (.loop 1 [(ki 0)] (wrapBinds [(.ev (.bin .lss .int (.sym 4) (.sym 3)))]
 (.ite (.sym 5) (.join 2 3 (wrapBinds [(.ev (.eaddr 7 (.sym 0) (.sym 4))),
 (.ev (.ld true 7 (.sym 2) (.sym 6))),
 (.callv [] (.sym 1) (.sym 2) [(.sym 7)] [true])]
 (.ite (.sym 8) (.ret (.tcons (.sym 4) (.tcons (.sym 2) .tnil))) (.jump 2 [(.sym 6),(.sym 7),(.sym 8)]))) (wrapBinds [(.ev (.bin .add .int (.sym 4) (ki 1)))]
 (.jump 1 [(.sym 9)]))) (.jump 0 [(.sym 4),(.sym 5)])))) (.ret (.tcons (ki (-1)) (.tcons (.sym 2) .tnil)))))
noncomputable def e305:Entry:={ f:=305,kn:=.plain,cf:={ (autoCfg true ([]++WRY) PNY [] [] Tryz.f305) with nils:=true,stk:=true },own:=false,ones:=[true,true],t:=t305 }
theorem ok305:EntOk Tryz.prog e305:=EntOk.ofPlain Tryz.func305 (by kernel_rfl) (by kernel_rfl)

noncomputable def t148:T:=(wrapBinds [(.ev (.aggN 2 (.sym 1)))]
 (.join 0 3 (wrapBinds [(.ev (.bin .eql .str (.cell 0 (.sym 3)) (.const (.v (.string ⟨#[112,111,115,116]⟩)))))]
 (.join 1 1 (.ite (.sym 4) (.jump 1 [(.sym 4)]) (wrapBinds [(.ev (.bin .eql .str (.cell 0 (.sym 3)) (.const (.v (.string ⟨#[114,101,100]⟩)))))]
 (.join 2 1 (.ite (.sym 5) (.jump 2 [(.sym 5)]) (wrapBinds [(.ev (.bin .eql .str (.cell 0 (.sym 3)) (.const (.v (.string ⟨#[103,114,101,101,110]⟩)))))]
 (.jump 2 [(.sym 6)]))) (.jump 1 [(.sym 6)])))) (.join 1 1 (.ite (.sym 5) (.wpcall 211 (.sym 2) [(agc 2 (.sym 3)),(ki 2)] [true] [] [] (wrapBinds [(.ev (.m4 .newm (.tget 1 (.sym 6)) .nil .nil .nil)),
 (.ev (.m4 (.put .str) (.sym 7) (.m4 .fstm (.tget 1 (.sym 6)) .nil .nil .nil) (.const (.v (.string ⟨#[112,111,115,116]⟩))) (ki 3))),
 (.ev (.m4 (.put .str) (.sym 8) (.m4 .fstm (.tget 1 (.sym 6)) .nil .nil .nil) (.const (.v (.string ⟨#[114,101,100]⟩))) (ki 4))),
 (.ev (.m4 (.put .str) (.sym 9) (.m4 .fstm (.tget 1 (.sym 6)) .nil .nil .nil) (.const (.v (.string ⟨#[103,114,101,101,110]⟩))) (ki 5))),
 (.ev (.m4 (.get .str false) (.sym 10) (.m4 .fstm (.tget 1 (.sym 6)) .nil .nil .nil) (.cell 0 (.sym 3)) (ki 0))),
 (.ev (.nn (.sym 0))),
 (.ev (.padd 30 (.sym 12))),
 (.ev (.ld false 1 (.sym 10) (.sym 13))),
 (.ev (.eaddr 1 (.tget 0 (.sym 6)) (ki 0))),
 (.ev (.ld false 1 (.sym 10) (.sym 15))),
 (.ev (.eaddr 1 (.tget 0 (.sym 6)) (ki 1))),
 (.ev (.ld false 1 (.sym 10) (.sym 17))),
 (.ev (.cons (.scal (.sym 11)) (.cons (.scal (.sym 18)) (.cons (.scal (.sym 16)) (.cons (.const (.agg [(.v (.int .i64 0))])) .nil))))),
 (.wcall [] 213 (.sym 10) [(.sym 14),(.sym 19)] [true])]
 (.pcall 212 (.tget 1 (.sym 20)) [(.tget 0 (.sym 20))] [] [] [] (.jump 1 [(.tget 1 (.sym 20))])))) (.wpcall 211 (.sym 2) [(agc 2 (.sym 3)),(ki 1)] [true] [] [] (wrapBinds [(.ev (.m4 .newm (.tget 1 (.sym 6)) .nil .nil .nil)),
 (.ev (.m4 (.put .str) (.sym 7) (.m4 .fstm (.tget 1 (.sym 6)) .nil .nil .nil) (.const (.v (.string ⟨#[111,112,101,110]⟩))) (ki 1))),
 (.ev (.m4 (.put .str) (.sym 8) (.m4 .fstm (.tget 1 (.sym 6)) .nil .nil .nil) (.const (.v (.string ⟨#[99,108,111,115,101]⟩))) (ki 2))),
 (.ev (.m4 (.put .str) (.sym 9) (.m4 .fstm (.tget 1 (.sym 6)) .nil .nil .nil) (.const (.v (.string ⟨#[99,111,118,101,114,101,100]⟩))) (ki 6))),
 (.ev (.m4 (.put .str) (.sym 10) (.m4 .fstm (.tget 1 (.sym 6)) .nil .nil .nil) (.const (.v (.string ⟨#[117,110,99,111,118,101,114,101,100]⟩))) (ki 7))),
 (.ev (.m4 (.get .str false) (.sym 11) (.m4 .fstm (.tget 1 (.sym 6)) .nil .nil .nil) (.cell 0 (.sym 3)) (ki 0))),
 (.ev (.nn (.sym 0))),
 (.ev (.padd 30 (.sym 13))),
 (.ev (.ld false 1 (.sym 11) (.sym 14))),
 (.ev (.eaddr 1 (.tget 0 (.sym 6)) (ki 0))),
 (.ev (.ld false 1 (.sym 11) (.sym 16))),
 (.ev (.cons (.scal (.sym 12)) (.cons (.scal (.sym 17)) (.cons (.const (.agg [(.v (.int .i64 0))])) (.cons (.const (.agg [(.v (.int .i64 0))])) .nil))))),
 (.wcall [] 213 (.sym 11) [(.sym 15),(.sym 18)] [true])]
 (.pcall 212 (.tget 1 (.sym 19)) [(.tget 0 (.sym 19))] [] [] [] (.jump 1 [(.tget 1 (.sym 19))]))))) (.jump 0 [(.sym 5),(.sym 4),(.sym 6)])))) (.ret (.tcons .tnil (.tcons (.sym 6) .tnil)))))
noncomputable def e148:Entry:={ f:=148,kn:=.plain,cf:={ (autoCfg false ([211]++WRY) PNY [] [] Tryz.f148) with nils:=true,stk:=true },own:=false,ones:=[true,false],t:=t148 }
theorem ok148:EntOk Tryz.prog e148:=EntOk.ofPlain Tryz.func148 (by kernel_rfl) (by kernel_rfl)

noncomputable def t150:T:=(wrapBinds [(.ev (.aggN 2 (.sym 1)))]
 (.wpcall 211 (.sym 2) [(agc 2 (.sym 3)),(ki 2)] [true] [] [] (wrapBinds [(.ev (.nn (.sym 0))),
 (.ev (.padd 30 (.sym 5))),
 (.ev (.ld false 1 (.tget 1 (.sym 4)) (.sym 6))),
 (.ev (.eaddr 1 (.tget 0 (.sym 4)) (ki 0))),
 (.ev (.ld false 1 (.tget 1 (.sym 4)) (.sym 8))),
 (.call [] 214 (.tget 1 (.sym 4)) [(.sym 0),(.sym 9)] [true]),
 (.ev (.eaddr 1 (.tget 0 (.sym 4)) (ki 1))),
 (.ev (.ld false 1 (.tget 1 (.sym 4)) (.sym 11))),
 (.wcall [] 215 (.tget 1 (.sym 4)) [(.sym 7),(.sym 10),(.sym 12)] [true])]
 (.pcall 212 (.tget 1 (.sym 13)) [(.tget 0 (.sym 13))] [] [] [] (.ret (.tcons .tnil (.tcons (.tget 1 (.sym 13)) .tnil)))))))
noncomputable def e150:Entry:={ f:=150,kn:=.plain,cf:={ (autoCfg false ([211]++WRY) PNY [] [] Tryz.f150) with nils:=true,stk:=true },own:=false,ones:=[true,false],t:=t150 }
theorem ok150:EntOk Tryz.prog e150:=EntOk.ofPlain Tryz.func150 (by kernel_rfl) (by kernel_rfl)

noncomputable def t188:T:=(wrapBinds [(.ev (.ld false 1 (.sym 2) (.sym 1))),
 (.ev (.lenL (.sym 3))),
 (.ev (.bin .sub .int (.sym 4) (ki 1)))]
 (.join 0 4 (.loop 1 [(.sym 5),(.sym 2)] (wrapBinds [(.ev (.bin .geq .int (.sym 6) (ki 0)))]
 (.ite (.sym 8) (.join 2 6 (wrapBinds [(.ev (.ld false 1 (.sym 7) (.sym 1))),
 (.ev (.eaddr 7 (.sym 9) (.sym 6))),
 (.ev (.ld true 7 (.sym 7) (.sym 10))),
 (.wcallv [] (.sym 0) (.sym 7) [(.sym 6),(.sym 11)] [true]),
 (.ev (.un .not (.tget 0 (.sym 12))))]
 (.ite (.sym 13) (.ret (.tcons .tnil (.tcons (.tget 1 (.sym 12)) .tnil))) (.jump 2 [(.sym 9),(.sym 10),(.sym 11),(.tget 0 (.sym 12)),(.sym 13),(.tget 1 (.sym 12))]))) (wrapBinds [(.ev (.bin .sub .int (.sym 6) (ki 1)))]
 (.jump 1 [(.sym 15),(.sym 14)]))) (.jump 0 [(.sym 6),(.sym 6),(.sym 8),(.sym 7)])))) (.ret (.tcons .tnil (.tcons (.sym 9) .tnil)))))
noncomputable def e188:Entry:={ f:=188,kn:=.plain,cf:={ (autoCfg false ([1000017]++WRY) PNY [] [] Tryz.f188) with nils:=true,stk:=true },own:=false,ones:=[true,true],t:=t188 }
theorem ok188:EntOk Tryz.prog e188:=EntOk.ofPlain Tryz.func188 (by kernel_rfl) (by kernel_rfl)

noncomputable def t189:T:=(wrapBinds [(.ev (.ld false 1 (.sym 3) (.sym 1))),
 (.ev (.nn (.sym 4))),
 (.ev (.padd 2 (.sym 5))),
 (.ev (.ld false 1 (.sym 3) (.sym 6))),
 (.ev (.lenL (.sym 7)))]
 (.join 0 3 (.loop 1 [(ki 0),(.sym 3)] (wrapBinds [(.ev (.bin .lss .int (.sym 9) (.sym 8)))]
 (.ite (.sym 11) (.join 2 24 (wrapBinds [(.ev (.eaddr 1 (.sym 7) (.sym 9))),
 (.ev (.ld false 1 (.sym 10) (.sym 12))),
 (.ev (.ld false 1 (.sym 10) (.sym 1))),
 (.ev (.nn (.sym 14))),
 (.ev (.padd 1 (.sym 15))),
 (.ev (.ld false 1 (.sym 10) (.sym 16))),
 (.ev (.eaddr 7 (.sym 17) (.sym 13))),
 (.ev (.ld true 7 (.sym 10) (.sym 18))),
 (.ev (.aggN 7 (.sym 19))),
 (.ev (.bin .neq .int (.cell 2 (.sym 20)) (ki 4))),
 (.ev (.guard (.sym 21) true (.cell 3 (.sym 20)))),
 (.ev (.guard (.sym 21) true (.ld false 1 (.sym 10) (.sym 2)))),
 (.ev (.guard (.sym 21) true (.bin .eql .int (.sym 22) (.sym 23)))),
 (.ev (.ite (.sym 21) (.sym 24) (kb false))),
 (.wcallv [((.sym 25),true)] (.sym 0) (.sym 10) [(.sym 13),(agc 7 (.sym 20))] [true]),
 (.ev (.guard (.sym 25) true (.un .not (.tget 0 (.sym 26))))),
 (.ev (.ite (.sym 25) (.sym 27) (kb false)))]
 (.ite (.sym 28) (.ret (.tcons .tnil (.tcons (.tget 1 (.sym 26)) .tnil))) (.jump 2 [(.sym 13),(.sym 12),(.sym 13),(.sym 14),(.sym 15),(.sym 16),(.sym 17),(.sym 13),(.sym 18),(.sym 19),(.cell 2 (.sym 20)),(.sym 21),(.sym 21),(.sym 25),(.sym 25),(.sym 28),(.cell 0 (.sym 20)),(.cell 1 (.sym 20)),(.cell 2 (.sym 20)),(.cell 3 (.sym 20)),(.cell 4 (.sym 20)),(.cell 5 (.sym 20)),(.cell 6 (.sym 20)),(.tget 1 (.sym 26))]))) (wrapBinds [(.ev (.bin .add .int (.sym 9) (ki 1)))]
 (.jump 1 [(.sym 36),(.sym 35)]))) (.jump 0 [(.sym 9),(.sym 11),(.sym 10)])))) (.ret (.tcons .tnil (.tcons (.sym 11) .tnil)))))
noncomputable def e189:Entry:={ f:=189,kn:=.plain,cf:={ (autoCfg false ([1000036]++WRY) PNY [] [] Tryz.f189) with nils:=true,stk:=true },own:=false,ones:=[true,true,true],t:=t189 }
theorem ok189:EntOk Tryz.prog e189:=EntOk.ofPlain Tryz.func189 (by kernel_rfl) (by kernel_rfl)

noncomputable def t236:T:=(wrapBinds [(.ev (.ld false 1 (.sym 4) (.sym 1))),
 (.ev (.lenS (.sym 5))),
 (.ev (.bin .eql .int (.sym 6) (ki 0)))]
 (.ite (.sym 7) (.join 0 4 (.loop 1 [(.sym 4)] (wrapBinds [(.ev (.ld false 1 (.sym 8) (.sym 2))),
 (.ev (.lenS (.sym 9))),
 (.ev (.bin .gtr .int (.sym 10) (ki 0)))]
 (.ite (.sym 11) (.join 2 16 (wrapBinds [(.ev (.ld false 1 (.sym 8) (.sym 2))),
 (.call [] 237 (.sym 8) [(.sym 12)] [true,true]),
 (.ev (.ld false 1 (.sym 8) (.sym 2))),
 (.ev (.m4 .ssub (.sym 14) (ki 0) (.tget 1 (.sym 13)) .nil)),
 (.wcallv [] (.sym 0) (.sym 8) [(.sym 15)] [true]),
 (.ev (.un .not (.tget 0 (.sym 16))))]
 (.ite (.sym 17) (.ret (.tcons .tnil (.tcons (.tget 1 (.sym 16)) .tnil))) (wrapBinds [(.ev (.ld false 1 (.tget 1 (.sym 16)) (.sym 2))),
 (.ev (.m4 .ssub (.sym 18) (.tget 1 (.sym 13)) (.lenS (.sym 18)) .nil)),
 (.ev (.sto 1 (.tget 1 (.sym 16)) (.sym 2) (.sym 19)))]
 (.jump 2 [(.tget 0 (.sym 13)),(.tget 1 (.sym 13)),(.tcons (.tget 0 (.sym 13)) (.tcons (.tget 1 (.sym 13)) .tnil)),(.sym 12),(.tcons (.tget 0 (.sym 13)) (.tcons (.tget 1 (.sym 13)) .tnil)),(.tget 0 (.sym 13)),(.tget 1 (.sym 13)),(.sym 14),(.tget 1 (.sym 13)),(.sym 15),(.tget 0 (.sym 16)),(.sym 17),(.sym 18),(.tget 1 (.sym 13)),(.sym 19),(.sym 20)])))) (.jump 1 [(.sym 27)])) (.jump 0 [(.sym 9),(.sym 10),(.sym 11),(.sym 8)])))) (.ret (.tcons .tnil (.tcons (.sym 11) .tnil)))) (.join 0 7 (.loop 1 [(.sym 4)] (.join 2 22 (wrapBinds [(.ev (.ld false 1 (.sym 8) (.sym 2))),
 (.ev (.ld false 1 (.sym 8) (.sym 1))),
 (.call [] 238 (.sym 8) [(.sym 9),(.sym 10)] [true]),
 (.ev (.bin .lss .int (.sym 11) (ki 0)))]
 (.ite (.sym 12) (.jump 0 [(.sym 11),(.sym 9),(.sym 10),(.sym 11),(.sym 11),(.sym 12),(.sym 8)]) (wrapBinds [(.ev (.ld false 1 (.sym 8) (.sym 2))),
 (.ev (.ld false 1 (.sym 8) (.sym 3))),
 (.ev (.bin .add .int (.sym 11) (.sym 14))),
 (.ev (.m4 .ssub (.sym 13) (ki 0) (.sym 15) .nil)),
 (.wcallv [] (.sym 0) (.sym 8) [(.sym 16)] [true]),
 (.ev (.un .not (.tget 0 (.sym 17))))]
 (.ite (.sym 18) (.ret (.tcons .tnil (.tcons (.tget 1 (.sym 17)) .tnil))) (wrapBinds [(.ev (.ld false 1 (.tget 1 (.sym 17)) (.sym 2))),
 (.ev (.ld false 1 (.tget 1 (.sym 17)) (.sym 1))),
 (.ev (.lenS (.sym 20))),
 (.ev (.bin .add .int (.sym 11) (.sym 21))),
 (.ev (.m4 .ssub (.sym 19) (.sym 22) (.lenS (.sym 19)) .nil)),
 (.ev (.sto 1 (.tget 1 (.sym 17)) (.sym 2) (.sym 23)))]
 (.jump 2 [(.sym 11),(.sym 16),(.sym 9),(.sym 10),(.sym 11),(.sym 11),(.sym 12),(.sym 13),(.sym 11),(.sym 14),(.sym 15),(.sym 16),(.sym 16),(.tget 0 (.sym 17)),(.sym 18),(.sym 19),(.sym 11),(.sym 20),(.sym 21),(.sym 22),(.sym 23),(.sym 24)])))))) (.jump 1 [(.sym 30)]))) (wrapBinds [(.ev (.ld false 1 (.sym 14) (.sym 2))),
 (.wcallv [] (.sym 0) (.sym 14) [(.sym 15)] [true])]
 (.ret (.tcons .tnil (.tcons (.tget 1 (.sym 16)) .tnil)))))))
noncomputable def e236:Entry:={ f:=236,kn:=.plain,cf:={ (autoCfg false ([1000024,1000041,1000051]++WRY) PNY [] [] Tryz.f236) with nils:=true,stk:=true },own:=false,ones:=[true,true,true,true],t:=t236 }
theorem ok236:EntOk Tryz.prog e236:=EntOk.ofPlain Tryz.func236 (by kernel_rfl) (by kernel_rfl)

noncomputable def t37:T:=(wrapBinds [(.ev (.aggN 30 (.sym 0))),
 (.call [] 87 (.sym 1) [(agc 30 (.sym 2))] [true]),
 (.ev (.bin .neq .int (.sym 3) (ki 0)))]
 (.ite (.sym 4) (.ret (.tcons (.tcons (.const (.v (.pointer none))) (.tcons (.sym 3) .tnil)) (.tcons (.sym 1) .tnil))) (wrapBinds [(.call [] 88 (.sym 1) [(agc 30 (.sym 2))] [false]),
 (.ev (.cons (.aggN 30 (.sym 5)) (.cons (.const (.agg [(.v (.pointer none))])) (.cons (.const (.agg [(.v (.pointer none))])) (.cons (.const (.agg [(.v (.pointer none))])) (.cons (.const (.agg [.snil])) (.cons (.const (.agg [.snil])) .nil))))))),
 (.ev (.newb 56 35 (.sym 1) (.aggN 35 (.sym 6)))),
 (.ev (.nn (.fstid (.sym 1)))),
 (.ev (.padd 0 (.sym 8))),
 (.ev (.padd 0 (.sym 9))),
 (.ev (.ld true 6 (.sym 7) (.sym 10))),
 (.wcall [] 89 (.sym 7) [(.sym 11)] [true,true]),
 (.ev (.nn (.fstid (.sym 1)))),
 (.ev (.padd 30 (.sym 13))),
 (.ev (.sto 1 (.tget 1 (.sym 12)) (.sym 14) (.tget 0 (.tget 0 (.sym 12))))),
 (.ev (.nn (.fstid (.sym 1)))),
 (.ev (.padd 0 (.sym 16))),
 (.ev (.padd 6 (.sym 17))),
 (.ev (.ld true 3 (.sym 15) (.sym 18))),
 (.ev (.nn (.fstid (.sym 1)))),
 (.ev (.padd 0 (.sym 20))),
 (.ev (.padd 9 (.sym 21))),
 (.ev (.ld false 1 (.sym 15) (.sym 22))),
 (.wcall [] 90 (.sym 15) [(.sym 19),(.sym 23)] [true,true]),
 (.ev (.nn (.fstid (.sym 1)))),
 (.ev (.padd 31 (.sym 25))),
 (.ev (.sto 1 (.tget 1 (.sym 24)) (.sym 26) (.tget 0 (.tget 0 (.sym 24))))),
 (.ev (.nn (.fstid (.sym 1)))),
 (.ev (.padd 0 (.sym 28))),
 (.ev (.padd 24 (.sym 29))),
 (.ev (.ld true 6 (.sym 27) (.sym 30))),
 (.wcall [] 91 (.sym 27) [(.sym 31)] [true,true]),
 (.ev (.nn (.fstid (.sym 1)))),
 (.ev (.padd 32 (.sym 33))),
 (.ev (.sto 1 (.tget 1 (.sym 32)) (.sym 34) (.tget 0 (.tget 0 (.sym 32))))),
 (.ev (.nn (.fstid (.sym 1)))),
 (.ev (.padd 0 (.sym 36))),
 (.ev (.padd 10 (.sym 37))),
 (.ev (.padd 0 (.sym 38))),
 (.ev (.ld false 1 (.sym 35) (.sym 39))),
 (.ev (.lenL (.sym 40))),
 (.ev (.nn (.fstid (.sym 1)))),
 (.ev (.padd 0 (.sym 42))),
 (.ev (.padd 6 (.sym 43))),
 (.ev (.padd 0 (.sym 44))),
 (.ev (.ld false 1 (.sym 35) (.sym 45)))]
 (.join 0 3 (.loop 1 [(ki 0),(.sym 35)] (wrapBinds [(.ev (.bin .lss .int (.sym 47) (.sym 46)))]
 (.ite (.sym 49) (.join 2 27 (wrapBinds [(.ev (.nn (.fstid (.sym 1)))),
 (.ev (.padd 0 (.sym 50))),
 (.ev (.padd 10 (.sym 51))),
 (.ev (.padd 0 (.sym 52))),
 (.ev (.ld false 1 (.sym 48) (.sym 53))),
 (.ev (.bin .sub .int (.sym 41) (ki 1))),
 (.ev (.eaddr 4 (.sym 54) (.sym 55))),
 (.ev (.padd 1 (.sym 56))),
 (.ev (.ld false 1 (.sym 48) (.sym 57))),
 (.ev (.bin .add .int (.sym 58) (ki 1))),
 (.ev (.rep 8 (.sym 59) (.v (.int .i64 0)))),
 (.ev (.rep 32 (.sym 41) (.agg [(.v (.int .i64 0)),(.v (.int .i64 0)),(.v (.bool false)),(.v (.int .i64 0))]))),
 (.ev (.lenL (.sym 61)))]
 (.join 3 3 (.loop 4 [(ki 0),(.sym 61)] (wrapBinds [(.ev (.bin .lss .int (.sym 63) (.sym 62)))]
 (.ite (.sym 65) (.join 5 1 (wrapBinds [(.ev (.idx (.sym 64) (.sym 63))),
 (.ev (.set (.sym 64) (.sym 63) 3 (ki 2)))]
 (.jump 5 [(.sym 67)])) (wrapBinds [(.ev (.bin .add .int (.sym 63) (ki 1)))]
 (.jump 4 [(.sym 67),(.sym 66)]))) (.jump 3 [(.sym 63),(.sym 65),(.sym 64)])))) (wrapBinds [(.ev (.nn (.fstid (.sym 1)))),
 (.ev (.padd 33 (.sym 66))),
 (.ev (.ld false 1 (.newv 1000000000 4 (.newv 1000000000 1 (.sym 48) (.sym 60)) (.sym 65)) (.sym 67))),
 (.ev (.lcons (.aggN 3 (.cons (ki 0) (.cons (.fstsl (.sym 48) (.sym 60)) (.cons (.fstsl (.newv 1000000000 1 (.sym 48) (.sym 60)) (.sym 65)) .nil)))) (.const (.lst [])))),
 (.ev (.apph 78 3 56 (.newv 1000000000 4 (.newv 1000000000 1 (.sym 48) (.sym 60)) (.sym 65)) (.sym 68) (.sym 69))),
 (.ev (.nn (.fstid (.sym 1)))),
 (.ev (.padd 33 (.sym 71))),
 (.ev (.sto 1 (.sym 70) (.sym 72) (.apps (.newv 1000000000 4 (.newv 1000000000 1 (.sym 48) (.sym 60)) (.sym 65)) (.sym 68) (.sym 69))))]
 (.jump 2 [(.sym 50),(.sym 51),(.sym 52),(.sym 53),(.sym 54),(.sym 55),(.sym 56),(.sym 57),(.sym 58),(.sym 59),(.fstsl (.sym 48) (.sym 60)),(.fstsl (.newv 1000000000 1 (.sym 48) (.sym 60)) (.sym 65)),(.fstsl (.newv 1000000000 1 (.sym 48) (.sym 60)) (.sym 65)),(.sym 62),(.sym 63),(.sym 64),(.sym 66),(.sym 67),(.sym 68),(.cons (ki 0) (.cons (.fstsl (.sym 48) (.sym 60)) (.cons (.fstsl (.newv 1000000000 1 (.sym 48) (.sym 60)) (.sym 65)) .nil))),(.sym 69),(.apps (.newv 1000000000 4 (.newv 1000000000 1 (.sym 48) (.sym 60)) (.sym 65)) (.sym 68) (.sym 69)),(.sym 71),(.sym 72),(.fstsl (.sym 48) (.sym 60)),(.fstsl (.newv 1000000000 1 (.sym 48) (.sym 60)) (.sym 65)),(.sym 73)])))) (wrapBinds [(.ev (.bin .add .int (.sym 47) (ki 1)))]
 (.jump 1 [(.sym 77),(.sym 76)]))) (.jump 0 [(.sym 47),(.sym 49),(.sym 48)])))) (.ret (.tcons (.tcons (.fstid (.sym 1)) (.tcons (ki 0) .tnil)) (.tcons (.sym 49) .tnil)))))))
noncomputable def e37:Entry:={ f:=37,kn:=.plain,cf:={ (autoCfg false ([89,90,91]++WRY) PNY [17] [(17,1000086),(17,1000088)] Tryz.f37) with nils:=true,stk:=true },own:=false,ones:=[false],t:=t37 }
theorem ok37:EntOk Tryz.prog e37:=EntOk.ofPlain Tryz.func37 (by kernel_rfl) (by kernel_rfl)

noncomputable def t81:T:=(wrapBinds [(.ev (.m4 (.ifnil true) (.sym 2) .nil .nil .nil))]
 (.join 0 1 (.ite (.sym 3) (wrapBinds [(.ev (.m4 (.tassert 172) (.sym 2) (.const (.agg [(.v (.int .i64 0))])) .nil .nil)),
 (.ev (.aggN 1 (.tget 0 (.sym 4)))),
 (.ev (.un .not (.tget 1 (.sym 4))))]
 (.join 1 0 (.ite (.sym 6) (.pan (.m4 .isifc (.sym 2) .nil .nil .nil) (.sym 1) [] []) (.jump 1 [])) (wrapBinds [(.ev (.sto 1 (.sym 1) (.sym 0) (.cell 0 (.sym 5))))]
 (.jump 0 [(.sym 7)])))) (.jump 0 [(.sym 1)])) (.ret (.tcons .tnil (.tcons (.sym 4) .tnil)))))
noncomputable def e81:Entry:={ f:=81,kn:=.recovers,cf:={ (autoCfg false ([]++WRY) PNY [] [] Tryz.f81) with nils:=true,stk:=true },own:=false,ones:=[true],t:=t81 }
theorem ok81:EntOk Tryz.prog e81:=EntOk.ofRecovers Tryz.func81 (by kernel_rfl) (by kernel_rfl)

end Go.Am.Ra

/-
 Functions that the chapter's examples reach,as texts.
-/
namespace Go.Am.Ra
open Go.Proofs
set_option maxRecDepth 100000

noncomputable def t42:T:=(wrapBinds [(.ev (.bin .geq .int (.sym 0) (.sym 1))),
 (.ev (.guard (.sym 4) true (.bin .leq .int (.sym 0) (.sym 2)))),
 (.ev (.ite (.sym 4) (.sym 5) (kb false)))]
 (.ret (.tcons (.sym 6) (.tcons (.sym 3) .tnil))))
noncomputable def e42:Entry:={ f:=42,kn:=.plain,cf:={ (autoCfg true ([]++WRY) PNY [] [] Tryz.f42) with nils:=true,stk:=true },own:=false,ones:=[true,true,true],t:=t42 }
theorem ok42:EntOk Tryz.prog e42:=EntOk.ofPlain Tryz.func42 (by kernel_rfl) (by kernel_rfl)

noncomputable def t43:T:=(wrapBinds [(.ev (.nn (.sym 0))),
 (.ev (.padd 6 (.sym 4))),
 (.ev (.m4 (.elemA 2 3) (.sym 5) (ki 0) .nil .nil)),
 (.ev (.padd 0 (.sym 6))),
 (.ev (.ld false 1 (.sym 3) (.sym 7))),
 (.ev (.un .not (.sym 8)))]
 (.ret (.tcons (.sym 9) (.tcons (.sym 3) .tnil))))
noncomputable def e43:Entry:={ f:=43,kn:=.plain,cf:={ (autoCfg true ([]++WRY) PNY [] [] Tryz.f43) with nils:=true,stk:=true },own:=false,ones:=[true,true,true],t:=t43 }
theorem ok43:EntOk Tryz.prog e43:=EntOk.ofPlain Tryz.func43 (by kernel_rfl) (by kernel_rfl)

noncomputable def t45:T:=(wrapBinds [(.ev (.mkptr (.cons (.scal (.sym 0)) .nil))),
 (.ev (.mkptr (.cons (.scal (.sym 2)) .nil))),
 (.ev (.ld false 1 (.sym 3) (.sym 4))),
 (.ev (.nn (.sym 6))),
 (.ev (.padd 13 (.sym 7))),
 (.ev (.ld false 1 (.sym 3) (.sym 8))),
 (.ev (.mkfn 103 .tnil (.tcons (.sym 5) (.tcons (.sym 4) .tnil)))),
 (.call [] 101 (.sym 3) [(.sym 9),(.sym 10)] [true])]
 (.ret (.tcons (.sym 11) (.tcons (.sym 3) .tnil))))
noncomputable def e45:Entry:={ f:=45,kn:=.plain,cf:={ (autoCfg true ([]++WRY) PNY [] [] Tryz.f45) with nils:=true,stk:=true },own:=false,ones:=[true,true,true],t:=t45 }
theorem ok45:EntOk Tryz.prog e45:=EntOk.ofPlain Tryz.func45 (by kernel_rfl) (by kernel_rfl)

noncomputable def t47:T:=(wrapBinds [(.ev (.mkptr (.cons (.scal (.sym 0)) .nil))),
 (.ev (.ld false 1 (.sym 3) (.sym 4))),
 (.ev (.mkfn 105 .tnil (.tcons (.sym 4) .tnil))),
 (.call [] 104 (.sym 3) [(.sym 5),(.sym 6)] [true])]
 (.ret (.tcons (.sym 7) (.tcons (.sym 3) .tnil))))
noncomputable def e47:Entry:={ f:=47,kn:=.plain,cf:={ (autoCfg true ([]++WRY) PNY [] [] Tryz.f47) with nils:=true,stk:=true },own:=false,ones:=[true,true,true],t:=t47 }
theorem ok47:EntOk Tryz.prog e47:=EntOk.ofPlain Tryz.func47 (by kernel_rfl) (by kernel_rfl)

noncomputable def t103:T:=(wrapBinds [(.ev (.aggN 3 (.sym 0))),
 (.ev (.un .not (.cell 2 (.sym 4)))),
 (.ev (.guard (.sym 5) false (.ld false 1 (.sym 3) (.sym 1)))),
 (.ev (.guard (.sym 5) false (.cell 1 (.sym 4)))),
 (.ev (.guard (.sym 5) false (.bin .sub .int (.sym 6) (.sym 7)))),
 (.ev (.guard (.sym 5) false (.ld false 1 (.sym 3) (.sym 2)))),
 (.ev (.guard (.sym 5) false (.nn (.sym 9)))),
 (.ev (.guard (.sym 5) false (.padd 0 (.sym 10)))),
 (.ev (.guard (.sym 5) false (.padd 1 (.sym 11)))),
 (.ev (.guard (.sym 5) false (.ld false 1 (.sym 3) (.sym 12)))),
 (.ev (.guard (.sym 5) false (.bin .gtr .int (.sym 8) (.sym 13)))),
 (.ev (.ite (.sym 5) (kb true) (.sym 14)))]
 (.ret (.tcons (.sym 15) (.tcons (.sym 3) .tnil))))
noncomputable def e103:Entry:={ f:=103,kn:=.plain,cf:={ (autoCfg true ([]++WRY) PNY [] [] Tryz.f103) with nils:=true,stk:=true },own:=false,ones:=[false,true,true],t:=t103 }
theorem ok103:EntOk Tryz.prog e103:=EntOk.ofPlain Tryz.func103 (by kernel_rfl) (by kernel_rfl)

noncomputable def t113:T:=(wrapBinds [(.ev (.mkptr (.cons (.scal (.sym 0)) .nil))),
 (.ev (.mkfn 188 .tnil (.tcons (.sym 2) .tnil)))]
 (.ret (.tcons (.sym 3) (.tcons (.sym 1) .tnil))))
noncomputable def e113:Entry:={ f:=113,kn:=.plain,cf:={ (autoCfg true ([]++WRY) PNY [] [] Tryz.f113) with nils:=true,stk:=true },own:=false,ones:=[true],t:=t113 }
theorem ok113:EntOk Tryz.prog e113:=EntOk.ofPlain Tryz.func113 (by kernel_rfl) (by kernel_rfl)

noncomputable def t137:T:=(wrapBinds [(.ev (.bin .neq .int (.sym 0) (.sym 0)))]
 (.ret (.tcons (.sym 2) (.tcons (.sym 1) .tnil))))
noncomputable def e137:Entry:={ f:=137,kn:=.plain,cf:={ (autoCfg true ([]++WRY) PNY [] [] Tryz.f137) with nils:=true,stk:=true },own:=false,ones:=[true],t:=t137 }
theorem ok137:EntOk Tryz.prog e137:=EntOk.ofPlain Tryz.func137 (by kernel_rfl) (by kernel_rfl)

noncomputable def t165:T:=(wrapBinds [(.ev (.aggN 6 (.sym 0))),
 (.call [] 140 (.sym 1) [(.cell 0 (.sym 2)),(ki 1),(ki 200)] [true]),
 (.ev (.un .not (.sym 3))),
 (.ev (.guard (.sym 4) false (.cell 1 (.sym 2)))),
 (.ev (.guard (.sym 4) false (.lenL (.sym 5)))),
 (.call [((.sym 4),false)] 140 (.sym 1) [(.sym 6),(ki 1),(ki 500)] [true]),
 (.ev (.guard (.sym 4) false (.un .not (.sym 7)))),
 (.ev (.ite (.sym 4) (kb true) (.sym 8))),
 (.ev (.guard (.sym 9) false (.cell 2 (.sym 2)))),
 (.call [((.sym 9),false)] 140 (.sym 1) [(.sym 10),(ki 0),(ki 10000)] [true]),
 (.ev (.guard (.sym 9) false (.un .not (.sym 11)))),
 (.ev (.ite (.sym 9) (kb true) (.sym 12))),
 (.ev (.guard (.sym 13) false (.cell 3 (.sym 2)))),
 (.call [((.sym 13),false)] 140 (.sym 1) [(.sym 14),(ki 0),(ki 10000)] [true]),
 (.ev (.guard (.sym 13) false (.un .not (.sym 15)))),
 (.ev (.ite (.sym 13) (kb true) (.sym 16))),
 (.ev (.guard (.sym 17) false (.cell 4 (.sym 2)))),
 (.call [((.sym 17),false)] 140 (.sym 1) [(.sym 18),(ki 0),(ki 1000000000)] [true]),
 (.ev (.guard (.sym 17) false (.un .not (.sym 19)))),
 (.ev (.ite (.sym 17) (kb true) (.sym 20))),
 (.ev (.guard (.sym 21) false (.cell 5 (.sym 2)))),
 (.call [((.sym 21),false)] 140 (.sym 1) [(.sym 22),(ki 0),(ki 1000000000)] [true]),
 (.ev (.guard (.sym 21) false (.un .not (.sym 23)))),
 (.ev (.ite (.sym 21) (kb true) (.sym 24)))]
 (.ite (.sym 25) (.ret (.tcons (ki 2) (.tcons (.sym 1) .tnil))) (wrapBinds [(.ev (.lenL (.cell 1 (.sym 2))))]
 (.join 0 2 (.loop 1 [(ki 0)] (wrapBinds [(.ev (.bin .lss .int (.sym 27) (.sym 26)))]
 (.ite (.sym 28) (.join 2 16 (wrapBinds [(.ev (.eaddr 4 (.cell 1 (.sym 2)) (.sym 27))),
 (.ev (.ld true 4 (.sym 1) (.sym 29))),
 (.ev (.aggN 4 (.sym 30))),
 (.call [] 140 (.sym 1) [(.cell 0 (.sym 31)),(ki 1),(ki 10000)] [true]),
 (.ev (.un .not (.sym 32))),
 (.ev (.guard (.sym 33) false (.cell 1 (.sym 31)))),
 (.call [((.sym 33),false)] 140 (.sym 1) [(.sym 34),(ki 0),(ki 10000000)] [true]),
 (.ev (.guard (.sym 33) false (.un .not (.sym 35)))),
 (.ev (.ite (.sym 33) (kb true) (.sym 36))),
 (.ev (.guard (.sym 37) false (.cell 2 (.sym 31)))),
 (.ev (.guard (.sym 37) false (.cell 3 (.sym 31)))),
 (.call [((.sym 37),false)] 140 (.sym 1) [(.sym 38),(ki 0),(.sym 39)] [true]),
 (.ev (.guard (.sym 37) false (.un .not (.sym 40)))),
 (.ev (.ite (.sym 37) (kb true) (.sym 41))),
 (.ev (.guard (.sym 42) false (.cell 3 (.sym 31)))),
 (.ev (.guard (.sym 42) false (.bin .gtr .int (.sym 43) (ki 36000000)))),
 (.ev (.ite (.sym 42) (kb true) (.sym 44)))]
 (.ite (.sym 45) (.ret (.tcons (ki 2) (.tcons (.sym 1) .tnil))) (wrapBinds [(.ev (.bin .gtr .int (.sym 27) (ki 0)))]
 (.join 3 0 (.ite (.sym 46) (wrapBinds [(.ev (.bin .sub .int (.sym 27) (ki 1))),
 (.ev (.eaddr 4 (.cell 1 (.sym 2)) (.sym 47))),
 (.ev (.ld true 4 (.sym 1) (.sym 48))),
 (.ev (.aggN 4 (.sym 49))),
 (.call [] 67 (.sym 1) [(.cell 0 (.sym 50)),(.cell 0 (.sym 31))] [true]),
 (.call [] 67 (.sym 1) [(.cell 1 (.sym 50)),(.cell 1 (.sym 31))] [true]),
 (.ev (.lcons (.scal (.sym 51)) (.lcons (.scal (.sym 52)) (.const (.lst []))))),
 (.call [] 230 (.sym 1) [(.sym 53)] [true]),
 (.ev (.bin .geq .int (.sym 54) (ki 0)))]
 (.ite (.sym 55) (.ret (.tcons (ki 2) (.tcons (.sym 1) .tnil))) (.jump 3 []))) (.jump 3 [])) (.jump 2 [(.sym 29),(.sym 30),(.cell 0 (.sym 31)),(.sym 32),(.sym 33),(.sym 33),(.sym 37),(.sym 37),(.sym 42),(.sym 42),(.sym 45),(.sym 46),(.cell 0 (.sym 31)),(.cell 1 (.sym 31)),(.cell 2 (.sym 31)),(.cell 3 (.sym 31))]))))) (wrapBinds [(.ev (.bin .add .int (.sym 27) (ki 1)))]
 (.jump 1 [(.sym 45)]))) (.jump 0 [(.sym 27),(.sym 28)])))) (.ret (.tcons (ki 0) (.tcons (.sym 1) .tnil)))))))
noncomputable def e165:Entry:={ f:=165,kn:=.plain,cf:={ (autoCfg true ([]++WRY) PNY [] [] Tryz.f165) with nils:=true,stk:=true },own:=false,ones:=[false],t:=t165 }
theorem ok165:EntOk Tryz.prog e165:=EntOk.ofPlain Tryz.func165 (by kernel_rfl) (by kernel_rfl)

noncomputable def t172:T:=(wrapBinds [(.ev (.newb 9 1 (.sym 3) (.cons (.scal (.sym 0)) .nil))),
 (.ev (.mkptr (.cons (.scal (.sym 1)) .nil))),
 (.ev (.mkptr (.cons (.scal (.sym 2)) .nil))),
 (.ev (.mkfn 236 .tnil (.tcons (.sym 5) (.tcons (.fstid (.sym 3)) (.tcons (.sym 6) .tnil)))))]
 (.ret (.tcons (.sym 7) (.tcons (.sym 4) .tnil))))
noncomputable def e172:Entry:={ f:=172,kn:=.plain,cf:={ (autoCfg false ([]++WRY) PNY [3] [] Tryz.f172) with nils:=true,stk:=true },own:=false,ones:=[true,true,true],t:=t172 }
theorem ok172:EntOk Tryz.prog e172:=EntOk.ofPlain Tryz.func172 (by kernel_rfl) (by kernel_rfl)

noncomputable def t183:T:=(wrapBinds [(.ev (.lenL (.sym 0)))]
 (.join 0 2 (.loop 1 [(ki 0)] (wrapBinds [(.ev (.bin .lss .int (.sym 4) (.sym 3)))]
 (.ite (.sym 5) (.join 2 3 (wrapBinds [(.ev (.eaddr 3 (.sym 0) (.sym 4))),
 (.ev (.ld true 3 (.sym 2) (.sym 6))),
 (.callv [] (.sym 1) (.sym 2) [(.sym 7)] [true])]
 (.ite (.sym 8) (.ret (.tcons (.sym 4) (.tcons (.sym 2) .tnil))) (.jump 2 [(.sym 6),(.sym 7),(.sym 8)]))) (wrapBinds [(.ev (.bin .add .int (.sym 4) (ki 1)))]
 (.jump 1 [(.sym 9)]))) (.jump 0 [(.sym 4),(.sym 5)])))) (.ret (.tcons (ki (-1)) (.tcons (.sym 2) .tnil)))))
noncomputable def e183:Entry:={ f:=183,kn:=.plain,cf:={ (autoCfg true ([]++WRY) PNY [] [] Tryz.f183) with nils:=true,stk:=true },own:=false,ones:=[true,true],t:=t183 }
theorem ok183:EntOk Tryz.prog e183:=EntOk.ofPlain Tryz.func183 (by kernel_rfl) (by kernel_rfl)

noncomputable def t193:T:=(wrapBinds [(.ev (.aggN 4 (.sym 0))),
 (.ev (.aggN 4 (.sym 1))),
 (.call [] 190 (.sym 2) [(.cell 0 (.sym 4)),(ki 0),(ki 100000)] [true]),
 (.ev (.un .not (.sym 5))),
 (.ev (.guard (.sym 6) false (.cell 1 (.sym 4)))),
 (.call [((.sym 6),false)] 190 (.sym 2) [(.sym 7),(ki 0),(ki 36000000)] [true]),
 (.ev (.guard (.sym 6) false (.un .not (.sym 8)))),
 (.ev (.ite (.sym 6) (kb true) (.sym 9)))]
 (.ite (.sym 10) (.ret (.tcons (kb false) (.tcons (.sym 2) .tnil))) (wrapBinds [(.ev (.bin .eql .int (.cell 0 (.sym 3)) (ki 1)))]
 (.join 0 6 (wrapBinds [(.ev (.bin .eql .int (.cell 3 (.sym 4)) (ki 0)))]
 (.ite (.sym 12) (wrapBinds [(.ev (.guard (.sym 11) true (.cell 1 (.sym 4)))),
 (.ev (.guard (.sym 11) true (.bin .eql .int (.sym 13) (ki 0)))),
 (.ev (.ite (.sym 11) (.sym 14) (kb false))),
 (.ev (.guard (.sym 15) true (.cell 2 (.sym 4)))),
 (.ev (.guard (.sym 15) true (.un .not (.sym 16)))),
 (.ev (.ite (.sym 15) (.sym 17) (kb false))),
 (.ev (.guard (.sym 18) false (.un .not (.sym 11)))),
 (.ev (.guard (.sym 18) false (.guard (.sym 19) true (.cell 1 (.sym 4))))),
 (.ev (.guard (.sym 18) false (.guard (.sym 19) true (.bin .gtr .int (.sym 20) (ki 0))))),
 (.ev (.guard (.sym 18) false (.ite (.sym 19) (.sym 21) (kb false)))),
 (.ev (.ite (.sym 18) (kb true) (.sym 22)))]
 (.ret (.tcons (.sym 23) (.tcons (.sym 2) .tnil)))) (wrapBinds [(.ev (.bin .eql .int (.cell 3 (.sym 4)) (ki 1)))]
 (.ite (.sym 13) (wrapBinds [(.ev (.un .not (.sym 11))),
 (.ev (.guard (.sym 14) true (.cell 1 (.sym 4)))),
 (.ev (.guard (.sym 14) true (.bin .eql .int (.sym 15) (ki 0)))),
 (.ev (.ite (.sym 14) (.sym 16) (kb false)))]
 (.ret (.tcons (.sym 17) (.tcons (.sym 2) .tnil)))) (wrapBinds [(.ev (.bin .eql .int (.cell 3 (.sym 4)) (ki 2)))]
 (.ite (.sym 14) (wrapBinds [(.ev (.bin .eql .int (.cell 0 (.sym 4)) (ki 0))),
 (.ev (.guard (.sym 15) true (.cell 1 (.sym 4)))),
 (.ev (.guard (.sym 15) true (.bin .eql .int (.sym 16) (ki 0)))),
 (.ev (.ite (.sym 15) (.sym 17) (kb false))),
 (.ev (.guard (.sym 18) true (.cell 2 (.sym 4)))),
 (.ev (.guard (.sym 18) true (.un .not (.sym 19)))),
 (.ev (.ite (.sym 18) (.sym 20) (kb false)))]
 (.ret (.tcons (.sym 21) (.tcons (.sym 2) .tnil)))) (.jump 0 [(.sym 12),(.sym 12),(.sym 13),(.sym 13),(.sym 14),(.sym 14)]))))))) (.ret (.tcons (kb false) (.tcons (.sym 2) .tnil)))))))
noncomputable def e193:Entry:={ f:=193,kn:=.plain,cf:={ (autoCfg true ([]++WRY) PNY [] [] Tryz.f193) with nils:=true,stk:=true },own:=false,ones:=[false,false],t:=t193 }
theorem ok193:EntOk Tryz.prog e193:=EntOk.ofPlain Tryz.func193 (by kernel_rfl) (by kernel_rfl)

noncomputable def t210:T:=(wrapBinds [(.call [] 267 (.sym 2) [(.sym 0),(.sym 1)] [true]),
 (.ev (.bin .geq .int (.sym 3) (ki 0)))]
 (.ite (.sym 4) (wrapBinds [(.ev (.m4 .ssub (.sym 0) (ki 0) (.sym 3) .nil)),
 (.ev (.lenS (.sym 1))),
 (.ev (.bin .add .int (.sym 3) (.sym 6))),
 (.ev (.m4 .ssub (.sym 0) (.sym 7) (.lenS (.sym 0)) .nil))]
 (.ret (.tcons (.tcons (.sym 5) (.tcons (.sym 8) (.tcons (kb true) .tnil))) (.tcons (.sym 2) .tnil)))) (.ret (.tcons (.tcons (.sym 0) (.tcons (.const (.v (.string ⟨#[]⟩))) (.tcons (kb false) .tnil))) (.tcons (.sym 2) .tnil)))))
noncomputable def e210:Entry:={ f:=210,kn:=.plain,cf:={ (autoCfg true ([]++WRY) PNY [] [] Tryz.f210) with nils:=true,stk:=true },own:=false,ones:=[true,true],t:=t210 }
theorem ok210:EntOk Tryz.prog e210:=EntOk.ofPlain Tryz.func210 (by kernel_rfl) (by kernel_rfl)

noncomputable def t211:T:=(wrapBinds [(.ev (.aggN 2 (.sym 0))),
 (.ev (.lenL (.cell 1 (.sym 3)))),
 (.ev (.bin .neq .int (.sym 4) (.sym 1)))]
 (.join 0 0 (.ite (.sym 5) (.pcall 212 (.sym 2) [(ki 3)] [] [] [] (.jump 0 [])) (.jump 0 [])) (wrapBinds [(.ev (.lenL (.cell 1 (.sym 3))))]
 (.join 0 4 (.loop 1 [(.const (.lst [])),(ki 0),(.sym 2)] (wrapBinds [(.ev (.bin .lss .int (.sym 8) (.sym 6)))]
 (.ite (.sym 10) (.join 2 17 (wrapBinds [(.ev (.eaddr 1 (.cell 1 (.sym 3)) (.sym 8))),
 (.ev (.ld false 1 (.sym 9) (.sym 11))),
 (.wcall [] 268 (.sym 9) [(.sym 12)] [true,true]),
 (.ev (.un .not (.tget 1 (.tget 0 (.sym 13)))))]
 (.join 3 0 (.ite (.sym 14) (.pcall 212 (.tget 1 (.sym 13)) [(ki 3)] [] [] [] (.jump 3 [])) (.jump 3 [])) (wrapBinds [(.ev (.lcons (.scal (.tget 0 (.tget 0 (.sym 13)))) (.const (.lst [])))),
 (.ev (.app 1 8 (.sym 7) (.sym 15)))]
 (.jump 2 [(.sym 16),(.sym 12),(.tget 0 (.tget 0 (.sym 13))),(.tget 1 (.tget 0 (.sym 13))),(.sym 11),(.sym 12),(.tcons (.tget 0 (.tget 0 (.sym 13))) (.tcons (.tget 1 (.tget 0 (.sym 13))) .tnil)),(.sym 12),(.tcons (.tget 0 (.tget 0 (.sym 13))) (.tcons (.tget 1 (.tget 0 (.sym 13))) .tnil)),(.tget 0 (.tget 0 (.sym 13))),(.tget 1 (.tget 0 (.sym 13))),(.tget 1 (.tget 0 (.sym 13))),(.sym 14),(.tget 0 (.tget 0 (.sym 13))),(.sym 15),(.sym 16),(.tget 1 (.sym 13))])))) (wrapBinds [(.ev (.bin .add .int (.sym 8) (ki 1)))]
 (.jump 1 [(.sym 11),(.sym 28),(.sym 27)]))) (.jump 0 [(.sym 7),(.sym 8),(.sym 10),(.sym 9)])))) (.ret (.tcons (.sym 7) (.tcons (.sym 10) .tnil)))))))
noncomputable def e211:Entry:={ f:=211,kn:=.plain,cf:={ (autoCfg false ([268]++WRY) PNY [] [] Tryz.f211) with nils:=true,stk:=true },own:=false,ones:=[false,true],t:=t211 }
theorem ok211:EntOk Tryz.prog e211:=EntOk.ofPlain Tryz.func211 (by kernel_rfl) (by kernel_rfl)

noncomputable def t243:T:=(wrapBinds [(.ev (.bin .sub .int (.sym 0) (ki 1))),
 (.ev (.bin .and .int (.sym 0) (.sym 2))),
 (.ev (.bin .eql .int (.sym 3) (ki 0)))]
 (.ret (.tcons (.sym 4) (.tcons (.sym 1) .tnil))))
noncomputable def e243:Entry:={ f:=243,kn:=.plain,cf:={ (autoCfg true ([]++WRY) PNY [] [] Tryz.f243) with nils:=true,stk:=true },own:=false,ones:=[true],t:=t243 }
theorem ok243:EntOk Tryz.prog e243:=EntOk.ofPlain Tryz.func243 (by kernel_rfl) (by kernel_rfl)

noncomputable def t272:T:=(wrapBinds [(.call [] 305 (.sym 2) [(.sym 0),(.sym 1)] [true]),
 (.ev (.bin .geq .int (.sym 3) (ki 0)))]
 (.ret (.tcons (.sym 4) (.tcons (.sym 2) .tnil))))
noncomputable def e272:Entry:={ f:=272,kn:=.plain,cf:={ (autoCfg true ([]++WRY) PNY [] [] Tryz.f272) with nils:=true,stk:=true },own:=false,ones:=[true,true],t:=t272 }
theorem ok272:EntOk Tryz.prog e272:=EntOk.ofPlain Tryz.func272 (by kernel_rfl) (by kernel_rfl)

noncomputable def t307:T:=(wrapBinds [(.ev (.lenL (.sym 0)))]
 (.join 0 3 (.loop 1 [(ki 0),(ki 0)] (wrapBinds [(.ev (.bin .lss .int (.sym 5) (.sym 3)))]
 (.ite (.sym 6) (.join 2 7 (wrapBinds [(.ev (.eaddr 1 (.sym 0) (.sym 5))),
 (.ev (.ld false 1 (.sym 2) (.sym 7))),
 (.ev (.bin .eql .int (.sym 5) (ki 0))),
 (.callv [((.sym 9),false)] (.sym 1) (.sym 2) [(.sym 8),(.sym 4)] [true]),
 (.ev (.ite (.sym 9) (kb true) (.sym 10)))]
 (.join 3 1 (.ite (.sym 11) (.jump 3 [(.sym 8)]) (.jump 3 [(.sym 4)])) (.jump 2 [(.sym 12),(.sym 8),(.sym 7),(.sym 8),(.sym 9),(.sym 9),(.sym 11)]))) (wrapBinds [(.ev (.bin .add .int (.sym 5) (ki 1)))]
 (.jump 1 [(.sym 7),(.sym 14)]))) (.jump 0 [(.sym 4),(.sym 5),(.sym 6)])))) (wrapBinds [(.ev (.lenL (.sym 0))),
 (.ev (.bin .gtr .int (.sym 7) (ki 0)))]
 (.ret (.tcons (.tcons (.sym 4) (.tcons (.sym 8) .tnil)) (.tcons (.sym 2) .tnil))))))
noncomputable def e307:Entry:={ f:=307,kn:=.plain,cf:={ (autoCfg true ([]++WRY) PNY [] [] Tryz.f307) with nils:=true,stk:=true },own:=false,ones:=[true,true],t:=t307 }
theorem ok307:EntOk Tryz.prog e307:=EntOk.ofPlain Tryz.func307 (by kernel_rfl) (by kernel_rfl)

noncomputable def t83:T:=(wrapBinds [(.ev (.m4 .newm (.sym 1) .nil .nil .nil)),
 (.ev (.mkfn 148 (.tcons (.sym 0) .tnil) .tnil)),
 (.ev (.m4 (.put .str) (.sym 2) (.m4 .fstm (.sym 1) .nil .nil .nil) (.const (.v (.string ⟨#[111,112,101,110]⟩))) (.sym 3))),
 (.ev (.mkfn 148 (.tcons (.sym 0) .tnil) .tnil)),
 (.ev (.m4 (.put .str) (.sym 4) (.m4 .fstm (.sym 1) .nil .nil .nil) (.const (.v (.string ⟨#[99,108,111,115,101]⟩))) (.sym 5))),
 (.ev (.mkfn 148 (.tcons (.sym 0) .tnil) .tnil)),
 (.ev (.m4 (.put .str) (.sym 6) (.m4 .fstm (.sym 1) .nil .nil .nil) (.const (.v (.string ⟨#[99,111,118,101,114,101,100]⟩))) (.sym 7))),
 (.ev (.mkfn 148 (.tcons (.sym 0) .tnil) .tnil)),
 (.ev (.m4 (.put .str) (.sym 8) (.m4 .fstm (.sym 1) .nil .nil .nil) (.const (.v (.string ⟨#[117,110,99,111,118,101,114,101,100]⟩))) (.sym 9))),
 (.ev (.mkfn 148 (.tcons (.sym 0) .tnil) .tnil)),
 (.ev (.m4 (.put .str) (.sym 10) (.m4 .fstm (.sym 1) .nil .nil .nil) (.const (.v (.string ⟨#[112,111,115,116]⟩))) (.sym 11))),
 (.ev (.mkfn 148 (.tcons (.sym 0) .tnil) .tnil)),
 (.ev (.m4 (.put .str) (.sym 12) (.m4 .fstm (.sym 1) .nil .nil .nil) (.const (.v (.string ⟨#[114,101,100]⟩))) (.sym 13))),
 (.ev (.mkfn 148 (.tcons (.sym 0) .tnil) .tnil)),
 (.ev (.m4 (.put .str) (.sym 14) (.m4 .fstm (.sym 1) .nil .nil .nil) (.const (.v (.string ⟨#[103,114,101,101,110]⟩))) (.sym 15))),
 (.ev (.mkfn 149 (.tcons (.sym 0) .tnil) .tnil)),
 (.ev (.m4 (.put .str) (.sym 16) (.m4 .fstm (.sym 1) .nil .nil .nil) (.const (.v (.string ⟨#[115,97,102,101]⟩))) (.sym 17))),
 (.ev (.mkfn 149 (.tcons (.sym 0) .tnil) .tnil)),
 (.ev (.m4 (.put .str) (.sym 18) (.m4 .fstm (.sym 1) .nil .nil .nil) (.const (.v (.string ⟨#[102,111,117,110,100]⟩))) (.sym 19))),
 (.ev (.mkfn 150 (.tcons (.sym 0) .tnil) .tnil)),
 (.ev (.m4 (.put .str) (.sym 20) (.m4 .fstm (.sym 1) .nil .nil .nil) (.const (.v (.string ⟨#[115,116,97,114,116]⟩))) (.sym 21))),
 (.ev (.mkfn 151 (.tcons (.sym 0) .tnil) .tnil)),
 (.ev (.m4 (.put .str) (.sym 22) (.m4 .fstm (.sym 1) .nil .nil .nil) (.const (.v (.string ⟨#[112,97,115,115]⟩))) (.sym 23))),
 (.ev (.mkfn 151 (.tcons (.sym 0) .tnil) .tnil)),
 (.ev (.m4 (.put .str) (.sym 24) (.m4 .fstm (.sym 1) .nil .nil .nil) (.const (.v (.string ⟨#[110,111,116]⟩))) (.sym 25))),
 (.ev (.mkfn 152 (.tcons (.sym 0) .tnil) .tnil)),
 (.ev (.m4 (.put .str) (.sym 26) (.m4 .fstm (.sym 1) .nil .nil .nil) (.const (.v (.string ⟨#[111,117,116]⟩))) (.sym 27))),
 (.ev (.mkfn 153 (.tcons (.sym 0) .tnil) .tnil)),
 (.ev (.m4 (.put .str) (.sym 28) (.m4 .fstm (.sym 1) .nil .nil .nil) (.const (.v (.string ⟨#[118,111,105,100]⟩))) (.sym 29))),
 (.ev (.mkfn 154 (.tcons (.sym 0) .tnil) .tnil)),
 (.ev (.m4 (.put .str) (.sym 30) (.m4 .fstm (.sym 1) .nil .nil .nil) (.const (.v (.string ⟨#[99,108,97,115,115]⟩))) (.sym 31))),
 (.ev (.mkfn 155 (.tcons (.sym 0) .tnil) .tnil)),
 (.ev (.m4 (.put .str) (.sym 32) (.m4 .fstm (.sym 1) .nil .nil .nil) (.const (.v (.string ⟨#[108,101,103]⟩))) (.sym 33))),
 (.ev (.mkfn 156 (.tcons (.sym 0) .tnil) .tnil)),
 (.ev (.m4 (.put .str) (.sym 34) (.m4 .fstm (.sym 1) .nil .nil .nil) (.const (.v (.string ⟨#[108,105,110,101]⟩))) (.sym 35))),
 (.ev (.mkfn 157 (.tcons (.sym 0) .tnil) .tnil)),
 (.ev (.m4 (.put .str) (.sym 36) (.m4 .fstm (.sym 1) .nil .nil .nil) (.const (.v (.string ⟨#[116,97,107,101]⟩))) (.sym 37))),
 (.ev (.mkfn 158 (.tcons (.sym 0) .tnil) .tnil)),
 (.ev (.m4 (.put .str) (.sym 38) (.m4 .fstm (.sym 1) .nil .nil .nil) (.const (.v (.string ⟨#[112,117,98,108,105,115,104]⟩))) (.sym 39))),
 (.ev (.mkfn 159 (.tcons (.sym 0) .tnil) .tnil)),
 (.ev (.m4 (.put .str) (.sym 40) (.m4 .fstm (.sym 1) .nil .nil .nil) (.const (.v (.string ⟨#[112,114,111,116,101,115,116]⟩))) (.sym 41))),
 (.ev (.mkfn 160 (.tcons (.sym 0) .tnil) .tnil)),
 (.ev (.m4 (.put .str) (.sym 42) (.m4 .fstm (.sym 1) .nil .nil .nil) (.const (.v (.string ⟨#[100,101,99,105,100,101]⟩))) (.sym 43))),
 (.ev (.mkfn 160 (.tcons (.sym 0) .tnil) .tnil)),
 (.ev (.m4 (.put .str) (.sym 44) (.m4 .fstm (.sym 1) .nil .nil .nil) (.const (.v (.string ⟨#[114,101,106,101,99,116]⟩))) (.sym 45))),
 (.ev (.mkfn 161 (.tcons (.sym 0) .tnil) .tnil)),
 (.ev (.m4 (.put .str) (.sym 46) (.m4 .fstm (.sym 1) .nil .nil .nil) (.const (.v (.string ⟨#[97,112,112,101,97,108]⟩))) (.sym 47))),
 (.ev (.mkfn 160 (.tcons (.sym 0) .tnil) .tnil)),
 (.ev (.m4 (.put .str) (.sym 48) (.m4 .fstm (.sym 1) .nil .nil .nil) (.const (.v (.string ⟨#[106,117,100,103,101]⟩))) (.sym 49))),
 (.ev (.mkfn 160 (.tcons (.sym 0) .tnil) .tnil)),
 (.ev (.m4 (.put .str) (.sym 50) (.m4 .fstm (.sym 1) .nil .nil .nil) (.const (.v (.string ⟨#[100,105,115,109,105,115,115]⟩))) (.sym 51))),
 (.ev (.mkfn 162 (.tcons (.sym 0) .tnil) .tnil)),
 (.ev (.m4 (.put .str) (.sym 52) (.m4 .fstm (.sym 1) .nil .nil .nil) (.const (.v (.string ⟨#[100,114,111,112]⟩))) (.sym 53)))]
 (.ret (.tcons (.m4 .fstm (.sym 1) .nil .nil .nil) (.tcons (.sym 54) .tnil))))
noncomputable def e83:Entry:={ f:=83,kn:=.plain,cf:={ (autoCfg false ([]++WRY) PNY [] [] Tryz.f83) with nils:=true,stk:=true },own:=false,ones:=[true],t:=t83 }
theorem ok83:EntOk Tryz.prog e83:=EntOk.ofPlain Tryz.func83 (by kernel_rfl) (by kernel_rfl)

noncomputable def t213:T:=(wrapBinds [(.ev (.mkptr (.cons (.scal (.sym 0)) .nil))),
 (.ev (.mkptr (.aggN 4 (.sym 1)))),
 (.ev (.ld false 1 (.sym 2) (.sym 3))),
 (.call [] 41 (.sym 2) [(.sym 5)] [true]),
 (.ev (.un .not (.sym 6)))]
 (.ite (.sym 7) (.ret (.tcons (ki 1) (.tcons (.sym 2) .tnil))) (wrapBinds [(.ev (.ld false 1 (.sym 2) (.sym 3))),
 (.ev (.ld true 4 (.sym 2) (.sym 4))),
 (.call [] 269 (.sym 2) [(.sym 8),(.sym 9)] [true]),
 (.ev (.un .not (.sym 10)))]
 (.ite (.sym 11) (.ret (.tcons (ki 2) (.tcons (.sym 2) .tnil))) (wrapBinds [(.ev (.ld false 1 (.sym 2) (.sym 3))),
 (.ev (.nn (.sym 12))),
 (.ev (.padd 14 (.sym 13))),
 (.ev (.ld false 1 (.sym 2) (.sym 14))),
 (.ev (.padd 3 (.sym 4))),
 (.ev (.ld false 1 (.sym 2) (.sym 16))),
 (.ev (.eaddr 5 (.sym 15) (.sym 17))),
 (.ev (.mkfn 270 .tnil (.tcons (.sym 3) (.tcons (.sym 4) .tnil)))),
 (.ev (.padd 0 (.sym 4))),
 (.ev (.ld false 1 (.sym 2) (.sym 20)))]
 (.join 0 3 (wrapBinds [(.ev (.bin .eql .int (.sym 21) (ki 1)))]
 (.join 1 1 (.ite (.sym 22) (.jump 1 [(.sym 22)]) (wrapBinds [(.ev (.bin .eql .int (.sym 21) (ki 2)))]
 (.jump 1 [(.sym 23)]))) (.join 1 1 (.ite (.sym 23) (wrapBinds [(.ev (.ld false 1 (.sym 2) (.sym 3))),
 (.ev (.nn (.sym 24))),
 (.ev (.padd 6 (.sym 25))),
 (.ev (.m4 (.elemA 2 3) (.sym 26) (ki 0) .nil .nil)),
 (.ev (.padd 0 (.sym 4))),
 (.ev (.ld false 1 (.sym 2) (.sym 28))),
 (.ev (.bin .eql .int (.sym 29) (ki 1))),
 (.ev (.padd 1 (.sym 4))),
 (.ev (.ld false 1 (.sym 2) (.sym 31))),
 (.wcall [] 271 (.sym 2) [(.sym 27),(.sym 30),(.sym 32),(kb false)] [])]
 (.jump 1 [(.tget 1 (.sym 33))])) (wrapBinds [(.ev (.bin .eql .int (.sym 21) (ki 6)))]
 (.join 2 1 (.ite (.sym 24) (.jump 2 [(.sym 24)]) (wrapBinds [(.ev (.bin .eql .int (.sym 21) (ki 7)))]
 (.jump 2 [(.sym 25)]))) (.join 2 1 (.ite (.sym 25) (wrapBinds [(.ev (.ld false 1 (.sym 2) (.sym 3))),
 (.ev (.nn (.sym 26))),
 (.ev (.padd 6 (.sym 27))),
 (.ev (.m4 (.elemA 2 3) (.sym 28) (ki 1) .nil .nil)),
 (.ev (.padd 0 (.sym 4))),
 (.ev (.ld false 1 (.sym 2) (.sym 30))),
 (.ev (.bin .eql .int (.sym 31) (ki 6))),
 (.ev (.padd 1 (.sym 4))),
 (.ev (.ld false 1 (.sym 2) (.sym 33))),
 (.wcall [] 271 (.sym 2) [(.sym 29),(.sym 32),(.sym 34),(kb false)] [])]
 (.jump 2 [(.tget 1 (.sym 35))])) (wrapBinds [(.ev (.bin .eql .int (.sym 21) (ki 3)))]
 (.join 3 1 (.ite (.sym 26) (wrapBinds [(.wcallv [] (.sym 19) (.sym 2) [] [])]
 (.jump 3 [(.tget 1 (.sym 27))])) (wrapBinds [(.ev (.bin .eql .int (.sym 21) (ki 4)))]
 (.join 4 1 (.ite (.sym 27) (.jump 4 [(.sym 27)]) (wrapBinds [(.ev (.bin .eql .int (.sym 21) (ki 5)))]
 (.jump 4 [(.sym 28)]))) (.join 4 1 (.ite (.sym 28) (wrapBinds [(.ev (.ld false 1 (.sym 2) (.sym 3))),
 (.ev (.nn (.sym 29))),
 (.ev (.padd 12 (.sym 30))),
 (.ev (.ld false 1 (.sym 2) (.sym 31))),
 (.ev (.padd 2 (.sym 4))),
 (.ev (.ld false 1 (.sym 2) (.sym 33))),
 (.ev (.eaddr 3 (.sym 32) (.sym 34))),
 (.ev (.padd 0 (.sym 4))),
 (.ev (.ld false 1 (.sym 2) (.sym 36))),
 (.ev (.bin .eql .int (.sym 37) (ki 4))),
 (.ev (.padd 1 (.sym 4))),
 (.ev (.ld false 1 (.sym 2) (.sym 39))),
 (.wcall [] 271 (.sym 2) [(.sym 35),(.sym 38),(.sym 40),(kb true)] []),
 (.wcallv [] (.sym 19) (.tget 1 (.sym 41)) [] [])]
 (.jump 4 [(.tget 1 (.sym 42))])) (wrapBinds [(.ev (.bin .eql .int (.sym 21) (ki 8)))]
 (.join 5 1 (.ite (.sym 29) (wrapBinds [(.ev (.nn (.sym 18))),
 (.ev (.padd 0 (.sym 30))),
 (.ev (.ld false 1 (.sym 2) (.sym 31)))]
 (.join 6 1 (.ite (.sym 32) (wrapBinds [(.ev (.nn (.sym 18))),
 (.ev (.padd 2 (.sym 33))),
 (.ev (.ld false 1 (.sym 2) (.sym 34))),
 (.ev (.padd 2 (.sym 4))),
 (.ev (.ld false 1 (.sym 2) (.sym 36))),
 (.ev (.mm true (.sym 35) (.sym 37))),
 (.ev (.nn (.sym 18))),
 (.ev (.padd 2 (.sym 39))),
 (.ev (.sto 1 (.sym 2) (.sym 40) (.sym 38)))]
 (.jump 6 [(.sym 41)])) (.jump 6 [(.sym 2)])) (wrapBinds [(.wcallv [] (.sym 19) (.sym 33) [] [])]
 (.jump 5 [(.tget 1 (.sym 34))])))) (wrapBinds [(.ev (.bin .eql .int (.sym 21) (ki 9)))]
 (.join 6 1 (.ite (.sym 30) (wrapBinds [(.ev (.nn (.sym 18))),
 (.ev (.padd 3 (.sym 31))),
 (.ev (.ld false 1 (.sym 2) (.sym 32))),
 (.ev (.guard (.sym 33) false (.nn (.sym 18)))),
 (.ev (.guard (.sym 33) false (.padd 0 (.sym 34)))),
 (.ev (.guard (.sym 33) false (.ld false 1 (.sym 2) (.sym 35)))),
 (.ev (.ite (.sym 33) (kb true) (.sym 36))),
 (.ev (.nn (.sym 18))),
 (.ev (.padd 3 (.sym 38))),
 (.ev (.sto 1 (.sym 2) (.sym 39) (.sym 37)))]
 (.jump 6 [(.sym 40)])) (wrapBinds [(.ev (.bin .eql .int (.sym 21) (ki 10)))]
 (.join 7 1 (.ite (.sym 31) (wrapBinds [(.ev (.nn (.sym 18))),
 (.ev (.padd 4 (.sym 32))),
 (.ev (.ld false 1 (.sym 2) (.sym 33))),
 (.ev (.guard (.sym 34) false (.nn (.sym 18)))),
 (.ev (.guard (.sym 34) false (.padd 0 (.sym 35)))),
 (.ev (.guard (.sym 34) false (.ld false 1 (.sym 2) (.sym 36)))),
 (.ev (.ite (.sym 34) (kb true) (.sym 37))),
 (.ev (.nn (.sym 18))),
 (.ev (.padd 4 (.sym 39))),
 (.ev (.sto 1 (.sym 2) (.sym 40) (.sym 38)))]
 (.jump 7 [(.sym 41)])) (.jump 7 [(.sym 2)])) (.jump 6 [(.sym 32)])))) (.jump 5 [(.sym 31)])))) (.jump 4 [(.sym 30)])))) (.jump 3 [(.sym 29)]))))) (.jump 2 [(.sym 27)])))) (.jump 1 [(.sym 26)]))))) (.jump 0 [(.sym 23),(.sym 22),(.sym 24)])))) (.ret (.tcons (ki 0) (.tcons (.sym 24) .tnil)))))))))
noncomputable def e213:Entry:={ f:=213,kn:=.plain,cf:={ (autoCfg false ([1000053,1000071,1000089]++WRY) PNY [] [] Tryz.f213) with nils:=true,stk:=true },own:=false,ones:=[true,false],t:=t213 }
theorem ok213:EntOk Tryz.prog e213:=EntOk.ofPlain Tryz.func213 (by kernel_rfl) (by kernel_rfl)

noncomputable def t216:T:=(wrapBinds [(.ev (.mkptr (.cons (.scal (.sym 0)) .nil))),
 (.ev (.ld false 1 (.sym 2) (.sym 3))),
 (.call [] 110 (.sym 2) [(.sym 4)] [true]),
 (.ev (.un .not (.sym 5)))]
 (.ite (.sym 6) (.ret (.tcons (ki 1) (.tcons (.sym 2) .tnil))) (wrapBinds [(.ev (.mkfn 273 .tnil (.tcons (.sym 3) .tnil))),
 (.call [] 272 (.sym 2) [(.sym 1),(.sym 7)] [true])]
 (.ite (.sym 8) (.ret (.tcons (ki 2) (.tcons (.sym 2) .tnil))) (wrapBinds [(.ev (.ld false 1 (.sym 2) (.sym 3))),
 (.ev (.nn (.sym 9))),
 (.ev (.padd 4 (.sym 10))),
 (.ev (.ld false 1 (.sym 2) (.sym 11))),
 (.wcall [] 275 (.sym 2) [(.sym 12)] [true]),
 (.ev (.lenL (.sym 1)))]
 (.join 0 3 (.loop 1 [(ki 0),(.tget 1 (.sym 13))] (wrapBinds [(.ev (.bin .lss .int (.sym 15) (.sym 14)))]
 (.ite (.sym 17) (.join 2 30 (wrapBinds [(.ev (.eaddr 7 (.sym 1) (.sym 15))),
 (.ev (.ld true 7 (.sym 16) (.sym 18))),
 (.ev (.aggN 7 (.sym 19))),
 (.call [] 276 (.sym 16) [(agc 7 (.sym 20))] [false]),
 (.ev (.aggN 7 (.sym 21))),
 (.ev (.m4 (.getok (.agg [0,0,0,0,0,0,0])) (.sym 16) (.tget 0 (.sym 13)) (agc 7 (.sym 22)) (ki 0))),
 (.ev (.un .not (.tget 1 (.sym 23)))),
 (.ev (.guard (.sym 24) false (.cell 6 (.sym 20)))),
 (.ev (.guard (.sym 24) false (.tget 0 (.sym 23)))),
 (.ev (.guard (.sym 24) false (.bin .lss .int (.sym 25) (.sym 26)))),
 (.ev (.ite (.sym 24) (kb true) (.sym 27)))]
 (.join 3 1 (.ite (.sym 28) (wrapBinds [(.ev (.m4 (.put (.agg [0,0,0,0,0,0,0])) (.sym 16) (.tget 0 (.sym 13)) (agc 7 (.sym 22)) (.cell 6 (.sym 20))))]
 (.jump 3 [(.sym 29)])) (.jump 3 [(.sym 16)])) (.jump 2 [(.tget 0 (.sym 23)),(.tget 1 (.sym 23)),(.sym 18),(.sym 19),(agc 7 (.sym 20)),(.sym 21),(.tcons (.tget 0 (.sym 23)) (.tcons (.tget 1 (.sym 23)) .tnil)),(agc 7 (.sym 22)),(.tcons (.tget 0 (.sym 23)) (.tcons (.tget 1 (.sym 23)) .tnil)),(.tget 0 (.sym 23)),(.tget 1 (.sym 23)),(.tget 1 (.sym 23)),(.sym 24),(.sym 24),(.sym 28),(.cell 0 (.sym 20)),(.cell 1 (.sym 20)),(.cell 2 (.sym 20)),(.cell 3 (.sym 20)),(.cell 4 (.sym 20)),(.cell 5 (.sym 20)),(.cell 6 (.sym 20)),(.cell 0 (.sym 22)),(.cell 1 (.sym 22)),(.cell 2 (.sym 22)),(.cell 3 (.sym 22)),(.cell 4 (.sym 22)),(.cell 5 (.sym 22)),(.cell 6 (.sym 22)),(.sym 29)]))) (wrapBinds [(.ev (.bin .add .int (.sym 15) (ki 1)))]
 (.jump 1 [(.sym 48),(.sym 47)]))) (.jump 0 [(.sym 15),(.sym 17),(.sym 16)])))) (wrapBinds [(.ev (.m4 .mlen (.sym 17) (.tget 0 (.sym 13)) .nil .nil)),
 (.ev (.bin .gtr .int (.sym 18) (ki 5000)))]
 (.ite (.sym 19) (.ret (.tcons (ki 4) (.tcons (.sym 17) .tnil))) (wrapBinds [(.ev (.ld false 1 (.sym 17) (.sym 3))),
 (.ev (.nn (.sym 20))),
 (.ev (.padd 4 (.sym 21))),
 (.ev (.sto 1 (.sym 17) (.sym 22) (.tget 0 (.sym 13))))]
 (.ret (.tcons (ki 0) (.tcons (.sym 23) .tnil))))))))))))
noncomputable def e216:Entry:={ f:=216,kn:=.plain,cf:={ (autoCfg false ([]++WRY) PNY [] [] Tryz.f216) with nils:=true,stk:=true,maps:=[126] },own:=false,ones:=[true,true],t:=t216 }
theorem ok216:EntOk Tryz.prog e216:=EntOk.ofPlain Tryz.func216 (by kernel_rfl) (by kernel_rfl)

noncomputable def t219:T:=(wrapBinds [(.ev (.nn (.sym 0))),
 (.ev (.padd 1 (.sym 3))),
 (.ev (.ld false 1 (.sym 2) (.sym 4))),
 (.ev (.ld false 1 (.sym 2) (.sym 1))),
 (.ev (.eaddr 1 (.sym 6) (ki 1))),
 (.ev (.ld false 1 (.sym 2) (.sym 7))),
 (.ev (.ld false 1 (.sym 2) (.sym 1))),
 (.ev (.eaddr 1 (.sym 9) (ki 2))),
 (.ev (.ld false 1 (.sym 2) (.sym 10))),
 (.ev (.eaddr 1 (.sym 5) (.sym 8))),
 (.ev (.sto 1 (.sym 2) (.sym 12) (.sym 11)))]
 (.ret (.tcons .tnil (.tcons (.sym 13) .tnil))))
noncomputable def e219:Entry:={ f:=219,kn:=.plain,cf:={ (autoCfg false ([]++WRY) PNY [] [] Tryz.f219) with nils:=true,stk:=true },own:=false,ones:=[true,true],t:=t219 }
theorem ok219:EntOk Tryz.prog e219:=EntOk.ofPlain Tryz.func219 (by kernel_rfl) (by kernel_rfl)

noncomputable def t220:T:=(wrapBinds [(.ev (.mkptr (.cons (.scal (.sym 2)) .nil))),
 (.ev (.mkptr (.aggN 4 (.sym 3)))),
 (.ev (.ld false 1 (.sym 4) (.sym 5))),
 (.ev (.nn (.sym 0))),
 (.ev (.padd 0 (.sym 8))),
 (.ev (.padd 10 (.sym 9))),
 (.ev (.padd 0 (.sym 10))),
 (.ev (.ld false 1 (.sym 4) (.sym 11))),
 (.ev (.lenL (.sym 12))),
 (.ev (.bin .geq .int (.sym 7) (.sym 13)))]
 (.join 0 0 (.ite (.sym 14) (.pcall 212 (.sym 4) [(ki 2)] [] [] [] (.jump 0 [])) (.jump 0 [])) (wrapBinds [(.ev (.mkfn 277 .tnil (.tcons (.sym 6) (.tcons (.sym 5) .tnil))))]
 (.wpcall 217 (.sym 4) [(.sym 0),(.sym 1),(.sym 15)] [] [] [] (.ret (.tcons .tnil (.tcons (.tget 1 (.sym 16)) .tnil)))))))
noncomputable def e220:Entry:={ f:=220,kn:=.plain,cf:={ (autoCfg false ([]++WRY) PNY [] [] Tryz.f220) with nils:=true,stk:=true },own:=false,ones:=[true,true,true,false],t:=t220 }
theorem ok220:EntOk Tryz.prog e220:=EntOk.ofPlain Tryz.func220 (by kernel_rfl) (by kernel_rfl)

noncomputable def t221:T:=(wrapBinds [(.ev (.ld false 1 (.sym 3) (.sym 1))),
 (.ev (.nn (.sym 4))),
 (.ev (.padd 31 (.sym 5))),
 (.ev (.ld false 1 (.sym 3) (.sym 6))),
 (.ev (.ld false 1 (.sym 3) (.sym 2))),
 (.ev (.eaddr 1 (.sym 8) (ki 0))),
 (.ev (.ld false 1 (.sym 3) (.sym 9))),
 (.ev (.ld false 1 (.sym 3) (.sym 2))),
 (.ev (.eaddr 1 (.sym 11) (ki 3))),
 (.ev (.ld false 1 (.sym 3) (.sym 12))),
 (.wcall [] 222 (.sym 3) [(.sym 7),(.sym 10),(.sym 0),(.sym 13)] [true,true])]
 (.pcall 212 (.tget 1 (.sym 14)) [(.tget 1 (.tget 0 (.sym 14)))] [] [] [] (wrapBinds [(.ev (.ld false 1 (.tget 1 (.sym 14)) (.sym 1))),
 (.ev (.nn (.sym 16))),
 (.ev (.padd 31 (.sym 17))),
 (.ev (.ld false 1 (.tget 1 (.sym 14)) (.sym 18))),
 (.wcall [] 112 (.tget 1 (.sym 14)) [(.sym 19)] [true]),
 (.ev (.eaddr 7 (.tget 0 (.sym 20)) (.tget 0 (.tget 0 (.sym 14))))),
 (.ev (.padd 5 (.sym 21))),
 (.ev (.ld false 1 (.tget 1 (.sym 20)) (.sym 22)))]
 (.ret (.tcons (.sym 23) (.tcons (.tget 1 (.sym 20)) .tnil))))))
noncomputable def e221:Entry:={ f:=221,kn:=.plain,cf:={ (autoCfg false ([]++WRY) PNY [] [] Tryz.f221) with nils:=true,stk:=true },own:=false,ones:=[true,true,true],t:=t221 }
theorem ok221:EntOk Tryz.prog e221:=EntOk.ofPlain Tryz.func221 (by kernel_rfl) (by kernel_rfl)

noncomputable def t271:T:=(wrapBinds [(.ev (.nn (.sym 0))),
 (.ev (.padd 2 (.sym 5))),
 (.ev (.ld false 1 (.sym 4) (.sym 6))),
 (.ev (.un .not (.sym 7))),
 (.ev (.guard (.sym 8) false (.nn (.sym 0)))),
 (.ev (.guard (.sym 8) false (.padd 1 (.sym 9)))),
 (.ev (.guard (.sym 8) false (.ld false 1 (.sym 4) (.sym 10)))),
 (.ev (.guard (.sym 8) false (.bin .gtr .int (.sym 2) (.sym 11)))),
 (.ev (.ite (.sym 8) (kb true) (.sym 12))),
 (.ev (.guard (.sym 13) false (.nn (.sym 0)))),
 (.ev (.guard (.sym 13) false (.padd 1 (.sym 14)))),
 (.ev (.guard (.sym 13) false (.ld false 1 (.sym 4) (.sym 15)))),
 (.ev (.guard (.sym 13) false (.bin .eql .int (.sym 2) (.sym 16)))),
 (.ev (.guard (.sym 13) false (.guard (.sym 17) true (.bin .eql .bool (.sym 1) (.sym 3))))),
 (.ev (.guard (.sym 13) false (.ite (.sym 17) (.sym 18) (kb false)))),
 (.ev (.ite (.sym 13) (kb true) (.sym 19)))]
 (.join 0 1 (.ite (.sym 20) (wrapBinds [(.ev (.nn (.sym 0))),
 (.ev (.padd 0 (.sym 21))),
 (.ev (.sto 1 (.sym 4) (.sym 22) (.sym 1)))]
 (.jump 0 [(.sym 23)])) (.jump 0 [(.sym 4)])) (wrapBinds [(.ev (.nn (.sym 0))),
 (.ev (.padd 1 (.sym 22))),
 (.ev (.ld false 1 (.sym 21) (.sym 23))),
 (.ev (.mm true (.sym 24) (.sym 2))),
 (.ev (.nn (.sym 0))),
 (.ev (.padd 1 (.sym 26))),
 (.ev (.sto 1 (.sym 21) (.sym 27) (.sym 25))),
 (.ev (.nn (.sym 0))),
 (.ev (.padd 2 (.sym 29))),
 (.ev (.sto 1 (.sym 28) (.sym 30) (kb true)))]
 (.ret (.tcons .tnil (.tcons (.sym 31) .tnil))))))
noncomputable def e271:Entry:={ f:=271,kn:=.plain,cf:={ (autoCfg false ([]++WRY) PNY [] [] Tryz.f271) with nils:=true,stk:=true },own:=false,ones:=[true,true,true,true],t:=t271 }
theorem ok271:EntOk Tryz.prog e271:=EntOk.ofPlain Tryz.func271 (by kernel_rfl) (by kernel_rfl)

noncomputable def t86w:T:=(.nilq (.sym 0) false (.ite (.sym 2) (.ret (.tcons (.const (.lst [])) (.tcons (.sym 1) .tnil))) (wrapBinds [(.ev (.newv 81 4 (.sym 1) (.const (.lst [])))),
 (.ev (.apph 81 4 32 (.sym 3) (.fstsl (.sym 1) (.const (.lst []))) (.sym 0)))]
 (.ret (.tcons (.apps (.sym 3) (.fstsl (.sym 1) (.const (.lst []))) (.sym 0)) (.tcons (.sym 4) .tnil))))))
noncomputable def e86w:Entry:={ f:=86,kn:=.plain,cf:={ (autoCfg false ([]++WRY) PNY [5,7] [] Tryz.f86) with nils:=true,stk:=true },own:=false,ones:=[true],t:=t86w }
theorem ok86w:EntOk Tryz.prog e86w:=EntOk.ofPlain Tryz.func86 (by kernel_rfl) (by kernel_rfl)

end Go.Am.Ra
