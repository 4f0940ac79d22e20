/-
  Several texts, one behind the other.
-/
import Derived.Test.YtdljkokeieeafaaGreatDoorAmFntoAmTabK
import Derived.Test.YtdljkokeieeafaaGreatDoorProg
import Derived.Laws.Bits64
set_option linter.unusedSimpArgs false
set_option linter.unusedVariables false
/-
 How the functions of the rally are read;the library's table that every store begins with.
-/
namespace Go.Am.Ra
open Go.Proofs

abbrev y0 : E := .sym 0
abbrev y1 : E := .sym 1
abbrev y2 : E := .sym 2
abbrev y3 : E := .sym 3
abbrev y4 : E := .sym 4
abbrev y5 : E := .sym 5
abbrev y6 : E := .sym 6
abbrev y7 : E := .sym 7
abbrev y8 : E := .sym 8
abbrev y9 : E := .sym 9
abbrev y10 : E := .sym 10
abbrev y11 : E := .sym 11
abbrev y12 : E := .sym 12
abbrev y13 : E := .sym 13
abbrev y14 : E := .sym 14
abbrev y15 : E := .sym 15
abbrev y16 : E := .sym 16
abbrev y17 : E := .sym 17
abbrev y18 : E := .sym 18
abbrev y19 : E := .sym 19
abbrev y20 : E := .sym 20
abbrev y21 : E := .sym 21
abbrev y22 : E := .sym 22
abbrev y23 : E := .sym 23
abbrev y24 : E := .sym 24
abbrev y25 : E := .sym 25
abbrev y26 : E := .sym 26
abbrev y27 : E := .sym 27
abbrev y28 : E := .sym 28
abbrev y29 : E := .sym 29
abbrev y30 : E := .sym 30
abbrev y31 : E := .sym 31
abbrev y32 : E := .sym 32
abbrev y33 : E := .sym 33
abbrev y34 : E := .sym 34
abbrev y35 : E := .sym 35
abbrev y36 : E := .sym 36
abbrev y37 : E := .sym 37
abbrev y38 : E := .sym 38
abbrev y39 : E := .sym 39
abbrev y40 : E := .sym 40
abbrev y41 : E := .sym 41
abbrev y42 : E := .sym 42
abbrev y43 : E := .sym 43
abbrev y44 : E := .sym 44
abbrev y45 : E := .sym 45
abbrev y46 : E := .sym 46
abbrev y47 : E := .sym 47
abbrev y48 : E := .sym 48
abbrev y49 : E := .sym 49
abbrev y50 : E := .sym 50
abbrev y51 : E := .sym 51
abbrev y52 : E := .sym 52
abbrev y53 : E := .sym 53
abbrev y54 : E := .sym 54
abbrev y55 : E := .sym 55
abbrev y56 : E := .sym 56
abbrev y57 : E := .sym 57
abbrev y58 : E := .sym 58
abbrev y59 : E := .sym 59
abbrev y60 : E := .sym 60
abbrev y61 : E := .sym 61
abbrev y62 : E := .sym 62
abbrev y63 : E := .sym 63
abbrev y64 : E := .sym 64
abbrev y65 : E := .sym 65
abbrev y66 : E := .sym 66
abbrev y67 : E := .sym 67
abbrev y68 : E := .sym 68
abbrev y69 : E := .sym 69
abbrev y70 : E := .sym 70
abbrev y71 : E := .sym 71
abbrev y72 : E := .sym 72
abbrev y73 : E := .sym 73
abbrev y74 : E := .sym 74
abbrev y75 : E := .sym 75
abbrev y76 : E := .sym 76
abbrev y77 : E := .sym 77
abbrev y78 : E := .sym 78
abbrev y79 : E := .sym 79
abbrev y80 : E := .sym 80
abbrev y81 : E := .sym 81
abbrev y82 : E := .sym 82
abbrev y83 : E := .sym 83
abbrev y84 : E := .sym 84
abbrev y85 : E := .sym 85
abbrev y86 : E := .sym 86
abbrev y87 : E := .sym 87
abbrev y88 : E := .sym 88
abbrev y89 : E := .sym 89
abbrev y90 : E := .sym 90
abbrev y91 : E := .sym 91
abbrev y92 : E := .sym 92
abbrev y93 : E := .sym 93
abbrev y94 : E := .sym 94
abbrev y95 : E := .sym 95
abbrev y96 : E := .sym 96
abbrev y97 : E := .sym 97
abbrev y98 : E := .sym 98
abbrev y99 : E := .sym 99
def WRY:List Nat:=[37,15,33,83,148,149,150,151,152,153,154,155,156,157,158,159,160,161,162,216,217,213,215,112,222,52,220,221,223,279,271,270,20,38,93,182,99,246,287,186,275,278]
def PNY:List Nat:=[211,212,214,148,149,150,151,152,153,154,155,156,157,158,159,160,161,162,217,220,221,223,1000038]
abbrev l' (a b : E) : E := .ld false 1 a b
abbrev g' (a b : E) : Bind := .ev (.guard a true b)
abbrev f' (a b : E) : Bind := .ev (.guard a false b)
abbrev G' (a b : E) : E := .guard a true b
abbrev F' (a b : E) : E := .guard a false b
abbrev v' (a : E) : Bind := .ev a
abbrev t' (a : E) : E := .tget 1 a
abbrev s' (a : E) : E := .tget 0 a
abbrev p' (n : Nat) (a : E) : E := .padd n a
abbrev q' (n : Nat) (a : E) : E := .cell n a
abbrev C' (a b : E) : E := .tcons a (.tcons b .tnil)
abbrev D' (a b c : E) : E := .tcons a (.tcons b (.tcons c .tnil))
abbrev R' (a b : E) : T := .ret (C' a b)
abbrev X' (o : BinOp) (a b : E) : E := .bin o .int a b
abbrev P' (a b : E) : E := .bin .add .int a b
abbrev M' (a b : E) : E := .bin .sub .int a b
abbrev Q' (a b : E) : E := .bin .eql .int a b
abbrev c' (f : Nat) (h : E) (l : List E) (r : List Bool) : Bind := .call [] f h l r
abbrev w' (f : Nat) (h : E) (l : List E) (r : List Bool) : Bind := .wcall [] f h l r
abbrev W' (l : List Bind) (t : T) : T := wrapBinds l t
abbrev Z' (a : Array UInt8) : E := .const (.v (.string ⟨a⟩))
abbrev k' (n : Int) : E := .const (.v (.int .u64 n))
abbrev K' (n : Int) : E := .const (.v (.int .u8 n))
abbrev m' (o : MOp) (a : E) : E := .m4 o a .nil .nil .nil
abbrev n' (o : MOp) (a b : E) : E := .m4 o a b .nil .nil
abbrev o' (o : MOp) (a b c : E) : E := .m4 o a b c .nil
abbrev z' (a : E) : E := .scal a
abbrev j' (a b : E) : E := .cons a b
abbrev i' (a b c : E) : E := .ite a b c
abbrev J' (n : Nat) (l : List E) : T := .jump n l
abbrev I' (a : E) (b c : T) : T := .ite a b c
abbrev N' (a : E) : E := .un .not a
abbrev e' (f : Nat) (g : Func) (r o : Bool) (w m : List Nat) (z : List (Nat × Nat)) (l : List Bool) (t : T) : Entry := { f := f, kn := .plain, cf := { (autoCfg r (w ++ WRY) PNY m z g) with nils := true, stk := true }, own := o, ones := l, t := t }
abbrev ki (n:Int):E:=.const (.v (.int .i64 n))
abbrev kb (b:Bool):E:=.const (.v (.bool b))
def agcFrom (x:E):Nat→Nat→E
 | _,0=>.nil
 | k,n+1=>.cons (.cell k x) (agcFrom x (k+1) n)
def agc (n:Nat)(x:E):E:=agcFrom x 0 n
abbrev i (n:Int):D:=.v (.int .i64 n)
abbrev b (x:Bool):D:=.v (.bool x)
def b0:List D:=[.glb 7 405 [.int .u8 0,.int .u8 1,.int .u8 56,.int .u8 2,.int .u8 57,.int .u8 49,.int .u8 28,.int .u8 3,.int .u8 61,.int .u8 58,.int .u8 42,.int .u8 50,.int .u8 38,.int .u8 29,.int .u8 17,.int .u8 4,.int .u8 62,.int .u8 47,.int .u8 59,.int .u8 36,.int .u8 45,.int .u8 43,.int .u8 51,.int .u8 22,.int .u8 53,.int .u8 39,.int .u8 33,.int .u8 30,.int .u8 24,.int .u8 18,.int .u8 12,.int .u8 5,.int .u8 63,.int .u8 55,.int .u8 48,.int .u8 27,.int .u8 60,.int .u8 41,.int .u8 37,.int .u8 16,.int .u8 46,.int .u8 35,.int .u8 44,.int .u8 21,.int .u8 52,.int .u8 32,.int .u8 23,.int .u8 11,.int .u8 54,.int .u8 26,.int .u8 40,.int .u8 15,.int .u8 34,.int .u8 20,.int .u8 31,.int .u8 10,.int .u8 25,.int .u8 14,.int .u8 19,.int .u8 9,.int .u8 13,.int .u8 8,.int .u8 7,.int .u8 6]]
theorem ofNd {P:Program}{e:Entry}(h:EntOk P { e with nd:=false }):EntOk P e:=h
theorem b0_ok:isBase b0=true:=rfl

end Go.Am.Ra

/-
 The chains of a log,as texts.
-/
namespace Go.Am.Ra
open Go.Proofs

noncomputable def u3:U:=(ups [.call 5 y3 [y0,(ki 30)] [true],
 .ev (.un .not y4),
 .chain true y5 (ups [.ev (.lenL y1),
 .ev (.bin .gtr .int y6 (ki 30))]
 (.ret y7)),
 .chain true y6 (ups [.ev (.lenL y2),
 .ev (.bin .gtr .int y7 (ki 30))]
 (.ret y8))]
 (.ite y7 (ups [.call 6 y3 [] [true]]
 (.ret (.tcons y8 (.tcons y3 .tnil)))) (ups [.join 0 1 (.loop 1 [(.const (.lst [])),(ki 0)] (ups [.ev (.lenL y1),
 .ev (.bin .lss .int y9 y10)]
 (.ite y11 (ups [.join 2 1 (ups [.ev (.eaddr 2 y1 y9),
 .chk (.padd 0 y12),
 .ev (.ld false 1 y3 (.padd 0 y12)),
 .ev (.lcons (.scal y13) (.const (.lst []))),
 .ev (.app 1 16 y8 y14)]
 (.jump 2 [y15] [])),
 .ev (.bin .add .int y9 (ki 1))]
 (.jump 1 [y12,y13] [])) (.jump 0 [y8] [])))),
 .call 5 y3 [y8,(ki 30)] [true],
 .ev (.un .not y9)]
 (.ite y10 (ups [.call 6 y3 [] [true]]
 (.ret (.tcons y11 (.tcons y3 .tnil)))) (ups [.call 8 y3 [y0] [true],
 .call 9 y3 [y0] [true],
 .call 7 y3 [y11,y12] [true],
 .ev (.un .not y13)]
 (.ite y14 (.ret (.tcons (kb false) (.tcons y3 .tnil))) (ups [.call 9 y3 [y8] [true],
 .ev (.lenL y1),
 .ev (.bin .sub .int y16 (ki 1)),
 .join 0 1 (.loop 1 [(ki (-1)),y17] (ups [.ev (.bin .geq .int y19 (ki 0))]
 (.ite y20 (ups [.join 2 1 (ups [.ev (.eaddr 2 y1 y19),
 .chk (.padd 1 y21),
 .ev (.ld false 1 y3 (.padd 1 y21)),
 .ev (.eaddr 1 y15 y19),
 .ev (.ld false 1 y3 y23),
 .ev (.bin .neq .str y22 y24),
 .phi y25 [y19] [y18]]
 (.jump 2 [y26] [])),
 .ev (.bin .sub .int y19 (ki 1))]
 (.jump 1 [y21,y22] [])) (.jump 0 [y18] [])))),
 .ev (.lenL y1),
 .ev (.lenL y2),
 .ev (.bin .neq .int y19 y20),
 .join 0 1 (.ite y21 (ups [.ev (.lenL y1),
 .ev (.lenL y2),
 .ev (.mm false y22 y23)]
 (.jump 0 [y24] [])) (.jump 0 [(ki (-1))] [])),
 .ev (.lenL y1),
 .ev (.lenL y2),
 .ev (.mm false y23 y24),
 .ev (.bin .sub .int y25 (ki 1)),
 .join 0 1 (.loop 1 [y22,y26] (ups [.ev (.bin .geq .int y28 (ki 0))]
 (.ite y29 (ups [.join 2 1 (ups [.ev (.eaddr 2 y1 y28),
 .ev (.ld true 2 y3 y30),
 .ev (.eaddr 2 y2 y28),
 .ev (.ld true 2 y3 y32),
 .ev (.bin .neq (.agg [2,2]) y31 y33),
 .phi y34 [y28] [y27]]
 (.jump 2 [y35] [])),
 .ev (.bin .sub .int y28 (ki 1))]
 (.jump 1 [y30,y31] [])) (.jump 0 [y27] [])))),
 .call 10 y3 [y1] [true],
 .ev (.bin .eql .int y28 y18),
 .chain false y29 (ups [.call 11 y3 [y1,y2] [true],
 .ev (.bin .eql .int y30 y27)]
 (.ret y31)),
 .chain false y30 (ups [.call 11 y3 [y2,y1] [true],
 .ev (.bin .eql .int y31 y27)]
 (.ret y32)),
 .chain false y31 (ups [.call 6 y3 [] [true]]
 (.ret y32))]
 (.ret (.tcons y32 (.tcons y3 .tnil))))))))))
theorem ku3:UOk Tryz.prog 3 .plain { (autoCfg true ([]++WRY) PNY [] [] Tryz.f3) with nils:=true,stk:=true } [true,true,true] u3:=UOk.plain Tryz.func3 (by kernel_rfl) (by kernel_rfl)

noncomputable def u5:U:=(ups [.join 0 0 (.loop 1 [(ki 0)] (ups [.ev (.lenL y0),
 .ev (.bin .lss .int y3 y4)]
 (.ite y5 (ups [.join 2 0 (ups [.ev (.eaddr 1 y0 y3),
 .ev (.ld false 1 y2 y6),
 .ev (.lenS y7),
 .ev (.bin .gtr .int y8 (ki 300))]
 (.ite y9 (.ret (.tcons (kb false) (.tcons y2 .tnil))) (.jump 2 [] []))),
 .ev (.bin .add .int y3 (ki 1))]
 (.jump 1 [y6] [])) (.jump 0 [] [])))),
 .ev (.lenL y0),
 .ev (.bin .leq .int y3 y1)]
 (.ret (.tcons y4 (.tcons y2 .tnil))))
theorem ku5:UOk Tryz.prog 5 .plain { (autoCfg true ([]++WRY) PNY [] [] Tryz.f5) with nils:=true,stk:=true } [true,true] u5:=UOk.plain Tryz.func5 (by kernel_rfl) (by kernel_rfl)

noncomputable def u7:U:=(ups [.ev (.lenL y0),
 .ev (.lenL y1),
 .ev (.bin .neq .int y3 y4)]
 (.ite y5 (.ret (.tcons (kb false) (.tcons y2 .tnil))) (ups [.join 0 0 (.loop 1 [(ki 0)] (ups [.ev (.lenL y0),
 .ev (.bin .lss .int y6 y7)]
 (.ite y8 (ups [.join 2 0 (ups [.ev (.eaddr 1 y0 y6),
 .ev (.ld false 1 y2 y9),
 .ev (.eaddr 1 y1 y6),
 .ev (.ld false 1 y2 y11),
 .ev (.bin .neq .str y10 y12)]
 (.ite y13 (.ret (.tcons (kb false) (.tcons y2 .tnil))) (.jump 2 [] []))),
 .ev (.bin .add .int y6 (ki 1))]
 (.jump 1 [y9] [])) (.jump 0 [] []))))]
 (.ret (.tcons (kb true) (.tcons y2 .tnil))))))
theorem ku7:UOk Tryz.prog 7 .plain { (autoCfg true ([]++WRY) PNY [] [] Tryz.f7) with nils:=true,stk:=true } [true,true] u7:=UOk.plain Tryz.func7 (by kernel_rfl) (by kernel_rfl)

noncomputable def u8:U:=(ups [.ev (.lenL y0),
 .join 0 1 (.loop 1 [(.const (.v (.int .u64 14695981039346656037))),(.const (.lst [])),(ki 0)] (ups [.ev (.bin .lss .int y5 y2)]
 (.ite y6 (ups [.join 2 2 (ups [.ev (.eaddr 1 y0 y5),
 .ev (.ld false 1 y1 y7),
 .call 21 y1 [y3,y8] [true],
 .call 22 y1 [y9] [true],
 .ev (.lcons (.scal y10) (.const (.lst []))),
 .ev (.app 1 16 y4 y11)]
 (.jump 2 [y9,y12] [])),
 .ev (.bin .add .int y5 (ki 1))]
 (.jump 1 [y7,y8,y9] [])) (.jump 0 [y4] []))))]
 (.ret (.tcons y3 (.tcons y1 .tnil))))
theorem ku8:UOk Tryz.prog 8 .plain { (autoCfg true ([]++WRY) PNY [] [] Tryz.f8) with nils:=true,stk:=true } [true] u8:=UOk.plain Tryz.func8 (by kernel_rfl) (by kernel_rfl)

noncomputable def u9:U:=(ups [.join 0 1 (.loop 1 [(.const (.v (.int .u64 14695981039346656037))),(.const (.lst [])),(ki 0)] (ups [.ev (.lenL y0),
 .ev (.bin .lss .int y4 y5)]
 (.ite y6 (ups [.join 2 2 (ups [.join 3 7 (.loop 4 [y2,(ki 0)] (ups [.ev (.eaddr 1 y0 y4),
 .ev (.ld false 1 y1 y9),
 .ev (.lenS y10),
 .ev (.bin .lss .int y8 y11)]
 (.ite y12 (ups [.join 5 1 (ups [.ev (.eaddr 1 y0 y4),
 .ev (.ld false 1 y1 y13),
 .ev (.m4 .sidx y14 y8 .nil .nil),
 .ev (.conv .u64 y15),
 .ev (.bin .xor .int y7 y16),
 .ev (.bin .mul .int y17 (.const (.v (.int .u64 1099511628211))))]
 (.jump 5 [y18] [])),
 .ev (.bin .add .int y8 (ki 1))]
 (.jump 4 [y13,y14] [])) (.jump 3 [y7,y8,y8,y9,y10,y11,y12] [])))),
 .ev (.bin .mul .int y7 (.const (.v (.int .u64 1099511628211)))),
 .join 3 5 (.loop 4 [(.const (.v (.string ⟨#[]⟩))),y14,(ki 0)] (ups [.ev (.bin .lss .int y17 (ki 16))]
 (.ite y18 (ups [.join 5 2 (ups [.ev (.bin .rem .int y16 (.const (.v (.int .u64 16)))),
 .ev (.conv .i64 y19),
 .ev (.bin .add .int y20 (ki 1)),
 .ev (.m4 .ssub (.const (.v (.string ⟨#[48,49,50,51,52,53,54,55,56,57,97,98,99,100,101,102]⟩))) y20 y21 .nil),
 .ev (.bin .add .str y22 y15),
 .ev (.bin .quo .int y16 (.const (.v (.int .u64 16))))]
 (.jump 5 [y23,y24] [])),
 .ev (.bin .add .int y17 (ki 1))]
 (.jump 4 [y19,y20,y21] [])) (.jump 3 [y15,y16,y17,y17,y18] [])))),
 .ev (.lcons (.scal y15) (.const (.lst []))),
 .ev (.app 1 16 y3 y20)]
 (.jump 2 [y14,y21] [])),
 .ev (.bin .add .int y4 (ki 1))]
 (.jump 1 [y7,y8,y9] [])) (.jump 0 [y3] []))))]
 (.ret (.tcons y2 (.tcons y1 .tnil))))
theorem ku9:UOk Tryz.prog 9 .plain { (autoCfg true ([]++WRY) PNY [] [] Tryz.f9) with nils:=true,stk:=true } [true] u9:=UOk.plain Tryz.func9 (by kernel_rfl) (by kernel_rfl)

noncomputable def u10:U:=(ups [.call 23 y1 [y0] [true],
 .call 8 y1 [y2] [true],
 .ev (.lenL y3),
 .join 0 0 (.loop 1 [(ki 0)] (ups [.ev (.bin .lss .int y5 y4)]
 (.ite y6 (ups [.join 2 0 (ups [.ev (.eaddr 1 y3 y5),
 .ev (.ld false 1 y1 y7),
 .ev (.eaddr 2 y0 y5),
 .chk (.padd 1 y9),
 .ev (.ld false 1 y1 (.padd 1 y9)),
 .ev (.bin .neq .str y10 y8)]
 (.ite y11 (.ret (.tcons y5 (.tcons y1 .tnil))) (.jump 2 [] []))),
 .ev (.bin .add .int y5 (ki 1))]
 (.jump 1 [y7] [])) (.jump 0 [] []))))]
 (.ret (.tcons (ki (-1)) (.tcons y1 .tnil))))
theorem ku10:UOk Tryz.prog 10 .plain { (autoCfg true ([]++WRY) PNY [] [] Tryz.f10) with nils:=true,stk:=true } [true] u10:=UOk.plain Tryz.func10 (by kernel_rfl) (by kernel_rfl)

noncomputable def u11:U:=(ups [.ev (.lenL y0),
 .ev (.lenL y1),
 .ev (.mm false y3 y4),
 .join 0 0 (.loop 1 [(ki 0)] (ups [.ev (.bin .lss .int y6 y5)]
 (.ite y7 (ups [.join 2 0 (ups [.ev (.eaddr 2 y0 y6),
 .ev (.ld true 2 y2 y8),
 .ev (.eaddr 2 y1 y6),
 .ev (.ld true 2 y2 y10),
 .ev (.bin .neq (.agg [2,2]) y9 y11)]
 (.ite y12 (.ret (.tcons y6 (.tcons y2 .tnil))) (.jump 2 [] []))),
 .ev (.bin .add .int y6 (ki 1))]
 (.jump 1 [y8] [])) (.jump 0 [] [])))),
 .ev (.lenL y0),
 .ev (.lenL y1),
 .ev (.bin .eql .int y6 y7)]
 (.ite y8 (.ret (.tcons (ki (-1)) (.tcons y2 .tnil))) (.ret (.tcons y5 (.tcons y2 .tnil)))))
theorem ku11:UOk Tryz.prog 11 .plain { (autoCfg true ([]++WRY) PNY [] [] Tryz.f11) with nils:=true,stk:=true } [true,true] u11:=UOk.plain Tryz.func11 (by kernel_rfl) (by kernel_rfl)

noncomputable def u21:U:=(ups [.ev (.lenS y1),
 .join 0 1 (.loop 1 [y0,(ki 0)] (ups [.ev (.bin .lss .int y5 y3)]
 (.ite y6 (ups [.join 2 1 (ups [.ev (.m4 .sidx y1 y5 .nil .nil),
 .ev (.conv .u64 y7),
 .ev (.bin .xor .int y4 y8),
 .ev (.bin .mul .int y9 (.const (.v (.int .u64 1099511628211))))]
 (.jump 2 [y10] [])),
 .ev (.bin .add .int y5 (ki 1))]
 (.jump 1 [y7,y8] [])) (.jump 0 [y4] [])))),
 .ev (.bin .mul .int y4 (.const (.v (.int .u64 1099511628211))))]
 (.ret (.tcons y5 (.tcons y2 .tnil))))
theorem ku21:UOk Tryz.prog 21 .plain { (autoCfg true ([]++WRY) PNY [] [] Tryz.f21) with nils:=true,stk:=true } [true,true] u21:=UOk.plain Tryz.func21 (by kernel_rfl) (by kernel_rfl)

noncomputable def u22:U:=(ups [.call 39 y1 [y0,(ki 16)] [true],
 .ev (.lenS y2),
 .ev (.bin .sub .int (ki 16) y3),
 .call 40 y1 [(.const (.v (.string ⟨#[48]⟩))),y4] [true],
 .ev (.bin .add .str y5 y2)]
 (.ret (.tcons y6 (.tcons y1 .tnil))))
theorem ku22:UOk Tryz.prog 22 .plain { (autoCfg true ([]++WRY) PNY [] [] Tryz.f22) with nils:=true,stk:=true } [true] u22:=UOk.plain Tryz.func22 (by kernel_rfl) (by kernel_rfl)

noncomputable def u23:U:=(ups [.ev (.lenL y0),
 .join 0 1 (.loop 1 [(.const (.lst [])),(ki 0)] (ups [.ev (.bin .lss .int y4 y2)]
 (.ite y5 (ups [.join 2 1 (ups [.ev (.eaddr 2 y0 y4),
 .ev (.ld true 2 y1 y6),
 .chk (.aggN 2 y7),
 .ev (.lcons (.scal (.cell 0 y7)) (.const (.lst []))),
 .ev (.app 1 16 y3 y8)]
 (.jump 2 [y9] [(.cell 0 y7),(.cell 0 y7),(.cell 1 y7)])),
 .ev (.bin .add .int y4 (ki 1))]
 (.jump 1 [y6,y7] [])) (.jump 0 [y3] []))))]
 (.ret (.tcons y3 (.tcons y1 .tnil))))
theorem ku23:UOk Tryz.prog 23 .plain { (autoCfg true ([]++WRY) PNY [] [] Tryz.f23) with nils:=true,stk:=true } [true] u23:=UOk.plain Tryz.func23 (by kernel_rfl) (by kernel_rfl)

noncomputable def u39:U:=(ups [.call 96 y2 [y0,y1] [true]]
 (.ret (.tcons y3 (.tcons y2 .tnil))))
theorem ku39:UOk Tryz.prog 39 .plain { (autoCfg true ([]++WRY) PNY [] [] Tryz.f39) with nils:=true,stk:=true } [true,true] u39:=UOk.plain Tryz.func39 (by kernel_rfl) (by kernel_rfl)

noncomputable def u96:U:=(ups [.ev (.bin .eql .int y1 (ki 10))]
 (.ite y3 (ups [.ev (.bin .lss .int y0 (.const (.v (.int .u64 100))))]
 (.ite y4 (ups [.ev (.conv .i64 y0),
 .call 175 y2 [y5] [true]]
 (.ret (.tcons y6 (.tcons y2 .tnil)))) (ups [.call 176 y2 [y0] [true]]
 (.ret (.deref .nil))))) (ups [.call 178 y2 [(.const (.lst [])),y0,y1,(kb false),(kb false)] [true,true]]
 (.ret (.tcons (.tget 1 y4) (.tcons y2 .tnil))))))
theorem ku96:UOk Tryz.prog 96 .plain { (autoCfg true ([]++WRY) PNY [] [] Tryz.f96) with nils:=true,stk:=true } [true,true] u96:=UOk.plain Tryz.func96 (by kernel_rfl) (by kernel_rfl)

noncomputable def u178:U:=(ups [.ev (.bin .lss .int y2 (ki 2)),
 .chain true y6 (ups [.ev (.bin .eql .int y2 (ki 10))]
 (.ret y7)),
 .chain true y7 (ups [.ev (.bin .gtr .int y2 (ki 36))]
 (.ret y8)),
 .join 0 0 (.ite y8 (.pan (.m4 .isifc (.ifc 9 (.const (.v (.string ⟨#[115,116,114,99,111,110,118,58,32,105,108,108,101,103,97,108,32,65,112,112,101,110,100,73,110,116,47,70,111,114,109,97,116,73,110,116,32,98,97,115,101]⟩)))) .nil .nil .nil) y5 [] []) (.jump 0 [] [])),
 .ev (.newb 344 65 y5 (.const (.agg [(.v (.int .u8 0)),(.v (.int .u8 0)),(.v (.int .u8 0)),(.v (.int .u8 0)),(.v (.int .u8 0)),(.v (.int .u8 0)),(.v (.int .u8 0)),(.v (.int .u8 0)),(.v (.int .u8 0)),(.v (.int .u8 0)),(.v (.int .u8 0)),(.v (.int .u8 0)),(.v (.int .u8 0)),(.v (.int .u8 0)),(.v (.int .u8 0)),(.v (.int .u8 0)),(.v (.int .u8 0)),(.v (.int .u8 0)),(.v (.int .u8 0)),(.v (.int .u8 0)),(.v (.int .u8 0)),(.v (.int .u8 0)),(.v (.int .u8 0)),(.v (.int .u8 0)),(.v (.int .u8 0)),(.v (.int .u8 0)),(.v (.int .u8 0)),(.v (.int .u8 0)),(.v (.int .u8 0)),(.v (.int .u8 0)),(.v (.int .u8 0)),(.v (.int .u8 0)),(.v (.int .u8 0)),(.v (.int .u8 0)),(.v (.int .u8 0)),(.v (.int .u8 0)),(.v (.int .u8 0)),(.v (.int .u8 0)),(.v (.int .u8 0)),(.v (.int .u8 0)),(.v (.int .u8 0)),(.v (.int .u8 0)),(.v (.int .u8 0)),(.v (.int .u8 0)),(.v (.int .u8 0)),(.v (.int .u8 0)),(.v (.int .u8 0)),(.v (.int .u8 0)),(.v (.int .u8 0)),(.v (.int .u8 0)),(.v (.int .u8 0)),(.v (.int .u8 0)),(.v (.int .u8 0)),(.v (.int .u8 0)),(.v (.int .u8 0)),(.v (.int .u8 0)),(.v (.int .u8 0)),(.v (.int .u8 0)),(.v (.int .u8 0)),(.v (.int .u8 0)),(.v (.int .u8 0)),(.v (.int .u8 0)),(.v (.int .u8 0)),(.v (.int .u8 0)),(.v (.int .u8 0))]))),
 .join 0 1 (.ite y3 (ups [.ev (.un .neg y1)]
 (.jump 0 [y10] [])) (.jump 0 [y1] [])),
 .call 243 y9 [y2] [true],
 .join 0 2 (.ite y11 (ups [.ev (.conv .u64 y2),
 .call 244 y9 [y12] [true],
 .ev (.conv .u64 y13),
 .ev (.conv .u64 y2),
 .ev (.conv .u64 y2),
 .ev (.bin .sub .int y16 (.const (.v (.int .u64 1)))),
 .join 1 3 (.loop 2 [y10,(ki 65),y9] (ups [.ev (.bin .geq .int y18 y15)]
 (.ite y21 (ups [.join 3 3 (ups [.ev (.bin .sub .int y19 (ki 1)),
 .ev (.bin .and .int y18 y17),
 .ev (.m4 .sidx (.const (.v (.string ⟨#[48,49,50,51,52,53,54,55,56,57,97,98,99,100,101,102,103,104,105,106,107,108,109,110,111,112,113,114,115,116,117,118,119,120,121,122]⟩))) y23 .nil .nil),
 .ev (.m4 (.elemA 65 1) (.fstid y5) y22 .nil .nil),
 .ev (.sto 1 y20 y25 y24),
 .ev (.bin .shr .int y18 y14)]
 (.jump 3 [y27,y22,y26] []))]
 (.jump 2 [y22,y23,y24] [])) (.jump 1 [y18,y19,y20] [])))),
 .ev (.bin .sub .int y19 (ki 1)),
 .ev (.m4 .sidx (.const (.v (.string ⟨#[48,49,50,51,52,53,54,55,56,57,97,98,99,100,101,102,103,104,105,106,107,108,109,110,111,112,113,114,115,116,117,118,119,120,121,122]⟩))) y18 .nil .nil),
 .ev (.m4 (.elemA 65 1) (.fstid y5) y21 .nil .nil),
 .ev (.sto 1 y20 y23 y22)]
 (.jump 0 [y21,y24] [])) (ups [.ev (.conv .u64 y2),
 .join 1 3 (.loop 2 [y10,(ki 65),y9] (ups [.ev (.bin .geq .int y13 y12)]
 (.ite y16 (ups [.join 3 3 (ups [.ev (.bin .sub .int y14 (ki 1)),
 .ev (.bin .quo .int y13 y12),
 .ev (.bin .mul .int y18 y12),
 .ev (.bin .sub .int y13 y19),
 .ev (.m4 .sidx (.const (.v (.string ⟨#[48,49,50,51,52,53,54,55,56,57,97,98,99,100,101,102,103,104,105,106,107,108,109,110,111,112,113,114,115,116,117,118,119,120,121,122]⟩))) y20 .nil .nil),
 .ev (.m4 (.elemA 65 1) (.fstid y5) y17 .nil .nil),
 .ev (.sto 1 y15 y22 y21)]
 (.jump 3 [y18,y17,y23] []))]
 (.jump 2 [y17,y18,y19] [])) (.jump 1 [y13,y14,y15] [])))),
 .ev (.bin .sub .int y14 (ki 1)),
 .ev (.m4 .sidx (.const (.v (.string ⟨#[48,49,50,51,52,53,54,55,56,57,97,98,99,100,101,102,103,104,105,106,107,108,109,110,111,112,113,114,115,116,117,118,119,120,121,122]⟩))) y13 .nil .nil),
 .ev (.m4 (.elemA 65 1) (.fstid y5) y16 .nil .nil),
 .ev (.sto 1 y15 y18 y17)]
 (.jump 0 [y16,y19] []))),
 .join 0 2 (.ite y3 (ups [.ev (.bin .sub .int y12 (ki 1)),
 .ev (.m4 (.elemA 65 1) (.fstid y5) y14 .nil .nil),
 .ev (.sto 1 y13 y15 (.const (.v (.int .u8 45))))]
 (.jump 0 [y14,y16] [])) (.jump 0 [y12,y13] []))]
 (.ite y4 (ups [.ev (.m4 (.asl 65 1) (.fstid y5) y14 .nil .nil),
 .ev (.apph 5 1 1 y15 y0 y16)]
 (.ret (.tcons (.tcons (.apps y15 y0 y16) (.tcons (.const (.v (.string ⟨#[]⟩))) .tnil)) (.tcons y17 .tnil)))) (ups [.ev (.m4 (.asl 65 1) (.fstid y5) y14 .nil .nil),
 .ev (.m4 .bstrh y15 y16 .nil .nil)]
 (.ret (.tcons (.tcons (.const (.lst [])) (.tcons y17 .tnil)) (.tcons y15 .tnil))))))
theorem ku178:UOk Tryz.prog 178 .plain { (autoCfg false ([]++WRY) PNY [12,101] [] Tryz.f178) with nils:=true,stk:=true } [true,true,true,true,true] u178:=UOk.plain Tryz.func178 (by kernel_rfl) (by kernel_rfl)

end Go.Am.Ra

/-
 Numbers in sixteen digits.
-/
namespace Go.Am.Ra

def dig (n:Nat):UInt8:=if n<10 then(48+n).toUInt8 else(87+n).toUInt8

def dg:Nat→Nat→List UInt8
 | 0,_=>[]
 | k+1,n=>dg k (n / 16)++[dig (n % 16)]

theorem dg_length:∀k n,(dg k n).length=k
 | 0,_=>rfl
 | k+1,n=>by simp[dg,dg_length k]

theorem dg_cons:∀k n,dg (k+1) n=dig ((n / 16 ^ k) % 16) :: dg k n
 | 0,n=>by simp[dg]
 | k+1,n=>by
  have h:=dg_cons k (n / 16)
  rw[dg,h,dg,Nat.div_div_eq_div_mul]
  simp[Nat.pow_succ,Nat.mul_comm]

theorem dg_zero {k n:Nat}(h:n<16 ^ k):∀r,dg (k+r) n=List.replicate r 48++dg k n
 | 0=>by simp
 | r+1=>by
  have h2:n / 16 ^ (k+r)=0:=Nat.div_eq_of_lt (Nat.lt_of_lt_of_le h (Nat.pow_le_pow_right (by omega) (by omega)))
  rw[←Nat.add_assoc,dg_cons,h2,dg_zero h r,List.replicate_succ]
  rfl

def jn (n:Nat):Nat:=if h:n<16 then 0 else jn (n / 16)+1
termination_by n

theorem jn_lt:∀(m n:Nat),n≤m→n / 16 ^ (jn n)<16
 | 0,n,h=>by
  have:n=0:=by omega
  subst this
  simp
 | m+1,n,h=>by
  rw[jn]
  split
  ·rename_i h1;simpa using h1
  ·rename_i h1
   have:=jn_lt m (n / 16) (by omega)
   rw[Nat.div_div_eq_div_mul] at this
   rwa [Nat.pow_succ,Nat.mul_comm]

theorem jn_ge:∀(m n:Nat),n≤m→∀j,j<jn n→16≤n / 16 ^ j
 | 0,n,h,j,hj=>by
  have:n=0:=by omega
  subst this
  rw[jn] at hj
  simp at hj
 | m+1,n,h,j,hj=>by
  rw[jn] at hj
  split at hj
  ·omega
  ·rename_i h1
   cases j with
   | zero=>simpa using h1
   | succ j=>
    have:=jn_ge m (n / 16) (by omega) j (by omega)
    rw[Nat.div_div_eq_div_mul] at this
    rwa [Nat.pow_succ,Nat.mul_comm]

theorem jn_le {n k:Nat}(h:n<16 ^ (k+1)):jn n≤k:=by
 rcases Nat.lt_or_ge k (jn n) with h1 | h1
 ·have:=jn_ge n n (Nat.le_refl _) k h1
  have h2:n / 16 ^ k<16:=by
   rw[Nat.div_lt_iff_lt_mul (Nat.pow_pos (by omega))]
   rwa [Nat.pow_succ,Nat.mul_comm] at h
  omega
 ·exact h1

def hexs (n:Nat):List UInt8:=dg (jn n+1) n

theorem hexs_pad {n:Nat}(h:n<16 ^ 16):List.replicate (16-(hexs n).length) 48++hexs n=dg 16 n:=by
 have h1:jn n≤15:=jn_le h
 have h2:=jn_lt n n (Nat.le_refl _)
 have h3:n<16 ^ (jn n+1):=by
  rw[Nat.pow_succ,Nat.mul_comm]
  rwa [Nat.div_lt_iff_lt_mul (Nat.pow_pos (by omega))] at h2
 have h4:=dg_zero h3 (15-jn n)
 rw[show jn n+1+(15-jn n)=16 from by omega] at h4
 rw[h4,hexs,dg_length,show 16-(jn n+1)=15-jn n from by omega]

end Go.Am.Ra

/-
 Chains of lines;short texts;lines of a log.
-/
namespace Go.Am.Ra
open Go.Proofs
set_option maxRecDepth 100000
set_option maxHeartbeats 4000000

abbrev I (n:Int):D:=.v (.int .i64 n)
abbrev U (n:Int):D:=.v (.int .u64 n)
abbrev Bo (x:Bool):D:=.v (.bool x)
abbrev St (s:ByteArray):D:=.v (.string s)
abbrev Ss (l:List ByteArray):D:=.lst (l.map St)

variable {bs:List D}

def stp (h:Int)(c:UInt8):Int:=IntKind.u64.wrap (IntKind.u64.wrap (BitVec.ofInt 64 h ^^^ BitVec.ofInt 64 (IntKind.u64.wrap (c.toNat:Int))).toNat*1099511628211)

def chK (h:Int)(s:ByteArray):Nat→Int
 | 0=>h
 | k+1=>match s[k]? with | some c=>stp (chK h s k) c | none=>chK h s k

def chF (h:Int)(s:ByteArray):Int:=IntKind.u64.wrap (chK h s s.size*1099511628211)

theorem chK_succ {h:Int}{s:ByteArray}{k:Nat}(hk:k<s.size):chK h s (k+1)=stp (chK h s k) s[k]:=by
 rw[chK,getElem?_pos s k hk]

theorem sidx_at {s:ByteArray}{k:Nat}(hk:k<s.size):Am.D.m4 .sidx (St s) (I k) (.agg []) (.agg [])=some (.v (.int .u8 s[k].toNat)):=by
 simp[Am.D.m4,Am.D.sidx,getElem?_pos s k hk]

theorem c21 {h:Int}{s:ByteArray}(hs:s.size≤maxLen):FSpecR Tryz.prog 21 (.st bs) [U h,St s] (U (chF h s)):=by
 have hs':s.size≤9223372036854775807:=hs
 refine ku21.R rfl rfl ?_
 unfold u21
 simp only[ups_cons,ups_nil,List.cons_append,List.nil_append]
 repeat' (first|(apply u_ev;rfl;simp only[sbe];rfl)|refine u_join ?_)
 refine u_range (fun i=>[U (chK h s i),I i]) (fun _=>True) s.size rfl (fun _=>rfl) trivial (fun i hi _ R hR=>?_) (fun _ R=>?_)
 ·have hli:decide ((i:Int)<(s.size:Int))=true:=by simp;omega
  repeat' (first|(apply nrm;simp only[sbe];rfl)|(apply u_iteT;rfl;exact hli)|(apply u_m4;rfl;rfl;rfl;rfl;exact sidx_at hi;simp only[sbe];rfl)|(apply u_add;rfl;rfl;omega;simp only[sbe];rfl)|(apply u_ev;rfl;simp only[sbe];rfl)|refine u_join ?_|(apply u_jump;rfl;rfl)|refine at_jump ?_|refine kj rfl ?_)
  refine(chK_succ hi ▸ hR trivial:_)
 ·repeat' (first|(apply nrm;simp only[sbe];rfl)|(apply u_ev;rfl;simp only[sbe];rfl)|(apply u_jump;rfl;rfl)|refine at_jump ?_|(refine over_jump (by decide) ?_)|refine kj rfl ?_|(apply u_ite;rfl;all_goals (intro hz;(try simp only[sbs] at hz);first|(exact absurd hz (by decide))|(exfalso;omega)|skip))|exact u_ret rfl rfl)

def shortB (l:List ByteArray)(most:Int):Bool:=l.all (fun s=>decide (s.size≤300))&&decide ((l.length:Int)≤most)

theorem c5 {l:List ByteArray}{most:Int}(hL:l.length≤maxLen):FSpecR Tryz.prog 5 (.st bs) [Ss l,I most] (Bo (shortB l most)):=by
 have hL':l.length≤9223372036854775807:=hL
 refine ku5.R rfl rfl ?_
 unfold u5
 simp only[ups_cons,ups_nil,List.cons_append,List.nil_append]
 repeat' ((with_reducible refine u_join ?_))
 refine u_range (fun i=>[I i]) (fun i=>∀k (h:k<i) (h2:k<l.length),l[k].size≤300) l.length rfl (fun _=>rfl) (fun k h=>absurd h (Nat.not_lt_zero _)) (fun i hi hJ R hR=>?_) (fun hJ R=>?_)
 ·have hli:decide ((i:Int)<((l.map St).length:Int))=true:=by simp;omega
  by_cases hP:l[i].size≤300
  ·have hg:decide ((l[i].size:Int) > 300)=false:=by simp;omega
   repeat' (first|(apply nrm;simp only[sbe];rfl)|(apply u_iteF;rfl;exact hg)|(apply u_eaddr;rfl;rfl;exact eaddr_get hi rfl;simp only[sbe];rfl)|(apply u_lenL;rfl;exact lenL_map;simp only[sbe];rfl)|(apply u_add;rfl;rfl;omega;simp only[sbe];rfl)|(apply u_ev;rfl;simp only[sbe];rfl)|refine u_join ?_|(apply u_jump;rfl;rfl)|refine at_jump ?_|refine kj rfl ?_|(apply u_ite;rfl;all_goals (intro hz;(try simp only[sbs] at hz);first|(exact absurd hz (by decide))|(exfalso;omega)|skip)))
   refine hR fun k hk h2=>?_
   rcases Nat.lt_or_ge k i with h3 | h3
   ·exact hJ k h3 h2
   ·have e:k=i:=by omega
    subst e
    exact hP
  ·have hg:decide ((l[i].size:Int) > 300)=true:=by simp;omega
   repeat' (first|(apply nrm;simp only[sbe];rfl)|(apply u_iteT;rfl;exact hg)|(apply u_eaddr;rfl;rfl;exact eaddr_get hi rfl;simp only[sbe];rfl)|(apply u_lenL;rfl;exact lenL_map;simp only[sbe];rfl)|(apply u_ev;rfl;simp only[sbe];rfl)|refine u_join ?_|(apply u_ite;rfl;all_goals (intro hz;(try simp only[sbs] at hz);first|(exact absurd hz (by decide))|(exfalso;omega)|skip))|(apply u_ret;rfl;first|exact rfl|(refine retB ?_)|(refine retI ?_)|(refine retD ?_)))
   have:l.all (fun s=>decide (s.size≤300))=false:=by
    rw[List.all_eq_false]
    exact⟨l[i],List.getElem_mem hi,by simpa using hP⟩
   simp[shortB,this]
 ·repeat' (first|(apply nrm;simp only[sbe];rfl)|(apply u_lenL;rfl;exact lenL_map;simp only[sbe];rfl)|(apply u_ev;rfl;simp only[sbe];rfl)|(apply u_jump;rfl;rfl)|refine at_jump ?_|(refine over_jump (by decide) ?_)|refine kj rfl ?_|(apply u_ite;rfl;all_goals (intro hz;(try simp only[sbs] at hz);first|(exact absurd hz (by decide))|(exfalso;omega)|skip))|(apply u_ret;rfl;first|exact rfl|(refine retB ?_)|(refine retI ?_)|(refine retD ?_)))
  have:l.all (fun s=>decide (s.size≤300))=true:=by
   rw[List.all_eq_true]
   intro x hx
   obtain⟨k,hk,rfl⟩:=List.mem_iff_getElem.1 hx
   simpa using hJ k hk hk
  simp[shortB,this]

theorem c7 {l m:List ByteArray}(hL:l.length≤maxLen)(hM:m.length≤maxLen)(he:l=m):FSpecR Tryz.prog 7 (.st bs) [Ss l,Ss m] (Bo true):=by
 have hL':l.length≤9223372036854775807:=hL
 subst he
 refine ku7.R rfl rfl ?_
 unfold u7
 simp only[ups_cons,ups_nil,List.cons_append,List.nil_append]
 have hne:(!(((l.map St).length:Int)==((l.map St).length:Int)))=false:=by simp
 repeat' (first|(apply u_lenL;rfl;exact lenL_map;simp only[sbe];rfl)|(apply u_ev;rfl;simp only[sbe];rfl)|refine u_join ?_|(apply u_ite;rfl;all_goals (intro hz;(try simp only[sbs] at hz);first|(exact absurd hz (by decide))|(exfalso;omega)|skip)))
 refine u_range (fun i=>[I i]) (fun i=>True) l.length rfl (fun _=>rfl) trivial (fun i hi hJ R hR=>?_) (fun hJ R=>?_)
 ·have hli:decide ((i:Int)<((l.map St).length:Int))=true:=by simp;omega
  have hn2:(!(l[i].toList==l[i].toList))=false:=by simp
  repeat' (first|(apply nrm;simp only[sbe];rfl)|(apply u_iteF;rfl;exact hn2)|(apply u_eaddr;rfl;rfl;exact eaddr_get hi rfl;simp only[sbe];rfl)|(apply u_lenL;rfl;exact lenL_map;simp only[sbe];rfl)|(apply u_add;rfl;rfl;omega;simp only[sbe];rfl)|(apply u_ev;rfl;simp only[sbe];rfl)|refine u_join ?_|(apply u_jump;rfl;rfl)|refine at_jump ?_|refine kj rfl ?_|(apply u_ite;rfl;all_goals (intro hz;(try simp only[sbs] at hz);first|(exact absurd hz (by decide))|(exfalso;omega)|skip)))
  exact hR trivial
 ·repeat' (first|(apply nrm;simp only[sbe];rfl)|(apply u_lenL;rfl;exact lenL_map;simp only[sbe];rfl)|(apply u_ev;rfl;simp only[sbe];rfl)|(apply u_jump;rfl;rfl)|refine at_jump ?_|(refine over_jump (by decide) ?_)|refine kj rfl ?_|(apply u_ite;rfl;all_goals (intro hz;(try simp only[sbs] at hz);first|(exact absurd hz (by decide))|(exfalso;omega)|skip))|exact u_ret rfl rfl)

end Go.Am.Ra

/-
 The document's chains.
-/
namespace Go.Am.Ra
open Go.Proofs
set_option maxRecDepth 100000
set_option maxHeartbeats 4000000

variable {bs:List D}

def H0:Int:=14695981039346656037
def txt (n:Nat):ByteArray:=⟨(dg 16 n).toArray⟩

def hAt (l:List ByteArray):Nat→Int
 | 0=>H0
 | i+1=>match l[i]? with | some s=>chF (hAt l i) s | none=>hAt l i

def outs (l:List ByteArray):Nat→List ByteArray
 | 0=>[]
 | i+1=>outs l i++[txt (hAt l (i+1)).toNat]

theorem outs_len (l:List ByteArray):∀i,(outs l i).length=i
 | 0=>rfl
 | i+1=>by simp[outs,outs_len l i]

theorem hAt_succ {l:List ByteArray}{i:Nat}(hi:i<l.length):hAt l (i+1)=chF (hAt l i) l[i]:=by
 rw[hAt,List.getElem?_eq_getElem hi]

theorem wrap_nat (x:Int):∃n:Nat,IntKind.u64.wrap x=n∧n<18446744073709551616:=by
 rw[IntKind.wrap_u64]
 exact⟨(x % 18446744073709551616).toNat,by omega,by omega⟩

theorem chF_nat (h:Int)(s:ByteArray):∃n:Nat,chF h s=n∧n<18446744073709551616:=by
 unfold chF
 exact wrap_nat _

theorem sub_dig {d:Nat}(hd:d<16):Am.D.m4 .ssub (.v (.string ⟨#[48,49,50,51,52,53,54,55,56,57,97,98,99,100,101,102]⟩)) (I d) (I ((d+1:Nat):Int)) (.agg [])=some (St ⟨#[dig d]⟩):=by
 have h:d=0∨d=1∨d=2∨d=3∨d=4∨d=5∨d=6∨d=7∨d=8∨d=9∨d=10∨d=11∨d=12∨d=13∨d=14∨d=15:=by omega
 rcases h with rfl | rfl | rfl | rfl | rfl | rfl | rfl | rfl | rfl | rfl | rfl | rfl | rfl | rfl | rfl | rfl <;> (show _=some _;kernel_rfl)

theorem ba_app (m l:List UInt8):(⟨m.toArray⟩:ByteArray)++⟨l.toArray⟩=⟨(m++l).toArray⟩:=by
 apply ByteArray.ext
 simp

def qk (n:Nat):Nat→Nat
 | 0=>n
 | k+1=>qk n k / 16

theorem qk_eq (n:Nat):∀k,qk n k=n / 16 ^ k
 | 0=>by simp[qk]
 | k+1=>by rw[qk,qk_eq n k,Nat.div_div_eq_div_mul,Nat.pow_succ]

theorem qk_lt {n:Nat}(h:n<18446744073709551616)(k:Nat):qk n k<18446744073709551616:=by
 rw[qk_eq]
 exact Nat.lt_of_le_of_lt (Nat.div_le_self _ _) h

theorem dg_step (n k:Nat):dg (k+1) n=dig (qk n k % 16) :: dg k n:=by rw[dg_cons,qk_eq]

theorem rem_at (x:Nat):Am.D.bin .rem .int (U x) (U 16)=some (U ((x % 16:Nat):Int)):=by
 simp only[Am.D.bin,cmpI,arI,if_true]
 rfl

theorem quo_at {x:Nat}(h:x<18446744073709551616):Am.D.bin .quo .int (U x) (U 16)=some (U ((x / 16:Nat):Int)):=by
 have h1:Am.D.bin .quo .int (U x) (U 16)=some (U (IntKind.u64.wrap ((x:Int).tdiv 16))):=rfl
 rw[h1,IntKind.wrap_u64]
 have h2:(x:Int).tdiv 16=((x / 16:Nat):Int):=by rw[Int.tdiv_eq_ediv_of_nonneg (by omega)];rfl
 rw[h2]
 congr 3
 omega

theorem conv_at {env:List D}{x:E}{d:Nat}(hx:x.eval env=some (U d))(hd:d<16):(E.conv .i64 x).eval env=some (I d):=by
 have:IntKind.i64.wrap (d:Int)=d:=by rw[IntKind.wrap_i64];omega
 simp only[E.eval,hx,Option.bind_some,Am.D.conv,this]

theorem cat_at {x:UInt8}{l:List UInt8}(h:l.length<1000):Am.D.bin .add .str (St ⟨#[x]⟩) (St ⟨l.toArray⟩)=some (St ⟨(x :: l).toArray⟩):=by
 have h1:¬((((⟨#[x]⟩:ByteArray).size+(⟨l.toArray⟩:ByteArray).size:Nat):Int) > IntKind.i64.max):=by
  have e1:(⟨#[x]⟩:ByteArray).size=1:=rfl
  have e2:(⟨l.toArray⟩:ByteArray).size=l.length:=by simp[ByteArray.size]
  rw[e1,e2]
  have:IntKind.i64.max=9223372036854775807:=rfl
  omega
 have h2:=ba_app [x] l
 simp only[Am.D.bin,if_neg h1]
 rw[show(⟨#[x]⟩:ByteArray)++⟨l.toArray⟩=⟨(x :: l).toArray⟩ from h2]

theorem c9 {l:List ByteArray}(hL:l.length≤1000)(hS:∀s,s∈l→s.size≤maxLen):FSpecR Tryz.prog 9 (.st bs) [Ss l] (Ss (outs l l.length)):=by
 refine ku9.R rfl rfl ?_
 unfold u9
 simp only[ups_cons,ups_nil,List.cons_append,List.nil_append]
 repeat' ((with_reducible refine u_join ?_))
 refine u_range (fun i=>[U (hAt l i),Ss (outs l i),I i]) (fun _=>True) l.length rfl (fun _=>rfl) trivial (fun i hi _ R hR=>?_) (fun _ R=>?_)
 ·have hli:decide ((i:Int)<((l.map St).length:Int))=true:=by simp;omega
  have hsz:l[i].size≤9223372036854775807:=hS l[i] (List.getElem_mem hi)
  repeat' (first|(apply nrm;simp only[sbe];rfl)|(apply u_lenL;rfl;exact lenL_map;simp only[sbe];rfl)|(apply u_ev;rfl;simp only[sbe];rfl)|refine u_join ?_|(apply u_ite;rfl;all_goals (intro hz;(try simp only[sbs] at hz);first|(exact absurd hz (by decide))|(exfalso;omega)|skip)))
  refine u_range (fun k=>[U (chK (hAt l i) l[i] k),I k]) (fun _=>True) l[i].size rfl (fun _=>rfl) trivial (fun k hk _ R1 hR1=>?_) (fun _ R1=>?_)
  ·have hkl:decide ((k:Int)<(l[i].size:Int))=true:=by simp;omega
   repeat' (first|(apply nrm;simp only[sbe];rfl)|(apply u_iteT;rfl;exact hkl)|(apply u_eaddr;rfl;rfl;exact eaddr_get hi rfl;simp only[sbe];rfl)|(apply u_m4;rfl;rfl;rfl;rfl;exact sidx_at hk;simp only[sbe];rfl)|(apply u_add;rfl;rfl;omega;simp only[sbe];rfl)|(apply u_ev;rfl;simp only[sbe];rfl)|refine u_join ?_|(apply u_jump;rfl;rfl)|refine at_jump ?_|refine kj rfl ?_)
   have h5:=hR1 trivial
   simp only[chK_succ hk] at h5
   exact h5
  ·repeat' (first|(apply nrm;simp only[sbe];rfl)|(apply u_eaddr;rfl;rfl;exact eaddr_get hi rfl;simp only[sbe];rfl)|(apply u_ev;rfl;simp only[sbe];rfl)|refine u_join ?_|(apply u_jump;rfl;rfl)|refine at_jump ?_|(refine over_jump (by decide) ?_)|refine kj rfl ?_|(apply u_ite;rfl;all_goals (intro hz;(try simp only[sbs] at hz);first|(exact absurd hz (by decide))|(exfalso;omega)|skip)))
   obtain⟨n,hn,hn2⟩:=chF_nat (hAt l i) l[i]
   unfold chF at hn
   rw[hn]
   refine u_range (fun k=>[St ⟨(dg k n).toArray⟩,U (qk n k),I k]) (fun _=>True) 16 rfl (fun _=>rfl) trivial (fun k hk _ R2 hR2=>?_) (fun _ R2=>?_)
   ·have hkl:decide ((k:Int)<16)=true:=by simp;omega
    have hd:qk n k % 16<16:=Nat.mod_lt _ (by omega)
    have hcat:=cat_at (x:=dig (qk n k % 16)) (l:=dg k n) (by rw[dg_length];omega)
    repeat' (first|(apply nrm;simp only[sbe];rfl)|(apply u_iteT;rfl;exact hkl)|(apply u_bin;rfl;rfl;(·first|exact rem_at _|exact quo_at (qk_lt hn2 k)|exact hcat);simp only[sbe];rfl)|(apply u_m4;rfl;rfl;rfl;rfl;exact sub_dig hd;simp only[sbe];rfl)|(apply u_inc;rfl;omega;simp only[sbe];rfl)|(apply u_ev;exact conv_at rfl hd;simp only[sbe];rfl)|(apply u_ev;rfl;simp only[sbe];rfl)|refine u_join ?_|(apply u_jump;rfl;rfl)|refine at_jump ?_|refine kj rfl ?_)
    have h5:=hR2 trivial
    simp only[dg_step] at h5
    exact h5
   ·have ha:Am.D.app 1 16 (Ss (outs l i)) (.lst [St ⟨(dg 16 n).toArray⟩])=some (Ss (outs l i++[⟨(dg 16 n).toArray⟩])):=app_lst (enc:=St) (ys:=[⟨(dg 16 n).toArray⟩]) (by rw[outs_len];simp;omega) (by rw[outs_len];unfold maxLen;simp;omega) (fun _=>rfl)
    repeat' (first|(apply nrm;simp only[sbe];rfl)|(apply u_app;rfl;rfl;exact ha;simp only[sbe];rfl)|(apply u_inc;rfl;omega;simp only[sbe];rfl)|(apply u_ev;rfl;simp only[sbe];rfl)|(apply u_jump;rfl;rfl)|refine at_jump ?_|(refine over_jump (by decide) ?_)|refine kj rfl ?_|(apply u_ite;rfl;all_goals (intro hz;(try simp only[sbs] at hz);first|(exact absurd hz (by decide))|(exfalso;omega)|skip)))
    have e1:hAt l (i+1)=n:=by rw[hAt_succ hi];exact hn
    have e2:outs l (i+1)=outs l i++[⟨(dg 16 n).toArray⟩]:=by rw[outs,e1];rfl
    have:=hR trivial
    rw[e1,e2] at this
    exact this
 ·repeat' (first|(apply nrm;simp only[sbe];rfl)|(apply u_lenL;rfl;exact lenL_map;simp only[sbe];rfl)|(apply u_ev;rfl;simp only[sbe];rfl)|(apply u_jump;rfl;rfl)|refine at_jump ?_|(refine over_jump (by decide) ?_)|refine kj rfl ?_|(apply u_ite;rfl;all_goals (intro hz;(try simp only[sbs] at hz);first|(exact absurd hz (by decide))|(exfalso;omega)|skip))|exact u_ret rfl rfl)

end Go.Am.Ra

/-
 Functions that the chapter's examples reach,as texts.
-/
namespace Go.Am.Ra
open Go.Proofs
set_option maxRecDepth 100000

noncomputable def t41:T:=W' [v' (.bin .neq .ptr y0 (.const (.v (.pointer none)))),g' y2 (.nn y0),g' y2 (p' 14 y3),g' y2 (l' y1 y4),g' y2 (.lenL y5),g' y2 (X' .gtr y6 (ki 0)),v' (.ite y2 y7 (kb false))] (R' y8 y1)
noncomputable def e41:=e' 41 Tryz.f41 true false [] [] [] [true] t41
theorem ok41:EntOk Tryz.prog e41:=EntOk.ofPlain Tryz.func41 (by kernel_rfl) (by kernel_rfl)

noncomputable def t50:T:=W' [v' (.nn y0),v' (p' 14 y4),v' (l' y3 y5),v' (.sub 5 y6 y1 (.lenL y6)),c' 108 y3 [y7,.const (.fn 109 [] [])] [true]] (R' y8 y3)
noncomputable def e50:=e' 50 Tryz.f50 true false [] [] [] [true,true,true] t50
theorem ok50:EntOk Tryz.prog e50:=EntOk.ofPlain Tryz.func50 (by kernel_rfl) (by kernel_rfl)

noncomputable def t17:T:=W' [c' 24 y1 [y0] [true],v' (N' y2)] (.ite y3 (R' (.const (.lst [])) y1) (W' [v' (.nn y0),v' (p' 33 y4),v' (l' y1 y5),v' (.lenL y6)] (.join 0 4 (.loop 1 [.const .snil,ki 0,y1] (W' [v' (X' .lss y9 y7)] (.ite y11 (.join 2 11 (W' [v' (.eaddr 3 y6 y9),v' (.ld true 3 y10 y12),v' (.aggN 3 y13),w' 36 y10 [agc 3 y14] [false],v' (.lcons (.aggN 3 (s' y15)) (.const (.lst []))),v' (.apph 78 3 56 (t' y15) y8 y16)] (J' 2 [.apps (t' y15) y8 y16,y12,y13,agc 3 y14,s' y15,y16,.apps (t' y15) y8 y16,q' 0 y14,q' 1 y14,q' 2 y14,y17])) (W' [v' (P' y9 (ki 1))] (J' 1 [y12,y23,y22]))) (J' 0 [y8,y9,y11,y10])))) (R' y8 y11))))
noncomputable def e17:=e' 17 Tryz.f17 false false [36] [3,22] [] [true] t17
theorem ok17:EntOk Tryz.prog e17:=EntOk.ofPlain Tryz.func17 (by kernel_rfl) (by kernel_rfl)

noncomputable def t40:T:=.join 0 4 (W' [v' (Q' y1 (ki 0))] (.ite y3 (R' (Z' #[]) y2) (W' [v' (Q' y1 (ki 1))] (.ite y4 (R' y0 y2) (J' 0 [y3,y3,y4,y4]))))) (W' [v' (X' .lss y1 (ki 0))] (.join 0 0 (.ite y7 (.pan (m' .isifc (.ifc 9 (Z' #[115,116,114,105,110,103,115,58,32,110,101,103,97,116,105,118,101,32,82,101,112,101,97,116,32,99,111,117,110,116]))) y2 [] []) (J' 0 [])) (W' [v' (.lenS y0),v' (.conv .u64 y8),v' (.conv .u64 y1),c' 97 y2 [y9,y10] [true,true],v' (X' .gtr (s' y11) (k' 0)),f' y12 (t' y11),f' y12 (X' .gtr y13 (k' 9223372036854775807)),v' (.ite y12 (kb true) y14)] (.join 0 0 (.ite y15 (.pan (m' .isifc (.ifc 9 (Z' #[115,116,114,105,110,103,115,58,32,82,101,112,101,97,116,32,111,117,116,112,117,116,32,108,101,110,103,116,104,32,111,118,101,114,102,108,111,119]))) y2 [] []) (J' 0 [])) (W' [v' (.conv .i64 (t' y11)),v' (.lenS y0),v' (Q' y17 (ki 0))] (.ite y18 (R' (Z' #[]) y2) (W' [v' (n' .sidx y0 (ki 0))] (.join 0 2 (W' [v' (Q' y19 (K' 32))] (.join 1 1 (.ite y20 (J' 1 [y20]) (W' [v' (Q' y19 (K' 45))] (.join 2 1 (.ite y21 (J' 2 [y21]) (W' [v' (Q' y19 (K' 48))] (.join 3 1 (.ite y22 (J' 3 [y22]) (W' [v' (Q' y19 (K' 61))] (.join 4 1 (.ite y23 (J' 4 [y23]) (W' [v' (Q' y19 (K' 9))] (J' 4 [y24]))) (J' 3 [y24])))) (J' 2 [y23])))) (J' 1 [y22])))) (.join 1 0 (.ite y21 (.join 2 20 (W' [v' (X' .leq y16 (ki 128)),.call [(y22,true)] 98 y2 [Z' #[32,32,32,32,32,32,32,32,32,32,32,32,32,32,32,32,32,32,32,32,32,32,32,32,32,32,32,32,32,32,32,32,32,32,32,32,32,32,32,32,32,32,32,32,32,32,32,32,32,32,32,32,32,32,32,32,32,32,32,32,32,32,32,32,32,32,32,32,32,32,32,32,32,32,32,32,32,32,32,32,32,32,32,32,32,32,32,32,32,32,32,32,32,32,32,32,32,32,32,32,32,32,32,32,32,32,32,32,32,32,32,32,32,32,32,32,32,32,32,32,32,32,32,32,32,32,32,32],y0] [true],v' (.ite y22 y23 (kb false))] (.ite y24 (W' [v' (o' .ssub (Z' #[32,32,32,32,32,32,32,32,32,32,32,32,32,32,32,32,32,32,32,32,32,32,32,32,32,32,32,32,32,32,32,32,32,32,32,32,32,32,32,32,32,32,32,32,32,32,32,32,32,32,32,32,32,32,32,32,32,32,32,32,32,32,32,32,32,32,32,32,32,32,32,32,32,32,32,32,32,32,32,32,32,32,32,32,32,32,32,32,32,32,32,32,32,32,32,32,32,32,32,32,32,32,32,32,32,32,32,32,32,32,32,32,32,32,32,32,32,32,32,32,32,32,32,32,32,32,32,32]) (ki 0) y16)] (R' y25 y2)) (W' [v' (X' .leq y16 (ki 128)),.call [(y25,true)] 98 y2 [Z' #[45,45,45,45,45,45,45,45,45,45,45,45,45,45,45,45,45,45,45,45,45,45,45,45,45,45,45,45,45,45,45,45,45,45,45,45,45,45,45,45,45,45,45,45,45,45,45,45,45,45,45,45,45,45,45,45,45,45,45,45,45,45,45,45,45,45,45,45,45,45,45,45,45,45,45,45,45,45,45,45,45,45,45,45,45,45,45,45,45,45,45,45,45,45,45,45,45,45,45,45,45,45,45,45,45,45,45,45,45,45,45,45,45,45,45,45,45,45,45,45,45,45,45,45,45,45,45,45],y0] [true],v' (.ite y25 y26 (kb false))] (.ite y27 (W' [v' (o' .ssub (Z' #[45,45,45,45,45,45,45,45,45,45,45,45,45,45,45,45,45,45,45,45,45,45,45,45,45,45,45,45,45,45,45,45,45,45,45,45,45,45,45,45,45,45,45,45,45,45,45,45,45,45,45,45,45,45,45,45,45,45,45,45,45,45,45,45,45,45,45,45,45,45,45,45,45,45,45,45,45,45,45,45,45,45,45,45,45,45,45,45,45,45,45,45,45,45,45,45,45,45,45,45,45,45,45,45,45,45,45,45,45,45,45,45,45,45,45,45,45,45,45,45,45,45,45,45,45,45,45,45]) (ki 0) y16)] (R' y28 y2)) (W' [v' (X' .leq y16 (ki 64)),.call [(y28,true)] 98 y2 [Z' #[48,48,48,48,48,48,48,48,48,48,48,48,48,48,48,48,48,48,48,48,48,48,48,48,48,48,48,48,48,48,48,48,48,48,48,48,48,48,48,48,48,48,48,48,48,48,48,48,48,48,48,48,48,48,48,48,48,48,48,48,48,48,48,48],y0] [true],v' (.ite y28 y29 (kb false))] (.ite y30 (W' [v' (o' .ssub (Z' #[48,48,48,48,48,48,48,48,48,48,48,48,48,48,48,48,48,48,48,48,48,48,48,48,48,48,48,48,48,48,48,48,48,48,48,48,48,48,48,48,48,48,48,48,48,48,48,48,48,48,48,48,48,48,48,48,48,48,48,48,48,48,48,48]) (ki 0) y16)] (R' y31 y2)) (W' [v' (X' .leq y16 (ki 128)),.call [(y31,true)] 98 y2 [Z' #[61,61,61,61,61,61,61,61,61,61,61,61,61,61,61,61,61,61,61,61,61,61,61,61,61,61,61,61,61,61,61,61,61,61,61,61,61,61,61,61,61,61,61,61,61,61,61,61,61,61,61,61,61,61,61,61,61,61,61,61,61,61,61,61,61,61,61,61,61,61,61,61,61,61,61,61,61,61,61,61,61,61,61,61,61,61,61,61,61,61,61,61,61,61,61,61,61,61,61,61,61,61,61,61,61,61,61,61,61,61,61,61,61,61,61,61,61,61,61,61,61,61,61,61,61,61,61,61],y0] [true],v' (.ite y31 y32 (kb false))] (.ite y33 (W' [v' (o' .ssub (Z' #[61,61,61,61,61,61,61,61,61,61,61,61,61,61,61,61,61,61,61,61,61,61,61,61,61,61,61,61,61,61,61,61,61,61,61,61,61,61,61,61,61,61,61,61,61,61,61,61,61,61,61,61,61,61,61,61,61,61,61,61,61,61,61,61,61,61,61,61,61,61,61,61,61,61,61,61,61,61,61,61,61,61,61,61,61,61,61,61,61,61,61,61,61,61,61,61,61,61,61,61,61,61,61,61,61,61,61,61,61,61,61,61,61,61,61,61,61,61,61,61,61,61,61,61,61,61,61,61]) (ki 0) y16)] (R' y34 y2)) (W' [v' (X' .leq y16 (ki 64)),.call [(y34,true)] 98 y2 [Z' #[9,9,9,9,9,9,9,9,9,9,9,9,9,9,9,9,9,9,9,9,9,9,9,9,9,9,9,9,9,9,9,9,9,9,9,9,9,9,9,9,9,9,9,9,9,9,9,9,9,9,9,9,9,9,9,9,9,9,9,9,9,9,9,9],y0] [true],v' (.ite y34 y35 (kb false))] (.ite y36 (W' [v' (o' .ssub (Z' #[9,9,9,9,9,9,9,9,9,9,9,9,9,9,9,9,9,9,9,9,9,9,9,9,9,9,9,9,9,9,9,9,9,9,9,9,9,9,9,9,9,9,9,9,9,9,9,9,9,9,9,9,9,9,9,9,9,9,9,9,9,9,9,9]) (ki 0) y16)] (R' y37 y2)) (J' 2 [y24,y22,y22,y24,y27,y25,y25,y27,y30,y28,y28,y30,y33,y31,y31,y33,y36,y34,y34,y36]))))))))))) (J' 1 [])) (J' 1 [])) (J' 0 [y21,y20])))) (W' [v' (X' .gtr y16 (ki 8192))] (.join 0 1 (.ite y22 (W' [v' (.lenS y0),v' (X' .quo (ki 8192) y23),v' (.lenS y0),v' (X' .mul y24 y25),v' (Q' y26 (ki 0))] (.join 1 1 (.ite y27 (W' [v' (.lenS y0)] (J' 1 [y28])) (J' 1 [y26])) (J' 0 [y28]))) (J' 0 [y16])) (.ret (.deref .nil))))))))))))
noncomputable def e40:=e' 40 Tryz.f40 true false [] [] [] [true,true] t40
theorem ok40:EntOk Tryz.prog e40:=EntOk.ofPlain Tryz.func40 (by kernel_rfl) (by kernel_rfl)

noncomputable def t82:T:=W' [v' (.newb 9 1 y1 (j' (z' y0) .nil)),v' (.mkfn 146 .tnil (.tcons (.fstid y1) .tnil))] (R' y3 y2)
noncomputable def e82:=e' 82 Tryz.f82 false false [] [1] [] [true] t82
theorem ok82:EntOk Tryz.prog e82:=EntOk.ofPlain Tryz.func82 (by kernel_rfl) (by kernel_rfl)

noncomputable def t87:T:=W' [v' (.aggN 30 y0),w' 89 y1 [agc 6 y2] [true,true],v' (X' .neq (t' (s' y3)) (ki 0))] (.ite y4 (R' (ki 2) (t' y3)) (W' [w' 90 (t' y3) [j' (q' 6 y2) (j' (q' 7 y2) (j' (q' 8 y2) .nil)),q' 9 y2] [true,true],v' (X' .neq (t' (s' y5)) (ki 0))] (.ite y6 (R' (ki 2) (t' y5)) (W' [c' 119 (t' y5) [j' (q' 10 y2) (j' (q' 11 y2) (j' (q' 12 y2) (j' (q' 13 y2) (j' (q' 14 y2) (j' (q' 15 y2) (j' (q' 16 y2) (j' (q' 17 y2) (j' (q' 18 y2) (j' (q' 19 y2) (j' (q' 20 y2) (j' (q' 21 y2) (j' (q' 22 y2) (j' (q' 23 y2) .nil)))))))))))))] [true],v' (X' .neq y7 (ki 0)),.call [(y8,false)] 165 (t' y5) [j' (q' 24 y2) (j' (q' 25 y2) (j' (q' 26 y2) (j' (q' 27 y2) (j' (q' 28 y2) (j' (q' 29 y2) .nil)))))] [true],f' y8 (X' .neq y9 (ki 0)),v' (.ite y8 (kb true) y10)] (.ite y11 (R' (ki 2) (t' y5)) (W' [v' (X' .neq (q' 5 y2) (q' 6 y2)),f' y12 (q' 24 y2),f' y12 (q' 6 y2),f' y12 (X' .neq y13 y14),v' (.ite y12 (kb true) y15),f' y16 (q' 0 y2),f' y16 (q' 7 y2),f' y16 (X' .neq y17 y18),v' (.ite y16 (kb true) y19),f' y20 (q' 10 y2),.call [(y20,false)] 167 (t' y5) [y21,.const (.fn 166 [] [])] [true],f' y20 (N' y22),v' (.ite y20 (kb true) y23)] (.ite y24 (R' (ki 2) (t' y5)) (R' (ki 0) (t' y5)))))))))
noncomputable def e87:=e' 87 Tryz.f87 false true [89,90] [] [] [false] t87
theorem ok87:EntOk Tryz.prog e87:=EntOk.ofPlain Tryz.func87 (by kernel_rfl) (by kernel_rfl)

noncomputable def t107:T:=W' [v' (.aggN 5 y0),v' (l' y3 y1),v' (l' y3 y2),v' (.nn y6),v' (p' 0 y7),v' (p' 3 y8),v' (l' y3 y9),v' (M' y5 y10),v' (X' .gtr (q' 1 y4) y11)] (R' y12 y3)
noncomputable def e107:=e' 107 Tryz.f107 true false [] [] [] [false,true,true] t107
theorem ok107:EntOk Tryz.prog e107:=EntOk.ofPlain Tryz.func107 (by kernel_rfl) (by kernel_rfl)

noncomputable def t111:T:=W' [v' (X' .geq y0 y1),g' y4 (X' .leq y0 y2),v' (.ite y4 y5 (kb false))] (R' y6 y3)
noncomputable def e111:=e' 111 Tryz.f111 true false [] [] [] [true,true,true] t111
theorem ok111:EntOk Tryz.prog e111:=EntOk.ofPlain Tryz.func111 (by kernel_rfl) (by kernel_rfl)

noncomputable def t169:T:=.nilq y0 false (.ite y2 (R' (.const (.lst [])) y1) (W' [v' (.const (.lst [])),v' (.app 4 32 y3 y0)] (R' y4 y1)))
noncomputable def e169:=e' 169 Tryz.f169 true false [] [] [] [true] t169
theorem ok169:EntOk Tryz.prog e169:=EntOk.ofPlain Tryz.func169 (by kernel_rfl) (by kernel_rfl)

noncomputable def t175:T:=W' [v' (X' .lss y0 (ki 10))] (.ite y2 (W' [v' (P' y0 (ki 1)),v' (o' .ssub (Z' #[48,49,50,51,52,53,54,55,56,57,97,98,99,100,101,102,103,104,105,106,107,108,109,110,111,112,113,114,115,116,117,118,119,120,121,122]) y0 y3)] (R' y4 y1)) (W' [v' (X' .mul y0 (ki 2)),v' (X' .mul y0 (ki 2)),v' (P' y4 (ki 2)),v' (o' .ssub (Z' #[48,48,48,49,48,50,48,51,48,52,48,53,48,54,48,55,48,56,48,57,49,48,49,49,49,50,49,51,49,52,49,53,49,54,49,55,49,56,49,57,50,48,50,49,50,50,50,51,50,52,50,53,50,54,50,55,50,56,50,57,51,48,51,49,51,50,51,51,51,52,51,53,51,54,51,55,51,56,51,57,52,48,52,49,52,50,52,51,52,52,52,53,52,54,52,55,52,56,52,57,53,48,53,49,53,50,53,51,53,52,53,53,53,54,53,55,53,56,53,57,54,48,54,49,54,50,54,51,54,52,54,53,54,54,54,55,54,56,54,57,55,48,55,49,55,50,55,51,55,52,55,53,55,54,55,55,55,56,55,57,56,48,56,49,56,50,56,51,56,52,56,53,56,54,56,55,56,56,56,57,57,48,57,49,57,50,57,51,57,52,57,53,57,54,57,55,57,56,57,57]) y3 y5)] (R' y6 y1)))
noncomputable def e175:=e' 175 Tryz.f175 true false [] [] [] [true] t175
theorem ok175:EntOk Tryz.prog e175:=EntOk.ofPlain Tryz.func175 (by kernel_rfl) (by kernel_rfl)

noncomputable def t207:T:=W' [v' (X' .geq y0 (k' 4294967296))] (.join 0 2 (.ite y2 (W' [v' (X' .shr y0 (k' 32))] (J' 0 [y3,ki 32])) (J' 0 [y0,ki 0])) (W' [v' (X' .geq y3 (k' 65536))] (.join 0 2 (.ite y5 (W' [v' (X' .shr y3 (k' 16)),v' (P' y4 (ki 16))] (J' 0 [y6,y7])) (J' 0 [y3,y4])) (W' [v' (X' .geq y6 (k' 256))] (.join 0 2 (.ite y8 (W' [v' (X' .shr y6 (k' 8)),v' (P' y7 (ki 8))] (J' 0 [y9,y10])) (J' 0 [y6,y7])) (W' [v' (.conv .u8 y9),v' (n' .sidx (Z' #[0,1,2,2,3,3,3,3,4,4,4,4,4,4,4,4,5,5,5,5,5,5,5,5,5,5,5,5,5,5,5,5,6,6,6,6,6,6,6,6,6,6,6,6,6,6,6,6,6,6,6,6,6,6,6,6,6,6,6,6,6,6,6,6,7,7,7,7,7,7,7,7,7,7,7,7,7,7,7,7,7,7,7,7,7,7,7,7,7,7,7,7,7,7,7,7,7,7,7,7,7,7,7,7,7,7,7,7,7,7,7,7,7,7,7,7,7,7,7,7,7,7,7,7,7,7,7,7,8,8,8,8,8,8,8,8,8,8,8,8,8,8,8,8,8,8,8,8,8,8,8,8,8,8,8,8,8,8,8,8,8,8,8,8,8,8,8,8,8,8,8,8,8,8,8,8,8,8,8,8,8,8,8,8,8,8,8,8,8,8,8,8,8,8,8,8,8,8,8,8,8,8,8,8,8,8,8,8,8,8,8,8,8,8,8,8,8,8,8,8,8,8,8,8,8,8,8,8,8,8,8,8,8,8,8,8,8,8,8,8,8,8,8,8,8,8,8,8,8,8,8,8,8,8,8,8]) y11),v' (.conv .i64 y12),v' (P' y10 y13)] (R' y14 y1)))))))
noncomputable def e207:=e' 207 Tryz.f207 true false [] [] [] [true] t207
theorem ok207:EntOk Tryz.prog e207:=EntOk.ofPlain Tryz.func207 (by kernel_rfl) (by kernel_rfl)

noncomputable def t231:T:=W' [v' (.lenL y0)] (.join 0 2 (.loop 1 [ki 0] (W' [v' (X' .lss y4 y3)] (.ite y5 (.join 2 3 (W' [v' (.eaddr 4 y0 y4),v' (.ld true 4 y2 y6),.callv [] y1 y2 [y7] [true]] (.ite y8 (R' y4 y2) (J' 2 [y6,y7,y8]))) (W' [v' (P' y4 (ki 1))] (J' 1 [y9]))) (J' 0 [y4,y5])))) (R' (ki (-1)) y2))
noncomputable def e231:=e' 231 Tryz.f231 true false [] [] [] [true,true] t231
theorem ok231:EntOk Tryz.prog e231:=EntOk.ofPlain Tryz.func231 (by kernel_rfl) (by kernel_rfl)

noncomputable def t232:T:=W' [c' 282 y2 [y0,y1] [true],v' (X' .geq y3 (ki 0))] (R' y4 y2)
noncomputable def e232:=e' 232 Tryz.f232 true false [] [] [] [true,true] t232
theorem ok232:EntOk Tryz.prog e232:=EntOk.ofPlain Tryz.func232 (by kernel_rfl) (by kernel_rfl)

noncomputable def t238:T:=W' [c' 267 y2 [y0,y1] [true]] (R' y3 y2)
noncomputable def e238:=e' 238 Tryz.f238 true false [] [] [] [true,true] t238
theorem ok238:EntOk Tryz.prog e238:=EntOk.ofPlain Tryz.func238 (by kernel_rfl) (by kernel_rfl)

noncomputable def t240:T:=W' [v' (Q' y1 (ki 10))] (.ite y3 (W' [v' (X' .leq (ki 0) y0),g' y4 (X' .lss y0 (ki 100)),v' (.ite y4 y5 (kb false))] (.ite y6 (W' [c' 175 y2 [y0] [true]] (R' y7 y2)) (W' [v' (.conv .u64 y0),v' (X' .lss y0 (ki 0))] (.join 0 1 (.ite y8 (W' [v' (.un .neg y7)] (J' 0 [y9])) (J' 0 [y7])) (W' [c' 176 y2 [y9] [true]] (.ret (.deref .nil))))))) (W' [v' (.conv .u64 y0),v' (X' .lss y0 (ki 0)),c' 178 y2 [.const (.lst []),y4,y1,y5,kb false] [true,true]] (R' (t' y6) y2)))
noncomputable def e240:=e' 240 Tryz.f240 true false [] [] [] [true,true] t240
theorem ok240:EntOk Tryz.prog e240:=EntOk.ofPlain Tryz.func240 (by kernel_rfl) (by kernel_rfl)

noncomputable def t247:T:=W' [c' 295 y2 [y0] [true],c' 295 y2 [y1] [true]] (.ite y3 (.ite y4 (R' (ki 0) y2) (R' (ki (-1)) y2)) (.ite y4 (R' (ki 1) y2) (W' [v' (X' .lss y0 y1)] (.ite y5 (R' (ki (-1)) y2) (W' [v' (X' .gtr y0 y1)] (.ite y6 (R' (ki 1) y2) (R' (ki 0) y2)))))))
noncomputable def e247:=e' 247 Tryz.f247 true false [] [] [] [true,true] t247
theorem ok247:EntOk Tryz.prog e247:=EntOk.ofPlain Tryz.func247 (by kernel_rfl) (by kernel_rfl)

noncomputable def t267:T:=W' [v' (.lenS y1),v' (Q' y3 (ki 0)),f' y4 (.bin .eql .str y1 y0),v' (.ite y4 (kb true) y5)] (.ite y6 (R' (ki 0) y2) (W' [v' (Q' y3 (ki 1))] (.ite y7 (W' [v' (n' .sidx y1 (ki 0)),c' 301 y2 [y0,y8] [true]] (R' y9 y2)) (W' [v' (.lenS y0),v' (X' .geq y3 y8)] (.ite y9 (R' (ki (-1)) y2) (.ret (.deref .nil)))))))
noncomputable def e267:=e' 267 Tryz.f267 true false [] [] [] [true,true] t267
theorem ok267:EntOk Tryz.prog e267:=EntOk.ofPlain Tryz.func267 (by kernel_rfl) (by kernel_rfl)

noncomputable def t276:T:=W' [v' (.aggN 7 y0)] (R' (j' (q' 0 y2) (j' (q' 1 y2) (j' (q' 2 y2) (j' (q' 3 y2) (j' (q' 4 y2) (j' (q' 5 y2) (j' (ki 0) .nil))))))) y1)
noncomputable def e276:=e' 276 Tryz.f276 true false [] [] [] [false] t276
theorem ok276:EntOk Tryz.prog e276:=EntOk.ofPlain Tryz.func276 (by kernel_rfl) (by kernel_rfl)

noncomputable def t295:T:=W' [v' (X' .neq y0 y0)] (R' y2 y1)
noncomputable def e295:=e' 295 Tryz.f295 true false [] [] [] [true] t295
theorem ok295:EntOk Tryz.prog e295:=EntOk.ofPlain Tryz.func295 (by kernel_rfl) (by kernel_rfl)

noncomputable def t90:T:=W' [v' (.aggN 3 y0),c' 171 y2 [agc 3 y3,y1] [true],v' (N' y4)] (.ite y5 (R' (C' (.const (.v (.pointer none))) (ki 2)) y2) (W' [c' 85 y2 [q' 2 y3] [true],c' 168 (.const (.st [])) [m' .noids y1] [true],v' (m' .newm y2),v' (j' (.aggN 3 (j' (q' 0 y3) (j' (q' 1 y3) (j' y6 .nil)))) (j' (z' y7) (j' (z' (m' .fstm y2)) .nil))),v' (.newb 128 5 y8 (.aggN 5 y9))] (R' (C' (.fstid y8) (ki 0)) y10)))
noncomputable def e90:Entry:={ f:=90,kn:=.plain,cf:={ (autoCfg false ([]++WRY) PNY [19] [] Tryz.f90) with nils:=true,stk:=true,locs:=[168] },own:=false,ones:=[false,true],t:=t90 }
theorem ok90:EntOk Tryz.prog e90:=EntOk.ofPlain Tryz.func90 (by kernel_rfl) (by kernel_rfl)

noncomputable def t93:T:=W' [w' 173 y2 [y0] [],v' (.nn y0),v' (p' 1 y4),v' (l' (t' y3) y5),v' (.apph 5 1 1 (t' y3) y6 (m' .sbytes y1)),v' (.nn y0),v' (p' 1 y8),v' (.sto 1 y7 y9 (.apps (t' y3) y6 (m' .sbytes y1))),v' (.lenS y1)] (R' (C' y11 (.const (.v .nilIface))) y10)
noncomputable def e93:=e' 93 Tryz.f93 false false [173] [] [] [true,true] t93
theorem ok93:EntOk Tryz.prog e93:=EntOk.ofPlain Tryz.func93 (by kernel_rfl) (by kernel_rfl)

noncomputable def t151:T:=W' [v' (.aggN 2 y1)] (.wpcall 211 y2 [agc 2 y3,ki 6] [true] [] [] (W' [v' (.eaddr 1 (s' y4) (ki 2)),v' (l' (t' y4) y5)] (.pcall 214 (t' y4) [y0,y6] [true] [] [] (W' [v' (.eaddr 1 (s' y4) (ki 0)),v' (l' (t' y4) y8),v' (.eaddr 1 (s' y4) (ki 1)),v' (l' (t' y4) y10),v' (.eaddr 1 (s' y4) (ki 2)),v' (l' (t' y4) y12),v' (.eaddr 1 (s' y4) (ki 3)),v' (l' (t' y4) y14),v' (.eaddr 1 (s' y4) (ki 4)),v' (l' (t' y4) y16),v' (.eaddr 1 (s' y4) (ki 5)),v' (l' (t' y4) y18),v' (j' (z' y9) (j' (z' y11) (j' (z' (ki 1)) (j' (z' y13) (j' (z' y15) (j' (z' y17) (j' (z' y19) .nil))))))),v' (.aggN 7 y20),v' (.bin .eql .str (q' 0 y3) (Z' #[110,111,116]))] (.join 0 1 (.ite y22 (J' 0 [ki 2]) (J' 0 [q' 2 y21])) (W' [v' (.nn y0),v' (p' 31 y24),v' (l' (t' y4) y25),v' (.lcons (.aggN 7 (j' (q' 0 y21) (j' (q' 1 y21) (j' y23 (j' (q' 3 y21) (j' (q' 4 y21) (j' (q' 5 y21) (j' (q' 6 y21) .nil)))))))) (.const (.lst []))),w' 216 (t' y4) [y26,y27] [true]] (.pcall 212 (t' y28) [s' y28] [] [] [] (W' [v' (Q' y23 (ki 1)),g' y30 (.nn y0),g' y30 (p' 0 y31),g' y30 (p' 9 y32),g' y30 (l' (t' y28) y33),g' y30 (q' 0 y21),g' y30 (.eaddr 2 y34 y35),g' y30 (p' 0 y36),g' y30 (l' (t' y28) y37),g' y30 (X' .neq y38 (ki 3)),v' (.ite y30 y39 (kb false))] (.join 0 1 (.ite y40 (W' [v' (.nn y0),v' (p' 30 y41),v' (l' (t' y28) y42),v' (X' .quo (q' 6 y21) (ki 1000)),v' (j' (z' (ki 8)) (j' (z' y44) (j' (z' (q' 4 y21)) (j' (z' y7) .nil)))),w' 213 (t' y28) [y43,y45] [true]] (J' 0 [t' y46])) (J' 0 [t' y28])) (R' .tnil y41))))))))))
noncomputable def e151:=e' 151 Tryz.f151 false false [211] [] [] [true,false] t151
theorem ok151:EntOk Tryz.prog e151:=EntOk.ofPlain Tryz.func151 (by kernel_rfl) (by kernel_rfl)

noncomputable def t277:T:=W' [v' (.nn y0),v' (p' 2 y4),v' (l' y3 y5),v' (l' y3 y2),v' (.ld true 4 y3 y1),v' (.eaddr 4 y6 y7),v' (.sto 4 y3 y9 y8)] (R' .tnil y10)
noncomputable def e277:=e' 277 Tryz.f277 false false [] [] [] [true,true,true] t277
theorem ok277:EntOk Tryz.prog e277:=EntOk.ofPlain Tryz.func277 (by kernel_rfl) (by kernel_rfl)

noncomputable def t6:T:=W' [c' 19 y0 [] [false],c' 18 y0 [y1,Z' #[111,112,101,110,32,48,10,99,111,118,101,114,101,100,32,48,10,112,111,115,116,32,48,32,53,10,112,111,115,116,32,49,32,53,10,115,116,97,114,116,32,49,32,49,48,10,115,116,97,114,116,32,49,32,49,48,10]] [true,true],c' 19 y0 [] [false],c' 18 y0 [y3,Z' #[108,105,110,101,32,49,32,49,32,54,51,51,32,51,48,48,48,48,48,10,111,112,101,110,32,48,48,10,106,117,109,112,32,49,10,112,111,115,116,32,57,32,49]] [true,true],c' 19 y0 [] [false],v' (.lcons (z' (Z' #[112,97,115,115,32,48,32,48,32,49,32,48,32,49,48,48,48,32,50,48,48,48])) (.lcons (z' (Z' #[112,97,115,115,32,48,32,49,32,49,32,49,32,51,48,49,48,48,48,32,51,48,50,48,48,48])) (.lcons (z' (Z' #[108,101,103,32,49,32,48,32,54,48,48])) (.lcons (z' (Z' #[108,105,110,101,32,49,32,48,32,54,51,48,32,48])) (.lcons (z' (Z' #[116,97,107,101,32,49,32,49,32,54,51,51,32,52,48,48,48,48,48])) (.const (.lst []))))))),w' 20 y0 [y5,y6] [true,true,true],v' (X' .neq (t' y2) (ki 0)),f' y8 (t' y4),f' y8 (X' .neq y9 (ki 0)),v' (.ite y8 (kb true) y10),f' y11 (.tget 2 (s' y7)),f' y11 (X' .neq y12 (ki 0)),v' (.ite y11 (kb true) y13),f' y14 (t' (s' y7)),f' y14 (X' .neq y15 (ki (-1))),v' (.ite y14 (kb true) y16),f' y17 (s' (s' y7)),f' y17 (.bin .eql .ptr y18 (.const (.v (.pointer none)))),v' (.ite y17 (kb true) y19)] (.ite y20 (R' (kb false) (t' y7)) (W' [w' 17 (t' y7) [s' (s' y7)] [true],v' (.bin .eql .str (s' y2) (Z' #[111,107,10,111,107,10,111,107,10,111,107,10,111,107,10,101,114,114,111,114,32,55,10])),g' y22 (s' y4),g' y22 (.bin .eql .str y23 (Z' #[101,114,114,111,114,32,50,10,101,114,114,111,114,32,51,10,101,114,114,111,114,32,51,10,101,114,114,111,114,32,50,10])),v' (.ite y22 y24 (kb false)),g' y25 (s' y21),g' y25 (.lenL y26),g' y25 (Q' y27 (ki 1)),v' (.ite y25 y28 (kb false)),g' y29 (s' y21),g' y29 (.eaddr 3 y30 (ki 0)),g' y29 (p' 2 y31),g' y29 (l' (t' y21) y32),g' y29 (.lenL y33),g' y29 (Q' y34 (ki 3)),v' (.ite y29 y35 (kb false)),g' y36 (s' y21),g' y36 (.eaddr 3 y37 (ki 0)),g' y36 (p' 2 y38),g' y36 (l' (t' y21) y39),g' y36 (.eaddr 4 y40 (ki 1)),g' y36 (p' 1 y41),g' y36 (l' (t' y21) y42),g' y36 (Q' y43 (ki 300000)),v' (.ite y36 y44 (kb false))] (R' y45 (t' y21))))
noncomputable def e6:=e' 6 Tryz.f6 false true [17] [] [] [] t6
theorem ok6:EntOk Tryz.prog e6:=EntOk.ofPlain Tryz.func6 (by kernel_rfl) (by kernel_rfl)

end Go.Am.Ra

/-
 Functions that the chapter's examples reach,as texts.
-/
namespace Go.Am.Ra
open Go.Proofs
set_option maxRecDepth 100000

noncomputable def t25:T:=W' [v' (X' .geq y0 y1),g' y4 (X' .leq y0 y2),v' (.ite y4 y5 (kb false))] (R' y6 y3)
noncomputable def e25:=e' 25 Tryz.f25 true false [] [] [] [true,true,true] t25
theorem ok25:EntOk Tryz.prog e25:=EntOk.ofPlain Tryz.func25 (by kernel_rfl) (by kernel_rfl)

noncomputable def t46:T:=W' [v' (.nn y0),v' (p' 6 y4),v' (n' (.elemA 2 3) y5 (ki 1)),v' (p' 0 y6),v' (l' y3 y7),v' (N' y8)] (R' y9 y3)
noncomputable def e46:=e' 46 Tryz.f46 true false [] [] [] [true,true,true] t46
theorem ok46:EntOk Tryz.prog e46:=EntOk.ofPlain Tryz.func46 (by kernel_rfl) (by kernel_rfl)

noncomputable def t19:T:=W' [v' (j' (z' (ki 1)) (j' (.const (.agg [.v (.int .i64 0)])) (j' (z' (ki 30)) (j' (.const (.agg [.v (.bool false)])) .nil)))),v' (j' (z' (ki 2)) (j' (.const (.agg [.v (.int .i64 0)])) (j' (.const (.agg [.v (.int .i64 0)])) (j' (.const (.agg [.v (.bool false)])) .nil)))),v' (j' (z' (ki 1)) (j' (.const (.agg [.v (.int .i64 0)])) (j' (z' (ki 60)) (j' (.const (.agg [.v (.bool false)])) .nil)))),v' (.lcons (.aggN 4 y1) (.lcons (.aggN 4 y2) (.lcons (.aggN 4 y3) (.const (.lst []))))),v' (.lcons (z' (ki 10000)) (.lcons (z' (ki 60000)) (.const (.lst [])))),v' (.lcons (z' (ki 10)) (.lcons (z' (ki 6)) (.const (.lst [])))),v' (.lcons (z' (ki 3)) (.const (.lst []))),v' (j' (z' (ki 10000)) (j' (z' (ki 60000)) (j' (z' (ki 15)) (j' (z' (ki 30)) (j' (z' y5) (j' (.const (.agg [.v (.bool false)])) (j' (.const (.agg [.v (.int .i64 0)])) (j' (z' (ki 1)) (j' (z' (ki 100)) (j' (z' (ki 1)) (j' (z' y6) (j' (z' y7) .nil)))))))))))),v' (j' (z' y4) (j' (z' (ki 1)) (j' (.aggN 12 y8) .nil))),v' (.aggN 14 y9),v' (j' (z' (ki 2)) (j' (z' (ki 60)) (j' (z' (ki 1)) (j' (.const (.agg [.v (.int .i64 0)])) (j' (z' (ki 600)) (j' (z' (ki 1)) .nil)))))),v' (.lcons (z' (ki 1000)) (.const (.lst []))),v' (j' (z' (ki 1)) (j' (z' (ki 2)) (j' (z' y12) .nil))),v' (j' (z' (ki 1)) (j' (.const (.agg [.v (.int .i64 0)])) .nil)),v' (.lcons (.aggN 2 y14) (.const (.lst []))),v' (j' (z' (ki 1)) (j' (.const (.agg [.v (.int .i64 0)])) (j' (.const (.agg [.v (.int .i64 0)])) (j' (z' (ki 1000)) .nil)))),v' (.lcons (.aggN 4 y16) (.const (.lst []))),v' (j' (z' (ki 1)) (j' (z' y17) (j' (z' (ki 30)) (j' (z' (ki 60)) (j' (.const (.agg [.v (.int .i64 0)])) (j' (.const (.agg [.v (.int .i64 0)])) .nil)))))),v' (j' (.aggN 6 y11) (j' (.aggN 3 y13) (j' (z' y15) (j' (.aggN 14 (agc 14 y10)) (j' (.aggN 6 y18) .nil))))),v' (.aggN 30 y19)] (R' (agc 30 y20) y0)
noncomputable def e19:=e' 19 Tryz.f19 true true [] [] [] [] t19
theorem ok19:EntOk Tryz.prog e19:=EntOk.ofPlain Tryz.func19 (by kernel_rfl) (by kernel_rfl)

noncomputable def t94:T:=W' [c' 174 y1 [y0] [true]] (R' y2 y1)
noncomputable def e94:=e' 94 Tryz.f94 true false [] [] [] [true] t94
theorem ok94:EntOk Tryz.prog e94:=EntOk.ofPlain Tryz.func94 (by kernel_rfl) (by kernel_rfl)

noncomputable def t96:T:=W' [v' (Q' y1 (ki 10))] (.ite y3 (W' [v' (X' .lss y0 (k' 100))] (.ite y4 (W' [v' (.conv .i64 y0),c' 175 y2 [y5] [true]] (R' y6 y2)) (W' [c' 176 y2 [y0] [true]] (.ret (.deref .nil))))) (W' [c' 178 y2 [.const (.lst []),y0,y1,kb false,kb false] [true,true]] (R' (t' y4) y2)))
noncomputable def e96:=e' 96 Tryz.f96 true false [] [] [] [true,true] t96
theorem ok96:EntOk Tryz.prog e96:=EntOk.ofPlain Tryz.func96 (by kernel_rfl) (by kernel_rfl)

noncomputable def t104:T:=W' [v' (.mkptr (j' (z' y1) .nil)),v' (.nn y0),v' (p' 14 y4),v' (l' y2 y5),v' (.mkfn 184 .tnil (.tcons y3 .tnil)),c' 108 y2 [y6,y7] [true]] (R' y8 y2)
noncomputable def e104:=e' 104 Tryz.f104 true false [] [] [] [true,true] t104
theorem ok104:EntOk Tryz.prog e104:=EntOk.ofPlain Tryz.func104 (by kernel_rfl) (by kernel_rfl)

noncomputable def t105:T:=W' [v' (.aggN 5 y0),v' (N' (q' 3 y3)),g' y4 (q' 2 y3),g' y4 (l' y2 y1),g' y4 (.nn y6),g' y4 (p' 0 y7),g' y4 (p' 2 y8),g' y4 (l' y2 y9),g' y4 (M' y10 (ki 1)),g' y4 (X' .lss y5 y11),v' (.ite y4 y12 (kb false))] (R' y13 y2)
noncomputable def e105:=e' 105 Tryz.f105 true false [] [] [] [false,true] t105
theorem ok105:EntOk Tryz.prog e105:=EntOk.ofPlain Tryz.func105 (by kernel_rfl) (by kernel_rfl)

noncomputable def t122:T:=W' [v' (.aggN 14 y0),v' (.aggN 3 y1),c' 119 y2 [agc 14 y3] [true],v' (X' .neq y5 (ki 0)),f' y6 (q' 0 y4),f' y6 (q' 1 y3),f' y6 (M' y8 (ki 1)),.call [(y6,false)] 190 y2 [y7,ki 0,y9] [true],f' y6 (N' y10),v' (.ite y6 (kb true) y11),f' y12 (q' 2 y4),f' y12 (.lenL y13),f' y12 (q' 0 y3),f' y12 (.lenL y15),f' y12 (X' .neq y14 y16),v' (.ite y12 (kb true) y17),f' y18 (q' 1 y4),f' y18 (.lenL y19),f' y18 (q' 0 y3),f' y18 (q' 0 y3),f' y18 (.lenL y22),f' y18 (M' y23 (ki 1)),f' y18 (.eaddr 4 y21 y24),f' y18 (p' 1 y25),f' y18 (l' y2 y26),f' y18 (P' y27 (ki 1)),f' y18 (X' .neq y20 y28),v' (.ite y18 (kb true) y29),f' y30 (q' 1 y4),.call [(y30,false)] 191 y2 [y31,ki 1,ki 6,ki 100000] [true],f' y30 (N' y32),v' (.ite y30 (kb true) y33)] (.ite y34 (R' (ki 2) y2) (W' [v' (.lenL (q' 2 y4))] (.join 0 2 (.loop 1 [ki 0] (W' [v' (X' .lss y36 y35)] (.ite y37 (.join 2 19 (W' [v' (.eaddr 4 (q' 2 y4) y36),v' (.ld true 4 y2 y38),v' (.aggN 4 y39),v' (X' .gtr y36 (ki 0)),g' y41 (q' 2 y4),g' y41 (M' y36 (ki 1)),g' y41 (.eaddr 4 y42 y43),g' y41 (p' 3 y44),g' y41 (l' y2 y45),g' y41 (Q' y46 (ki 2)),v' (.ite y41 y47 (kb false)),g' y48 (q' 0 y3),g' y48 (M' y36 (ki 1)),g' y48 (.eaddr 4 y49 y50),g' y48 (p' 1 y51),g' y48 (l' y2 y52),g' y48 (q' 0 y3),g' y48 (.eaddr 4 y54 y36),g' y48 (p' 1 y55),g' y48 (l' y2 y56),g' y48 (Q' y53 y57),v' (.ite y48 y58 (kb false)),v' (.eaddr 4 (q' 0 y3) y36),v' (.ld true 4 y2 y60),c' 193 y2 [y61,agc 4 y40] [true],v' (N' y62),f' y63 (G' y59 (q' 3 y40)),f' y63 (G' y59 (X' .neq y64 (ki 2))),f' y63 (.ite y59 y65 (kb false)),v' (.ite y63 (kb true) y66)] (.ite y67 (R' (ki 2) y2) (J' 2 [y59,y38,y39,y41,y41,y48,y48,y59,y60,y61,agc 4 y40,y62,y63,y63,y67,q' 0 y40,q' 1 y40,q' 2 y40,q' 3 y40]))) (W' [v' (P' y36 (ki 1))] (J' 1 [y57]))) (J' 0 [y36,y37])))) (R' (ki 0) y2))))
noncomputable def e122:=e' 122 Tryz.f122 true false [] [] [] [false,false] t122
theorem ok122:EntOk Tryz.prog e122:=EntOk.ofPlain Tryz.func122 (by kernel_rfl) (by kernel_rfl)

noncomputable def t191:T:=W' [v' (.mkptr (j' (z' y3) .nil)),v' (.lenL y0),c' 190 y4 [y6,y1,y2] [true],g' y7 (.mkfn 248 .tnil (.tcons y5 .tnil)),.call [(y7,true)] 232 y4 [y0,y8] [true],g' y7 (N' y9),v' (.ite y7 y10 (kb false))] (R' y11 y4)
noncomputable def e191:=e' 191 Tryz.f191 true false [] [] [] [true,true,true,true] t191
theorem ok191:EntOk Tryz.prog e191:=EntOk.ofPlain Tryz.func191 (by kernel_rfl) (by kernel_rfl)

noncomputable def t233:T:=W' [c' 111 y1 [y0,ki 0,ki 100000000] [true],v' (N' y2)] (R' y3 y1)
noncomputable def e233:=e' 233 Tryz.f233 true false [] [] [] [true] t233
theorem ok233:EntOk Tryz.prog e233:=EntOk.ofPlain Tryz.func233 (by kernel_rfl) (by kernel_rfl)

noncomputable def t234:T:=W' [c' 283 y2 [y0,y1] [true],v' (X' .geq y3 (ki 0))] (R' y4 y2)
noncomputable def e234:=e' 234 Tryz.f234 true false [] [] [] [true,true] t234
theorem ok234:EntOk Tryz.prog e234:=EntOk.ofPlain Tryz.func234 (by kernel_rfl) (by kernel_rfl)

noncomputable def t248:T:=W' [v' (l' y2 y1),c' 190 y2 [y0,ki 0,y3] [true],v' (N' y4)] (R' y5 y2)
noncomputable def e248:=e' 248 Tryz.f248 true false [] [] [] [true,true] t248
theorem ok248:EntOk Tryz.prog e248:=EntOk.ofPlain Tryz.func248 (by kernel_rfl) (by kernel_rfl)

noncomputable def t269:T:=W' [v' (.aggN 4 y1),v' (Q' (q' 0 y3) (ki 3)),f' y4 (q' 0 y3),f' y4 (Q' y5 (ki 4)),v' (.ite y4 (kb true) y6),f' y7 (q' 0 y3),f' y7 (Q' y8 (ki 5)),v' (.ite y7 (kb true) y9),f' y10 (q' 0 y3),f' y10 (Q' y11 (ki 8)),v' (.ite y10 (kb true) y12),v' (Q' (q' 0 y3) (ki 8)),f' y14 (q' 0 y3),f' y14 (Q' y15 (ki 9)),v' (.ite y14 (kb true) y16),f' y17 (q' 0 y3),f' y17 (Q' y18 (ki 10)),v' (.ite y17 (kb true) y19),v' (X' .lss (q' 0 y3) (ki 1)),f' y21 (q' 0 y3),f' y21 (X' .gtr y22 (ki 10)),v' (.ite y21 (kb true) y23),f' y24 (q' 1 y3),.call [(y24,false)] 42 y2 [y25,ki 0,ki 100000] [true],f' y24 (N' y26),v' (.ite y24 (kb true) y27),f' y28 (N' y13),f' y28 (G' y29 (q' 2 y3)),f' y28 (G' y29 (X' .neq y30 (ki 0))),f' y28 (.ite y29 y31 (kb false)),v' (.ite y28 (kb true) y32),f' y33 (N' y20),f' y33 (G' y34 (q' 3 y3)),f' y33 (G' y34 (X' .neq y35 (ki 0))),f' y33 (.ite y34 y36 (kb false)),v' (.ite y33 (kb true) y37)] (.ite y38 (R' (kb false) y2) (W' [v' (.nn y0),v' (p' 0 y39),v' (p' 0 y40),v' (l' y2 y41),v' (M' y42 (ki 1)),c' 42 y2 [q' 2 y3,ki 0,y43] [true],g' y44 (q' 3 y3),g' y44 (.nn y0),g' y44 (p' 0 y46),g' y44 (p' 5 y47),g' y44 (l' y2 y48),g' y44 (M' y49 (ki 1)),.call [(y44,true)] 42 y2 [y45,ki 0,y50] [true],v' (.ite y44 y51 (kb false))] (R' y52 y2)))
noncomputable def e269:=e' 269 Tryz.f269 true false [] [] [] [true,false] t269
theorem ok269:EntOk Tryz.prog e269:=EntOk.ofPlain Tryz.func269 (by kernel_rfl) (by kernel_rfl)

noncomputable def t286:T:=W' [v' (Q' y0 (k' 0))] (.ite y2 (R' (ki 64) y1) (W' [v' (.un .neg y0),v' (X' .and y0 y3),v' (X' .mul y4 (k' 285870213051353865)),v' (X' .shr y5 (k' 58)),v' (n' (.gix 7 64 1) y1 y6),v' (l' y1 y7),v' (.conv .i64 y8)] (R' y9 y1)))
noncomputable def e286:=e' 286 Tryz.f286 true false [] [] [] [true] t286
theorem ok286:EntOk Tryz.prog e286:=EntOk.ofPlain Tryz.func286 (by kernel_rfl) (by kernel_rfl)

noncomputable def t20:T:=W' [v' (.aggN 30 y0),w' 37 y2 [agc 30 y3] [true,true],v' (X' .neq (t' (s' y4)) (ki 0))] (.ite y5 (R' (D' (.const (.v (.pointer none))) (ki 0) (t' (s' y4))) (t' y4)) (W' [v' (.lenL y1)] (.join 0 3 (.loop 1 [ki 0,t' y4] (W' [v' (X' .lss y7 y6)] (.ite y9 (.join 2 9 (W' [v' (.eaddr 1 y1 y7),v' (l' y8 y10),w' 15 y8 [s' (s' y4),y11] [true],v' (X' .neq (s' y12) (ki 0))] (.ite y13 (R' (D' (.const (.v (.pointer none))) y7 (s' y12)) (t' y12)) (J' 2 [y11,s' y12,y10,y11,y11,s' y12,s' y12,y13,t' y12]))) (W' [v' (P' y7 (ki 1))] (J' 1 [y19,y18]))) (J' 0 [y7,y9,y8])))) (R' (D' (s' (s' y4)) (ki (-1)) (ki 0)) y9))))
noncomputable def e20:=e' 20 Tryz.f20 false false [] [] [] [false,true] t20
theorem ok20:EntOk Tryz.prog e20:=EntOk.ofPlain Tryz.func20 (by kernel_rfl) (by kernel_rfl)

noncomputable def t38:T:=W' [v' (.mkptr (j' (z' y0) .nil)),v' (.newb 202 2 y2 (.const (.agg [.v (.pointer none),.snil]))),w' 92 y4 [y1,Z' #[10]] [true]] (.join 0 1 (.rfor (s' y5) (t' y5) [0,1,2,4,5,8,9] [y0,y1,y3,Z' #[],.fstid y2,y1,s' y5] 1 1 (.join 2 2 (W' [v' (.bin .eql .str y7 (Z' #[]))] (.ite y8 (J' 2 [y8,y6]) (W' [v' (l' y6 y3),w' 15 y6 [m' (.unifc 33) y9,y7] [true],v' (Q' (s' y10) (ki 0))] (.join 3 1 (.ite y11 (W' [w' 93 (t' y10) [.fstid y2,Z' #[111,107,10]] [true,true]] (J' 3 [t' y12])) (W' [c' 94 (t' y10) [s' y10] [true],v' (.bin .add .str (Z' #[101,114,114,111,114,32]) y12),v' (.bin .add .str y13 (Z' #[10])),w' 93 (t' y10) [.fstid y2,y14] [true,true]] (J' 3 [t' y15]))) (J' 2 [y8,y12]))))) (J' 1 [y9])) (J' 0 [y6])) (W' [w' 95 y6 [.fstid y2] [true]] (R' (s' y7) (t' y7))))
noncomputable def e38:Entry:={ f:=38,kn:=.plain,cf:={ (autoCfg false ([92,95]++WRY) PNY [] [] Tryz.f38) with nils:=true,stk:=true,invs:=[(15,33)] },own:=false,ones:=[true,true],t:=t38 }
theorem ok38:EntOk Tryz.prog e38:=EntOk.ofPlain Tryz.func38 (by kernel_rfl) (by kernel_rfl)

noncomputable def t52:T:=W' [v' (.mkptr (j' (z' y1) .nil)),w' 112 y2 [y0] [true],v' (j' (z' y0) (j' (z' (s' y4)) (j' (.const (.agg [.snil])) .nil))),v' (.newb 224 3 (t' y4) (.aggN 3 y5)),v' (m' .newm y6),v' (.newb 225 1 y7 (.const (.agg [.v (.map none)]))),v' (.sto 1 y8 (.fstid y7) (m' .fstm y6)),v' (.nn (.fstid (t' y4))),v' (p' 1 y10),v' (l' y9 y11),v' (.lenL y12)] (.join 0 3 (.loop 1 [ki 0,y9] (W' [v' (X' .lss y14 y13)] (.ite y16 (.join 2 13 (W' [v' (.eaddr 7 y12 y14),v' (.ld true 7 y15 y17),v' (.aggN 7 y18),v' (l' y15 y3),v' (X' .leq (q' 6 y19) y20)] (.join 3 1 (.ite y21 (W' [v' (l' y15 (.fstid y7)),v' (j' (z' (q' 0 y19)) (j' (z' (q' 1 y19)) .nil)),v' (.m4 (.get (.agg [0,0]) false) y15 y22 y23 (ki 0)),v' (P' y24 (ki 1)),v' (.m4 (.entm (.agg [0,0])) y15 y22 y23 (ki 0)),v' (.m4 .ents y26 y22 (t' (.m4 (.entv (.agg [0,0])) y15 y22 y23 (ki 0))) y25),v' (n' .same (.m4 (.get (.agg [0,0]) false) y15 y22 y23 (ki 0)) (.m4 (.get (.agg [0,0]) false) y26 y22 y23 (ki 0)))] (J' 3 [y27])) (J' 3 [y15])) (J' 2 [y17,y18,q' 6 y19,y20,y21,q' 0 y19,q' 1 y19,q' 2 y19,q' 3 y19,q' 4 y19,q' 5 y19,q' 6 y19,y22]))) (W' [v' (P' y14 (ki 1))] (J' 1 [y30,y29]))) (J' 0 [y14,y16,y15])))) (W' [v' (m' .newm y16),v' (.newb 231 1 y17 (.const (.agg [.v (.map none)]))),v' (.sto 1 y18 (.fstid y17) (m' .fstm y16)),v' (.nn (.fstid (t' y4))),v' (p' 1 y20),v' (l' y19 y21),c' 113 y19 [y22] [true]] (.join 0 1 (.rfor y23 y19 [0,1,3,4,5,6,9,16,17,18,19,20,21,22,23,24,25,26,27,28,46,47,48,49,50,51] [y0,y1,y3,.const (.v (.pointer none)),.fstid (t' y4),.fstid y7,.fstid y17,y0,y0,s' y4,y5,.fstid (t' y4),m' .fstm y6,.fstid (t' y4),y10,y11,y12,y13,y14,y15,m' .fstm y16,.fstid (t' y4),y20,y21,y22,y23] 2 1 (W' [v' (.newb 228 7 y24 (.const (.agg [.v (.int .i64 0),.v (.int .i64 0),.v (.int .i64 0),.v (.int .i64 0),.v (.int .i64 0),.v (.int .i64 0),.v (.int .i64 0)]))),v' (.sto 7 y27 (.fstid y24) y26)] (.join 2 15 (W' [v' (p' 0 (.fstid y24)),v' (l' y28 y29),v' (p' 1 (.fstid y24)),v' (l' y28 y31),v' (j' (z' y30) (j' (z' y32) .nil)),v' (.newb 230 2 y28 (.const (.agg [.v (.int .i64 0),.v (.int .i64 0)]))),v' (.sto 2 y34 (.fstid y28) y33),v' (p' 2 (.fstid y24)),v' (l' y35 y36),v' (Q' y37 (ki 4)),g' y38 (p' 6 (.fstid y24)),g' y38 (l' y35 y39),g' y38 (l' y35 y3),g' y38 (X' .leq y40 y41),v' (.ite y38 y42 (kb false)),g' y43 (l' y35 (.fstid y7)),g' y43 (.ld true 2 y35 (.fstid y28)),g' y43 (.m4 (.get (.agg [0,0]) false) y35 y44 y45 (ki 0)),g' y43 (Q' y46 (ki 1)),v' (.ite y43 y47 (kb false)),g' y48 (l' y35 (.fstid y17)),g' y48 (.ld true 2 y35 (.fstid y28)),g' y48 (.m4 (.get (.agg [0,0]) false) y35 y49 y50 (kb false)),g' y48 (N' y51),v' (.ite y48 y52 (kb false))] (.join 3 1 (.ite y53 (W' [v' (l' y35 (.fstid y17)),v' (p' 0 (.fstid y24)),v' (l' y35 y55),v' (p' 3 (.fstid y24)),v' (l' y35 y57),v' (j' (z' y56) (j' (z' y58) .nil)),v' (.m4 (.put (.agg [0,0])) y35 y54 y59 (kb true))] (J' 3 [y60])) (J' 3 [y35])) (J' 2 [y29,y30,y31,y32,y33,y36,y37,y38,y38,y43,y43,y48,y48,y53,y54]))) (J' 1 [y43]))) (J' 0 [y24])) (W' [v' (.nn (.fstid (t' y4))),v' (p' 1 y25),v' (l' y24 y26),v' (.lenL y27)] (.join 0 3 (.loop 1 [ki 0,y24] (W' [v' (X' .lss y29 y28)] (.ite y31 (.join 2 22 (W' [v' (.eaddr 7 y27 y29),v' (.ld true 7 y30 y32),v' (.aggN 7 y33),v' (j' (z' (q' 0 y34)) (j' (z' (q' 1 y34)) .nil)),v' (.aggN 2 y35),v' (l' y30 y3),v' (X' .leq (q' 6 y34) y37),g' y38 (l' y30 (.fstid y7)),g' y38 (.m4 (.get (.agg [0,0]) false) y30 y39 (agc 2 y36) (ki 0)),g' y38 (Q' y40 (ki 1)),v' (.ite y38 y41 (kb false)),g' y42 (l' y30 (.fstid y17)),g' y42 (.m4 (.get (.agg [0,0]) false) y30 y43 (agc 2 y36) (kb false)),g' y42 (N' y44),v' (.ite y42 y45 (kb false))] (.join 3 1 (.ite y46 (W' [v' (.nn (.fstid (t' y4))),v' (p' 2 y47),v' (l' y30 y48),v' (.lcons (z' y29) (.const (.lst []))),v' (.apph 3 1 8 y30 y49 y50),v' (.nn (.fstid (t' y4))),v' (p' 2 y52),v' (.sto 1 y51 y53 (.apps y30 y49 y50))] (J' 3 [y54])) (J' 3 [y30])) (J' 2 [y32,y33,q' 0 y34,q' 1 y34,y35,q' 6 y34,y37,y38,y38,y42,y42,y46,q' 0 y34,q' 1 y34,q' 2 y34,q' 3 y34,q' 4 y34,q' 5 y34,q' 6 y34,q' 0 y36,q' 1 y36,y47]))) (W' [v' (P' y29 (ki 1))] (J' 1 [y54,y53]))) (J' 0 [y29,y31,y30])))) (R' (.fstid (t' y4)) y31))))))
noncomputable def e52:=e' 52 Tryz.f52 false false [] [20] [] [true,true] t52
theorem ok52:EntOk Tryz.prog e52:=EntOk.ofPlain Tryz.func52 (by kernel_rfl) (by kernel_rfl)

noncomputable def t91:T:=W' [v' (.aggN 6 y0),c' 165 y1 [agc 6 y2] [true],v' (X' .neq y3 (ki 0))] (.ite y4 (R' (C' (.const (.v (.pointer none))) y3) y1) (W' [c' 170 y1 [q' 1 y2] [true],v' (j' (.aggN 6 (j' (q' 0 y2) (j' y5 (j' (q' 2 y2) (j' (q' 3 y2) (j' (q' 4 y2) (j' (q' 5 y2) .nil))))))) (j' (z' (kb true)) (j' (.const (.agg [.snil])) (j' (.const (.agg [.snil])) .nil)))),v' (.newb 169 9 y1 (.aggN 9 y6))] (R' (C' (.fstid y1) (ki 0)) y7)))
noncomputable def e91:=e' 91 Tryz.f91 false false [] [16] [] [false] t91
theorem ok91:EntOk Tryz.prog e91:=EntOk.ofPlain Tryz.func91 (by kernel_rfl) (by kernel_rfl)

noncomputable def t112:T:=W' [c' 110 y1 [y0] [true],v' (N' y2)] (.ite y3 (R' (.const (.lst [])) y1) (W' [v' (.nn y0),v' (p' 4 y4),v' (l' y1 y5),v' (n' .rng y1 y6)] (.join 0 4 (.loop 1 [.const .snil,y7] (.pick (n' .next y9 (.fstid y1)) (W' [v' (s' (s' y10))] (.ite y11 (.join 2 17 (W' [v' (n' .entry (t' y10) (.fstid y1)),v' (.aggN 7 (s' y12)),v' (z' (t' y12)),v' (.lcons (.aggN 7 (j' (q' 0 y13) (j' (q' 1 y13) (j' (q' 2 y13) (j' (q' 3 y13) (j' (q' 4 y13) (j' (q' 5 y13) (j' (t' y12) .nil)))))))) (.const (.lst []))),v' (.apph 228 7 56 (t' y10) y8 y15)] (J' 2 [.apps (t' y10) y8 y15,t' y12,C' (s' y12) (t' y12),s' y12,t' y12,t' y12,j' (q' 0 y13) (j' (q' 1 y13) (j' (q' 2 y13) (j' (q' 3 y13) (j' (q' 4 y13) (j' (q' 5 y13) (j' (t' y12) .nil)))))),y15,.apps (t' y10) y8 y15,q' 0 y13,q' 1 y13,q' 2 y13,q' 3 y13,q' 4 y13,q' 5 y13,t' y12,y16])) (J' 1 [y12,y28])) (J' 0 [y8,s' y10,y11,t' y10]))))) (W' [w' 186 y11 [y8,.const (.fn 187 [] [])] []] (R' y8 (t' y12))))))
noncomputable def e112:Entry:={ f:=112,kn:=.plain,cf:={ (autoCfg false ([]++WRY) PNY [3] [] Tryz.f112) with nils:=true,stk:=true,maps:=[126] },own:=false,ones:=[true],t:=t112,nd:=true }
theorem ok112:EntOk Tryz.prog e112:=ofNd (EntOk.ofPlain Tryz.func112 (by kernel_rfl) (by kernel_rfl))

noncomputable def t146:T:=.loop 0 [y2] (.join 1 16 (W' [v' (l' y3 y1),c' 147 y3 [y4,Z' #[32]] [true,true,true],.wcallv [] y0 y3 [s' y5] [true],v' (N' (s' y6)),f' y7 (.tget 2 y5),f' y7 (N' y8),v' (.ite y7 (kb true) y9)] (.ite y10 (R' .tnil (t' y6)) (W' [v' (.sto 1 (t' y6) y1 (t' y5))] (J' 1 [s' y5,t' y5,.tget 2 y5,D' (s' y5) (t' y5) (.tget 2 y5),y4,D' (s' y5) (t' y5) (.tget 2 y5),s' y5,t' y5,.tget 2 y5,s' y5,s' y6,y7,y7,y10,t' y5,y11])))) (J' 0 [y19]))
noncomputable def e146:=e' 146 Tryz.f146 false false [1000014] [] [] [true,true] t146
theorem ok146:EntOk Tryz.prog e146:=EntOk.ofPlain Tryz.func146 (by kernel_rfl) (by kernel_rfl)

noncomputable def t186:T:=W' [v' (.lenL y0),v' (.conv .u64 y3),c' 135 y2 [y4] [true],w' 246 y2 [y0,ki 0,y3,y5,y1] []] (R' .tnil (t' y6))
noncomputable def e186:=e' 186 Tryz.f186 false false [] [] [] [true,true] t186
theorem ok186:EntOk Tryz.prog e186:=EntOk.ofPlain Tryz.func186 (by kernel_rfl) (by kernel_rfl)

noncomputable def t215:T:=W' [c' 26 y3 [y0,y1,y2] [true,true],v' (X' .neq (t' y4) (ki 0))] (.ite y5 (R' (t' y4) y3) (W' [v' (.lenL (s' y4)),v' (X' .gtr y6 (ki 0))] (.ite y7 (R' (ki 7) y3) (W' [v' (.nn y0),v' (p' 14 y8),v' (l' y3 y9),v' (.nn y0),v' (p' 14 y11),v' (l' y3 y12),v' (.eaddr 5 y10 y1),v' (p' 0 y14),v' (.sto 1 y3 y15 (kb true)),v' (.eaddr 5 y13 y1),v' (p' 1 y17),v' (.sto 1 y16 y18 y2)] (R' (ki 0) y19)))))
noncomputable def e215:=e' 215 Tryz.f215 false false [] [] [] [true,true,true] t215
theorem ok215:EntOk Tryz.prog e215:=EntOk.ofPlain Tryz.func215 (by kernel_rfl) (by kernel_rfl)

noncomputable def t270:T:=W' [v' (l' y2 y0),v' (.nn y3),v' (p' 13 y4),v' (l' y2 y5),v' (p' 2 y1),v' (l' y2 y7),v' (.eaddr 3 y6 y8),v' (p' 1 y1),v' (l' y2 y10),w' 271 y2 [y9,kb true,y11,kb true] []] (R' .tnil (t' y12))
noncomputable def e270:=e' 270 Tryz.f270 false false [] [] [] [true,true] t270
theorem ok270:EntOk Tryz.prog e270:=EntOk.ofPlain Tryz.func270 (by kernel_rfl) (by kernel_rfl)

noncomputable def t85w:T:=.nilq y0 false (.ite y2 (R' (.const (.lst [])) y1) (W' [v' (.newv 3 1 y1 (.const (.lst []))),v' (.apph 3 1 8 y3 (.fstsl y1 (.const (.lst []))) y0)] (R' (.apps y3 (.fstsl y1 (.const (.lst []))) y0) y4)))
noncomputable def e85w:=e' 85 Tryz.f85 false false [] [5,7] [] [true] t85w
theorem ok85w:EntOk Tryz.prog e85w:=EntOk.ofPlain Tryz.func85 (by kernel_rfl) (by kernel_rfl)

end Go.Am.Ra

/-
 Functions that the chapter's examples reach,as texts.
-/
namespace Go.Am.Ra
open Go.Proofs
set_option maxRecDepth 100000

noncomputable def t26:T:=W' [c' 41 y3 [y0] [true],v' (N' y4)] (.ite y5 (R' (C' (.const (.lst [])) (ki 1)) y3) (W' [v' (.nn y0),v' (p' 0 y6),v' (p' 5 y7),v' (l' y3 y8),v' (M' y9 (ki 1)),c' 42 y3 [y1,ki 0,y10] [true],v' (N' y11),.call [(y12,false)] 42 y3 [y2,ki 0,ki 100000] [true],f' y12 (N' y13),v' (.ite y12 (kb true) y14)] (.ite y15 (R' (C' (.const (.lst [])) (ki 2)) y3) (W' [v' (.mkfn 43 (.tcons y0 .tnil) .tnil),v' (.mkfn 44 (.tcons y0 .tnil) .tnil),v' (.mkfn 45 (.tcons y0 .tnil) .tnil),v' (.mkfn 46 (.tcons y0 .tnil) .tnil),v' (.mkfn 47 (.tcons y0 .tnil) .tnil),v' (.mkfn 48 (.tcons y0 .tnil) .tnil),v' (.mkfn 49 (.tcons y0 .tnil) .tnil),v' (.mkfn 50 (.tcons y0 .tnil) .tnil),v' (.lcons (z' y16) (.lcons (z' y17) (.lcons (z' y18) (.lcons (z' y19) (.lcons (z' y20) (.lcons (z' y21) (.lcons (z' y22) (.lcons (z' y23) (.const (.lst [])))))))))),v' (.lenL y24)] (.join 0 3 (.loop 1 [.const (.lst []),ki 0] (W' [v' (X' .lss y27 y25)] (.ite y28 (.join 2 6 (W' [v' (.eaddr 1 y24 y27),v' (l' y3 y29),.callv [] y30 y3 [y1,y2] [true]] (.join 3 1 (.ite y31 (W' [v' (P' (ki 1) y27),v' (.lcons (z' y32) (.const (.lst []))),v' (.app 1 8 y26 y33)] (J' 3 [y34])) (J' 3 [y26])) (J' 2 [y32,y30,y29,y30,y30,y31]))) (W' [v' (P' y27 (ki 1))] (J' 1 [y29,y35]))) (J' 0 [y26,y27,y28])))) (R' (C' y26 (ki 0)) y3))))))
noncomputable def e26:=e' 26 Tryz.f26 true false [] [] [] [true,true,true] t26
theorem ok26:EntOk Tryz.prog e26:=EntOk.ofPlain Tryz.func26 (by kernel_rfl) (by kernel_rfl)

noncomputable def t48:T:=W' [v' (.mkptr (j' (z' y0) .nil)),v' (.mkptr (j' (z' y2) .nil)),v' (l' y3 y4),v' (.mkfn 106 .tnil (C' y4 y5)),c' 104 y3 [y6,y7] [true]] (R' y8 y3)
noncomputable def e48:=e' 48 Tryz.f48 true false [] [] [] [true,true,true] t48
theorem ok48:EntOk Tryz.prog e48:=EntOk.ofPlain Tryz.func48 (by kernel_rfl) (by kernel_rfl)

noncomputable def t51:T:=W' [c' 110 y4 [y0] [true],v' (N' y5)] (.ite y6 (R' (ki 1) y4) (W' [v' (.nn y0),v' (p' 0 y7),v' (p' 0 y8),v' (l' y4 y9),c' 111 y4 [y1,ki 1,y10] [true],v' (N' y11),f' y12 (.nn y0),f' y12 (p' 0 y13),f' y12 (p' 1 y14),f' y12 (l' y4 y15),f' y12 (M' y16 (ki 1)),.call [(y12,false)] 111 y4 [y2,ki 0,y17] [true],f' y12 (N' y18),v' (.ite y12 (kb true) y19),.call [(y20,false)] 111 y4 [y3,ki 0,ki 1000000000000] [true],f' y20 (N' y21),v' (.ite y20 (kb true) y22)] (.ite y23 (R' (ki 2) y4) (R' (ki 0) y4))))
noncomputable def e51:=e' 51 Tryz.f51 true false [] [] [] [true,true,true,true] t51
theorem ok51:EntOk Tryz.prog e51:=EntOk.ofPlain Tryz.func51 (by kernel_rfl) (by kernel_rfl)

noncomputable def t22:T:=W' [c' 39 y1 [y0,ki 16] [true],v' (.lenS y2),v' (M' (ki 16) y3),c' 40 y1 [Z' #[48],y4] [true],v' (.bin .add .str y5 y2)] (R' y6 y1)
noncomputable def e22:=e' 22 Tryz.f22 true false [] [] [] [true] t22
theorem ok22:EntOk Tryz.prog e22:=EntOk.ofPlain Tryz.func22 (by kernel_rfl) (by kernel_rfl)

noncomputable def t34:T:=W' [v' (.lenL y0),v' (X' .gtr y3 (ki 0))] (.join 0 1 (.ite y4 (W' [v' (M' y3 (ki 1)),v' (.eaddr 2 y0 y5),v' (p' 1 y6),v' (l' y2 y7),c' 84 y2 [y8,ki 16,ki 64] [true,true]] (J' 0 [s' y9])) (J' 0 [k' 14695981039346656037])) (W' [c' 21 y2 [y5,y1] [true],c' 22 y2 [y6] [true]] (R' y7 y2)))
noncomputable def e34:=e' 34 Tryz.f34 true false [] [] [] [true,true] t34
theorem ok34:EntOk Tryz.prog e34:=EntOk.ofPlain Tryz.func34 (by kernel_rfl) (by kernel_rfl)

noncomputable def t39:T:=W' [c' 96 y2 [y0,y1] [true]] (R' y3 y2)
noncomputable def e39:=e' 39 Tryz.f39 true false [] [] [] [true,true] t39
theorem ok39:EntOk Tryz.prog e39:=EntOk.ofPlain Tryz.func39 (by kernel_rfl) (by kernel_rfl)

noncomputable def t88:T:=W' [v' (.aggN 30 y0),c' 85 y1 [q' 8 y2] [true],c' 168 y1 [q' 9 y2] [true],c' 169 y1 [q' 10 y2] [true],c' 85 y1 [q' 16 y2] [true],c' 85 y1 [q' 22 y2] [true],c' 85 y1 [q' 23 y2] [true],c' 170 y1 [q' 25 y2] [true]] (R' (j' (q' 0 y2) (j' (q' 1 y2) (j' (q' 2 y2) (j' (q' 3 y2) (j' (q' 4 y2) (j' (q' 5 y2) (j' (q' 6 y2) (j' (q' 7 y2) (j' y3 (j' y4 (j' y5 (j' (q' 11 y2) (j' (q' 12 y2) (j' (q' 13 y2) (j' (q' 14 y2) (j' (q' 15 y2) (j' y6 (j' (q' 17 y2) (j' (q' 18 y2) (j' (q' 19 y2) (j' (q' 20 y2) (j' (q' 21 y2) (j' y7 (j' y8 (j' (q' 24 y2) (j' y9 (j' (q' 26 y2) (j' (q' 27 y2) (j' (q' 28 y2) (j' (q' 29 y2) .nil)))))))))))))))))))))))))))))) y1)
noncomputable def e88:=e' 88 Tryz.f88 true false [] [] [] [false] t88
theorem ok88:EntOk Tryz.prog e88:=EntOk.ofPlain Tryz.func88 (by kernel_rfl) (by kernel_rfl)

noncomputable def t95:T:=W' [v' (.nn y0),v' (p' 1 y2),v' (l' y1 y3),v' (m' .usd y4),v' (.nn y0),v' (p' 1 y6),v' (l' y1 y7),v' (.lenL y8),v' (o' (.ustrh 5) y1 y5 y9)] (R' (o' (.ustr 5) y1 y5 y9) y10)
noncomputable def e95:=e' 95 Tryz.f95 false false [] [] [] [true] t95
theorem ok95:EntOk Tryz.prog e95:=EntOk.ofPlain Tryz.func95 (by kernel_rfl) (by kernel_rfl)

noncomputable def t102:T:=W' [v' (.aggN 3 y0)] (R' (q' 0 y2) y1)
noncomputable def e102:=e' 102 Tryz.f102 true false [] [] [] [false] t102
theorem ok102:EntOk Tryz.prog e102:=EntOk.ofPlain Tryz.func102 (by kernel_rfl) (by kernel_rfl)

noncomputable def t167:T:=W' [c' 231 y2 [y0,y1] [true],v' (X' .geq y3 (ki 0))] (R' y4 y2)
noncomputable def e167:=e' 167 Tryz.f167 true false [] [] [] [true,true] t167
theorem ok167:EntOk Tryz.prog e167:=EntOk.ofPlain Tryz.func167 (by kernel_rfl) (by kernel_rfl)

noncomputable def t168:T:=.nilq y0 false (.ite y2 (R' (.const (.lst [])) y1) (W' [v' (.const (.lst [])),v' (.app 2 16 y3 y0)] (R' y4 y1)))
noncomputable def e168:=e' 168 Tryz.f168 true false [] [] [] [true] t168
theorem ok168:EntOk Tryz.prog e168:=EntOk.ofPlain Tryz.func168 (by kernel_rfl) (by kernel_rfl)

noncomputable def t178:T:=W' [v' (X' .lss y2 (ki 2)),f' y6 (Q' y2 (ki 10)),v' (.ite y6 (kb true) y7),f' y8 (X' .gtr y2 (ki 36)),v' (.ite y8 (kb true) y9)] (.join 0 0 (.ite y10 (.pan (m' .isifc (.ifc 9 (Z' #[115,116,114,99,111,110,118,58,32,105,108,108,101,103,97,108,32,65,112,112,101,110,100,73,110,116,47,70,111,114,109,97,116,73,110,116,32,98,97,115,101]))) y5 [] []) (J' 0 [])) (W' [v' (.newb 344 65 y5 (.const (.agg [.v (.int .u8 0),.v (.int .u8 0),.v (.int .u8 0),.v (.int .u8 0),.v (.int .u8 0),.v (.int .u8 0),.v (.int .u8 0),.v (.int .u8 0),.v (.int .u8 0),.v (.int .u8 0),.v (.int .u8 0),.v (.int .u8 0),.v (.int .u8 0),.v (.int .u8 0),.v (.int .u8 0),.v (.int .u8 0),.v (.int .u8 0),.v (.int .u8 0),.v (.int .u8 0),.v (.int .u8 0),.v (.int .u8 0),.v (.int .u8 0),.v (.int .u8 0),.v (.int .u8 0),.v (.int .u8 0),.v (.int .u8 0),.v (.int .u8 0),.v (.int .u8 0),.v (.int .u8 0),.v (.int .u8 0),.v (.int .u8 0),.v (.int .u8 0),.v (.int .u8 0),.v (.int .u8 0),.v (.int .u8 0),.v (.int .u8 0),.v (.int .u8 0),.v (.int .u8 0),.v (.int .u8 0),.v (.int .u8 0),.v (.int .u8 0),.v (.int .u8 0),.v (.int .u8 0),.v (.int .u8 0),.v (.int .u8 0),.v (.int .u8 0),.v (.int .u8 0),.v (.int .u8 0),.v (.int .u8 0),.v (.int .u8 0),.v (.int .u8 0),.v (.int .u8 0),.v (.int .u8 0),.v (.int .u8 0),.v (.int .u8 0),.v (.int .u8 0),.v (.int .u8 0),.v (.int .u8 0),.v (.int .u8 0),.v (.int .u8 0),.v (.int .u8 0),.v (.int .u8 0),.v (.int .u8 0),.v (.int .u8 0),.v (.int .u8 0)])))] (.join 0 1 (.ite y3 (W' [v' (.un .neg y1)] (J' 0 [y12])) (J' 0 [y1])) (W' [c' 243 y11 [y2] [true]] (.join 0 3 (.ite y13 (W' [v' (.conv .u64 y2),c' 244 y11 [y14] [true],v' (.conv .u64 y15),v' (.conv .u64 y2),v' (.conv .u64 y2),v' (M' y18 (k' 1))] (.join 1 5 (.loop 2 [y12,ki 65,y11] (W' [v' (X' .geq y20 y17)] (.ite y23 (.join 3 9 (W' [v' (M' y21 (ki 1)),v' (X' .and y20 y19),v' (n' .sidx (Z' #[48,49,50,51,52,53,54,55,56,57,97,98,99,100,101,102,103,104,105,106,107,108,109,110,111,112,113,114,115,116,117,118,119,120,121,122]) y25),v' (n' (.elemA 65 1) (.fstid y5) y24),v' (.sto 1 y22 y27 y26),v' (X' .shr y20 y16)] (J' 3 [y29,y24,y24,y24,y25,y26,y27,y29,y28])) (J' 2 [y24,y25,y32])) (J' 1 [y20,y21,y20,y23,y22])))) (W' [v' (M' y21 (ki 1)),v' (n' .sidx (Z' #[48,49,50,51,52,53,54,55,56,57,97,98,99,100,101,102,103,104,105,106,107,108,109,110,111,112,113,114,115,116,117,118,119,120,121,122]) y20),v' (n' (.elemA 65 1) (.fstid y5) y25),v' (.sto 1 y24 y27 y26)] (J' 0 [y20,y25,y28])))) (W' [v' (.conv .u64 y2)] (.join 1 5 (.loop 2 [y12,ki 65,y11] (W' [v' (X' .geq y15 y14)] (.ite y18 (.join 3 13 (W' [v' (M' y16 (ki 1)),v' (X' .quo y15 y14),v' (X' .mul y20 y14),v' (M' y15 y21),v' (n' .sidx (Z' #[48,49,50,51,52,53,54,55,56,57,97,98,99,100,101,102,103,104,105,106,107,108,109,110,111,112,113,114,115,116,117,118,119,120,121,122]) y22),v' (n' (.elemA 65 1) (.fstid y5) y19),v' (.sto 1 y17 y24 y23)] (J' 3 [y20,y19,y20,y19,y20,y19,y20,y21,y22,y23,y24,y20,y25])) (J' 2 [y19,y20,y31])) (J' 1 [y15,y16,y15,y18,y17])))) (W' [v' (M' y16 (ki 1)),v' (n' .sidx (Z' #[48,49,50,51,52,53,54,55,56,57,97,98,99,100,101,102,103,104,105,106,107,108,109,110,111,112,113,114,115,116,117,118,119,120,121,122]) y15),v' (n' (.elemA 65 1) (.fstid y5) y20),v' (.sto 1 y19 y22 y21)] (J' 0 [y15,y20,y23]))))) (.join 0 2 (.ite y3 (W' [v' (M' y15 (ki 1)),v' (n' (.elemA 65 1) (.fstid y5) y17),v' (.sto 1 y16 y18 (K' 45))] (J' 0 [y17,y19])) (J' 0 [y15,y16])) (.ite y4 (W' [v' (n' (.asl 65 1) (.fstid y5) y17),v' (.apph 5 1 1 y18 y0 y19)] (R' (C' (.apps y18 y0 y19) (Z' #[])) y20)) (W' [v' (n' (.asl 65 1) (.fstid y5) y17),v' (n' .bstrh y18 y19)] (R' (C' (.const (.lst [])) y20) y18)))))))))
noncomputable def e178:=e' 178 Tryz.f178 false true [] [12,101] [] [true,true,true,true,true] t178
theorem ok178:EntOk Tryz.prog e178:=EntOk.ofPlain Tryz.func178 (by kernel_rfl) (by kernel_rfl)

noncomputable def t190:T:=W' [v' (X' .geq y0 y1),g' y4 (X' .leq y0 y2),v' (.ite y4 y5 (kb false))] (R' y6 y3)
noncomputable def e190:=e' 190 Tryz.f190 true false [] [] [] [true,true,true] t190
theorem ok190:EntOk Tryz.prog e190:=EntOk.ofPlain Tryz.func190 (by kernel_rfl) (by kernel_rfl)

noncomputable def t224:T:=W' [v' (X' .or y0 (K' 32))] (R' y2 y1)
noncomputable def e224:=e' 224 Tryz.f224 true false [] [] [] [true] t224
theorem ok224:EntOk Tryz.prog e224:=EntOk.ofPlain Tryz.func224 (by kernel_rfl) (by kernel_rfl)

noncomputable def t230:T:=W' [v' (.lenL y0)] (.join 0 2 (.loop 1 [ki 0] (W' [v' (X' .lss y3 y2)] (.ite y4 (.join 2 5 (W' [v' (.eaddr 1 y0 y3),v' (l' y1 y5),v' (X' .neq y6 (ki 0))] (.ite y7 (R' y6 y1) (J' 2 [y6,y5,y6,y6,y7]))) (W' [v' (P' y3 (ki 1))] (J' 1 [y10]))) (J' 0 [y3,y4])))) (R' (ki 0) y1))
noncomputable def e230:=e' 230 Tryz.f230 true false [] [] [] [true] t230
theorem ok230:EntOk Tryz.prog e230:=EntOk.ofPlain Tryz.func230 (by kernel_rfl) (by kernel_rfl)

noncomputable def t244:T:=.ite (kb false) (W' [v' (.conv .u32 y0),c' 285 y1 [y2] [true]] (R' y3 y1)) (W' [c' 286 y1 [y0] [true]] (R' y2 y1))
noncomputable def e244:=e' 244 Tryz.f244 true false [] [] [] [true] t244
theorem ok244:EntOk Tryz.prog e244:=EntOk.ofPlain Tryz.func244 (by kernel_rfl) (by kernel_rfl)

noncomputable def t273:T:=W' [v' (.aggN 7 y0),v' (l' y2 y1),c' 274 y2 [y4,agc 7 y3] [true],v' (N' y5)] (R' y6 y2)
noncomputable def e273:=e' 273 Tryz.f273 true false [] [] [] [false,true] t273
theorem ok273:EntOk Tryz.prog e273:=EntOk.ofPlain Tryz.func273 (by kernel_rfl) (by kernel_rfl)

noncomputable def t305:T:=W' [v' (.lenL y0)] (.join 0 2 (.loop 1 [ki 0] (W' [v' (X' .lss y4 y3)] (.ite y5 (.join 2 3 (W' [v' (.eaddr 7 y0 y4),v' (.ld true 7 y2 y6),.callv [] y1 y2 [y7] [true]] (.ite y8 (R' y4 y2) (J' 2 [y6,y7,y8]))) (W' [v' (P' y4 (ki 1))] (J' 1 [y9]))) (J' 0 [y4,y5])))) (R' (ki (-1)) y2))
noncomputable def e305:=e' 305 Tryz.f305 true false [] [] [] [true,true] t305
theorem ok305:EntOk Tryz.prog e305:=EntOk.ofPlain Tryz.func305 (by kernel_rfl) (by kernel_rfl)

noncomputable def t148:T:=W' [v' (.aggN 2 y1)] (.join 0 3 (W' [v' (.bin .eql .str (q' 0 y3) (Z' #[112,111,115,116]))] (.join 1 1 (.ite y4 (J' 1 [y4]) (W' [v' (.bin .eql .str (q' 0 y3) (Z' #[114,101,100]))] (.join 2 1 (.ite y5 (J' 2 [y5]) (W' [v' (.bin .eql .str (q' 0 y3) (Z' #[103,114,101,101,110]))] (J' 2 [y6]))) (J' 1 [y6])))) (.join 1 1 (.ite y5 (.wpcall 211 y2 [agc 2 y3,ki 2] [true] [] [] (W' [v' (m' .newm (t' y6)),v' (.m4 (.put .str) y7 (m' .fstm (t' y6)) (Z' #[112,111,115,116]) (ki 3)),v' (.m4 (.put .str) y8 (m' .fstm (t' y6)) (Z' #[114,101,100]) (ki 4)),v' (.m4 (.put .str) y9 (m' .fstm (t' y6)) (Z' #[103,114,101,101,110]) (ki 5)),v' (.m4 (.get .str false) y10 (m' .fstm (t' y6)) (q' 0 y3) (ki 0)),v' (.nn y0),v' (p' 30 y12),v' (l' y10 y13),v' (.eaddr 1 (s' y6) (ki 0)),v' (l' y10 y15),v' (.eaddr 1 (s' y6) (ki 1)),v' (l' y10 y17),v' (j' (z' y11) (j' (z' y18) (j' (z' y16) (j' (.const (.agg [.v (.int .i64 0)])) .nil)))),w' 213 y10 [y14,y19] [true]] (.pcall 212 (t' y20) [s' y20] [] [] [] (J' 1 [t' y20])))) (.wpcall 211 y2 [agc 2 y3,ki 1] [true] [] [] (W' [v' (m' .newm (t' y6)),v' (.m4 (.put .str) y7 (m' .fstm (t' y6)) (Z' #[111,112,101,110]) (ki 1)),v' (.m4 (.put .str) y8 (m' .fstm (t' y6)) (Z' #[99,108,111,115,101]) (ki 2)),v' (.m4 (.put .str) y9 (m' .fstm (t' y6)) (Z' #[99,111,118,101,114,101,100]) (ki 6)),v' (.m4 (.put .str) y10 (m' .fstm (t' y6)) (Z' #[117,110,99,111,118,101,114,101,100]) (ki 7)),v' (.m4 (.get .str false) y11 (m' .fstm (t' y6)) (q' 0 y3) (ki 0)),v' (.nn y0),v' (p' 30 y13),v' (l' y11 y14),v' (.eaddr 1 (s' y6) (ki 0)),v' (l' y11 y16),v' (j' (z' y12) (j' (z' y17) (j' (.const (.agg [.v (.int .i64 0)])) (j' (.const (.agg [.v (.int .i64 0)])) .nil)))),w' 213 y11 [y15,y18] [true]] (.pcall 212 (t' y19) [s' y19] [] [] [] (J' 1 [t' y19]))))) (J' 0 [y5,y4,y6])))) (R' .tnil y6))
noncomputable def e148:=e' 148 Tryz.f148 false false [211] [] [] [true,false] t148
theorem ok148:EntOk Tryz.prog e148:=EntOk.ofPlain Tryz.func148 (by kernel_rfl) (by kernel_rfl)

noncomputable def t150:T:=W' [v' (.aggN 2 y1)] (.wpcall 211 y2 [agc 2 y3,ki 2] [true] [] [] (W' [v' (.nn y0),v' (p' 30 y5),v' (l' (t' y4) y6),v' (.eaddr 1 (s' y4) (ki 0)),v' (l' (t' y4) y8),c' 214 (t' y4) [y0,y9] [true],v' (.eaddr 1 (s' y4) (ki 1)),v' (l' (t' y4) y11),w' 215 (t' y4) [y7,y10,y12] [true]] (.pcall 212 (t' y13) [s' y13] [] [] [] (R' .tnil (t' y13)))))
noncomputable def e150:=e' 150 Tryz.f150 false false [211] [] [] [true,false] t150
theorem ok150:EntOk Tryz.prog e150:=EntOk.ofPlain Tryz.func150 (by kernel_rfl) (by kernel_rfl)

noncomputable def t188:T:=W' [v' (l' y2 y1),v' (.lenL y3),v' (M' y4 (ki 1))] (.join 0 4 (.loop 1 [y5,y2] (W' [v' (X' .geq y6 (ki 0))] (.ite y8 (.join 2 6 (W' [v' (l' y7 y1),v' (.eaddr 7 y9 y6),v' (.ld true 7 y7 y10),.wcallv [] y0 y7 [y6,y11] [true],v' (N' (s' y12))] (.ite y13 (R' .tnil (t' y12)) (J' 2 [y9,y10,y11,s' y12,y13,t' y12]))) (W' [v' (M' y6 (ki 1))] (J' 1 [y15,y14]))) (J' 0 [y6,y6,y8,y7])))) (R' .tnil y9))
noncomputable def e188:=e' 188 Tryz.f188 false false [1000017] [] [] [true,true] t188
theorem ok188:EntOk Tryz.prog e188:=EntOk.ofPlain Tryz.func188 (by kernel_rfl) (by kernel_rfl)

noncomputable def t189:T:=W' [v' (l' y3 y1),v' (.nn y4),v' (p' 2 y5),v' (l' y3 y6),v' (.lenL y7)] (.join 0 3 (.loop 1 [ki 0,y3] (W' [v' (X' .lss y9 y8)] (.ite y11 (.join 2 24 (W' [v' (.eaddr 1 y7 y9),v' (l' y10 y12),v' (l' y10 y1),v' (.nn y14),v' (p' 1 y15),v' (l' y10 y16),v' (.eaddr 7 y17 y13),v' (.ld true 7 y10 y18),v' (.aggN 7 y19),v' (X' .neq (q' 2 y20) (ki 4)),g' y21 (q' 3 y20),g' y21 (l' y10 y2),g' y21 (Q' y22 y23),v' (.ite y21 y24 (kb false)),.wcallv [(y25,true)] y0 y10 [y13,agc 7 y20] [true],g' y25 (N' (s' y26)),v' (.ite y25 y27 (kb false))] (.ite y28 (R' .tnil (t' y26)) (J' 2 [y13,y12,y13,y14,y15,y16,y17,y13,y18,y19,q' 2 y20,y21,y21,y25,y25,y28,q' 0 y20,q' 1 y20,q' 2 y20,q' 3 y20,q' 4 y20,q' 5 y20,q' 6 y20,t' y26]))) (W' [v' (P' y9 (ki 1))] (J' 1 [y36,y35]))) (J' 0 [y9,y11,y10])))) (R' .tnil y11))
noncomputable def e189:=e' 189 Tryz.f189 false false [1000036] [] [] [true,true,true] t189
theorem ok189:EntOk Tryz.prog e189:=EntOk.ofPlain Tryz.func189 (by kernel_rfl) (by kernel_rfl)

noncomputable def t236:T:=W' [v' (l' y4 y1),v' (.lenS y5),v' (Q' y6 (ki 0))] (.ite y7 (.join 0 4 (.loop 1 [y4] (W' [v' (l' y8 y2),v' (.lenS y9),v' (X' .gtr y10 (ki 0))] (.ite y11 (.join 2 16 (W' [v' (l' y8 y2),c' 237 y8 [y12] [true,true],v' (l' y8 y2),v' (o' .ssub y14 (ki 0) (t' y13)),.wcallv [] y0 y8 [y15] [true],v' (N' (s' y16))] (.ite y17 (R' .tnil (t' y16)) (W' [v' (l' (t' y16) y2),v' (o' .ssub y18 (t' y13) (.lenS y18)),v' (.sto 1 (t' y16) y2 y19)] (J' 2 [s' y13,t' y13,C' (s' y13) (t' y13),y12,C' (s' y13) (t' y13),s' y13,t' y13,y14,t' y13,y15,s' y16,y17,y18,t' y13,y19,y20])))) (J' 1 [y27])) (J' 0 [y9,y10,y11,y8])))) (R' .tnil y11)) (.join 0 7 (.loop 1 [y4] (.join 2 22 (W' [v' (l' y8 y2),v' (l' y8 y1),c' 238 y8 [y9,y10] [true],v' (X' .lss y11 (ki 0))] (.ite y12 (J' 0 [y11,y9,y10,y11,y11,y12,y8]) (W' [v' (l' y8 y2),v' (l' y8 y3),v' (P' y11 y14),v' (o' .ssub y13 (ki 0) y15),.wcallv [] y0 y8 [y16] [true],v' (N' (s' y17))] (.ite y18 (R' .tnil (t' y17)) (W' [v' (l' (t' y17) y2),v' (l' (t' y17) y1),v' (.lenS y20),v' (P' y11 y21),v' (o' .ssub y19 y22 (.lenS y19)),v' (.sto 1 (t' y17) y2 y23)] (J' 2 [y11,y16,y9,y10,y11,y11,y12,y13,y11,y14,y15,y16,y16,s' y17,y18,y19,y11,y20,y21,y22,y23,y24])))))) (J' 1 [y30]))) (W' [v' (l' y14 y2),.wcallv [] y0 y14 [y15] [true]] (R' .tnil (t' y16)))))
noncomputable def e236:=e' 236 Tryz.f236 false false [1000024,1000041,1000051] [] [] [true,true,true,true] t236
theorem ok236:EntOk Tryz.prog e236:=EntOk.ofPlain Tryz.func236 (by kernel_rfl) (by kernel_rfl)

noncomputable def t37:T:=W' [v' (.aggN 30 y0),c' 87 y1 [agc 30 y2] [true],v' (X' .neq y3 (ki 0))] (.ite y4 (R' (C' (.const (.v (.pointer none))) y3) y1) (W' [c' 88 y1 [agc 30 y2] [false],v' (j' (.aggN 30 y5) (j' (.const (.agg [.v (.pointer none)])) (j' (.const (.agg [.v (.pointer none)])) (j' (.const (.agg [.v (.pointer none)])) (j' (.const (.agg [.snil])) (j' (.const (.agg [.snil])) .nil)))))),v' (.newb 56 35 y1 (.aggN 35 y6)),v' (.nn (.fstid y1)),v' (p' 0 y8),v' (p' 0 y9),v' (.ld true 6 y7 y10),w' 89 y7 [y11] [true,true],v' (.nn (.fstid y1)),v' (p' 30 y13),v' (.sto 1 (t' y12) y14 (s' (s' y12))),v' (.nn (.fstid y1)),v' (p' 0 y16),v' (p' 6 y17),v' (.ld true 3 y15 y18),v' (.nn (.fstid y1)),v' (p' 0 y20),v' (p' 9 y21),v' (l' y15 y22),w' 90 y15 [y19,y23] [true,true],v' (.nn (.fstid y1)),v' (p' 31 y25),v' (.sto 1 (t' y24) y26 (s' (s' y24))),v' (.nn (.fstid y1)),v' (p' 0 y28),v' (p' 24 y29),v' (.ld true 6 y27 y30),w' 91 y27 [y31] [true,true],v' (.nn (.fstid y1)),v' (p' 32 y33),v' (.sto 1 (t' y32) y34 (s' (s' y32))),v' (.nn (.fstid y1)),v' (p' 0 y36),v' (p' 10 y37),v' (p' 0 y38),v' (l' y35 y39),v' (.lenL y40),v' (.nn (.fstid y1)),v' (p' 0 y42),v' (p' 6 y43),v' (p' 0 y44),v' (l' y35 y45)] (.join 0 3 (.loop 1 [ki 0,y35] (W' [v' (X' .lss y47 y46)] (.ite y49 (.join 2 27 (W' [v' (.nn (.fstid y1)),v' (p' 0 y50),v' (p' 10 y51),v' (p' 0 y52),v' (l' y48 y53),v' (M' y41 (ki 1)),v' (.eaddr 4 y54 y55),v' (p' 1 y56),v' (l' y48 y57),v' (P' y58 (ki 1)),v' (.rep 8 y59 (.v (.int .i64 0))),v' (.rep 32 y41 (.agg [.v (.int .i64 0),.v (.int .i64 0),.v (.bool false),.v (.int .i64 0)])),v' (.lenL y61)] (.join 3 3 (.loop 4 [ki 0,y61] (W' [v' (X' .lss y63 y62)] (.ite y65 (.join 5 1 (W' [v' (.idx y64 y63),v' (.set y64 y63 3 (ki 2))] (J' 5 [y67])) (W' [v' (P' y63 (ki 1))] (J' 4 [y67,y66]))) (J' 3 [y63,y65,y64])))) (W' [v' (.nn (.fstid y1)),v' (p' 33 y66),v' (l' (.newv 1000000000 4 (.newv 1000000000 1 y48 y60) y65) y67),v' (.lcons (.aggN 3 (j' (ki 0) (j' (.fstsl y48 y60) (j' (.fstsl (.newv 1000000000 1 y48 y60) y65) .nil)))) (.const (.lst []))),v' (.apph 78 3 56 (.newv 1000000000 4 (.newv 1000000000 1 y48 y60) y65) y68 y69),v' (.nn (.fstid y1)),v' (p' 33 y71),v' (.sto 1 y70 y72 (.apps (.newv 1000000000 4 (.newv 1000000000 1 y48 y60) y65) y68 y69))] (J' 2 [y50,y51,y52,y53,y54,y55,y56,y57,y58,y59,.fstsl y48 y60,.fstsl (.newv 1000000000 1 y48 y60) y65,.fstsl (.newv 1000000000 1 y48 y60) y65,y62,y63,y64,y66,y67,y68,j' (ki 0) (j' (.fstsl y48 y60) (j' (.fstsl (.newv 1000000000 1 y48 y60) y65) .nil)),y69,.apps (.newv 1000000000 4 (.newv 1000000000 1 y48 y60) y65) y68 y69,y71,y72,.fstsl y48 y60,.fstsl (.newv 1000000000 1 y48 y60) y65,y73])))) (W' [v' (P' y47 (ki 1))] (J' 1 [y77,y76]))) (J' 0 [y47,y49,y48])))) (R' (C' (.fstid y1) (ki 0)) y49))))
noncomputable def e37:=e' 37 Tryz.f37 false false [89,90,91] [17] [(17,1000086),(17,1000088)] [false] t37
theorem ok37:EntOk Tryz.prog e37:=EntOk.ofPlain Tryz.func37 (by kernel_rfl) (by kernel_rfl)

noncomputable def t81:T:=W' [v' (m' (.ifnil true) y2)] (.join 0 1 (.ite y3 (W' [v' (n' (.tassert 172) y2 (.const (.agg [.v (.int .i64 0)]))),v' (.aggN 1 (s' y4)),v' (N' (t' y4))] (.join 1 0 (.ite y6 (.pan (m' .isifc y2) y1 [] []) (J' 1 [])) (W' [v' (.sto 1 y1 y0 (q' 0 y5))] (J' 0 [y7])))) (J' 0 [y1])) (R' .tnil y4))
noncomputable def e81:Entry:={ f:=81,kn:=.recovers,cf:={ (autoCfg false ([]++WRY) PNY [] [] Tryz.f81) with nils:=true,stk:=true },own:=false,ones:=[true],t:=t81 }
theorem ok81:EntOk Tryz.prog e81:=EntOk.ofRecovers Tryz.func81 (by kernel_rfl) (by kernel_rfl)

end Go.Am.Ra

/-
 Functions that the chapter's examples reach,as texts.
-/
namespace Go.Am.Ra
open Go.Proofs
set_option maxRecDepth 100000

noncomputable def t42:T:=W' [v' (X' .geq y0 y1),g' y4 (X' .leq y0 y2),v' (.ite y4 y5 (kb false))] (R' y6 y3)
noncomputable def e42:=e' 42 Tryz.f42 true false [] [] [] [true,true,true] t42
theorem ok42:EntOk Tryz.prog e42:=EntOk.ofPlain Tryz.func42 (by kernel_rfl) (by kernel_rfl)

noncomputable def t43:T:=W' [v' (.nn y0),v' (p' 6 y4),v' (n' (.elemA 2 3) y5 (ki 0)),v' (p' 0 y6),v' (l' y3 y7),v' (N' y8)] (R' y9 y3)
noncomputable def e43:=e' 43 Tryz.f43 true false [] [] [] [true,true,true] t43
theorem ok43:EntOk Tryz.prog e43:=EntOk.ofPlain Tryz.func43 (by kernel_rfl) (by kernel_rfl)

noncomputable def t45:T:=W' [v' (.mkptr (j' (z' y0) .nil)),v' (.mkptr (j' (z' y2) .nil)),v' (l' y3 y4),v' (.nn y6),v' (p' 13 y7),v' (l' y3 y8),v' (.mkfn 103 .tnil (C' y5 y4)),c' 101 y3 [y9,y10] [true]] (R' y11 y3)
noncomputable def e45:=e' 45 Tryz.f45 true false [] [] [] [true,true,true] t45
theorem ok45:EntOk Tryz.prog e45:=EntOk.ofPlain Tryz.func45 (by kernel_rfl) (by kernel_rfl)

noncomputable def t47:T:=W' [v' (.mkptr (j' (z' y0) .nil)),v' (l' y3 y4),v' (.mkfn 105 .tnil (.tcons y4 .tnil)),c' 104 y3 [y5,y6] [true]] (R' y7 y3)
noncomputable def e47:=e' 47 Tryz.f47 true false [] [] [] [true,true,true] t47
theorem ok47:EntOk Tryz.prog e47:=EntOk.ofPlain Tryz.func47 (by kernel_rfl) (by kernel_rfl)

noncomputable def t103:T:=W' [v' (.aggN 3 y0),v' (N' (q' 2 y4)),f' y5 (l' y3 y1),f' y5 (q' 1 y4),f' y5 (M' y6 y7),f' y5 (l' y3 y2),f' y5 (.nn y9),f' y5 (p' 0 y10),f' y5 (p' 1 y11),f' y5 (l' y3 y12),f' y5 (X' .gtr y8 y13),v' (.ite y5 (kb true) y14)] (R' y15 y3)
noncomputable def e103:=e' 103 Tryz.f103 true false [] [] [] [false,true,true] t103
theorem ok103:EntOk Tryz.prog e103:=EntOk.ofPlain Tryz.func103 (by kernel_rfl) (by kernel_rfl)

noncomputable def t113:T:=W' [v' (.mkptr (j' (z' y0) .nil)),v' (.mkfn 188 .tnil (.tcons y2 .tnil))] (R' y3 y1)
noncomputable def e113:=e' 113 Tryz.f113 true false [] [] [] [true] t113
theorem ok113:EntOk Tryz.prog e113:=EntOk.ofPlain Tryz.func113 (by kernel_rfl) (by kernel_rfl)

noncomputable def t137:T:=W' [v' (X' .neq y0 y0)] (R' y2 y1)
noncomputable def e137:=e' 137 Tryz.f137 true false [] [] [] [true] t137
theorem ok137:EntOk Tryz.prog e137:=EntOk.ofPlain Tryz.func137 (by kernel_rfl) (by kernel_rfl)

noncomputable def t165:T:=W' [v' (.aggN 6 y0),c' 140 y1 [q' 0 y2,ki 1,ki 200] [true],v' (N' y3),f' y4 (q' 1 y2),f' y4 (.lenL y5),.call [(y4,false)] 140 y1 [y6,ki 1,ki 500] [true],f' y4 (N' y7),v' (.ite y4 (kb true) y8),f' y9 (q' 2 y2),.call [(y9,false)] 140 y1 [y10,ki 0,ki 10000] [true],f' y9 (N' y11),v' (.ite y9 (kb true) y12),f' y13 (q' 3 y2),.call [(y13,false)] 140 y1 [y14,ki 0,ki 10000] [true],f' y13 (N' y15),v' (.ite y13 (kb true) y16),f' y17 (q' 4 y2),.call [(y17,false)] 140 y1 [y18,ki 0,ki 1000000000] [true],f' y17 (N' y19),v' (.ite y17 (kb true) y20),f' y21 (q' 5 y2),.call [(y21,false)] 140 y1 [y22,ki 0,ki 1000000000] [true],f' y21 (N' y23),v' (.ite y21 (kb true) y24)] (.ite y25 (R' (ki 2) y1) (W' [v' (.lenL (q' 1 y2))] (.join 0 2 (.loop 1 [ki 0] (W' [v' (X' .lss y27 y26)] (.ite y28 (.join 2 16 (W' [v' (.eaddr 4 (q' 1 y2) y27),v' (.ld true 4 y1 y29),v' (.aggN 4 y30),c' 140 y1 [q' 0 y31,ki 1,ki 10000] [true],v' (N' y32),f' y33 (q' 1 y31),.call [(y33,false)] 140 y1 [y34,ki 0,ki 10000000] [true],f' y33 (N' y35),v' (.ite y33 (kb true) y36),f' y37 (q' 2 y31),f' y37 (q' 3 y31),.call [(y37,false)] 140 y1 [y38,ki 0,y39] [true],f' y37 (N' y40),v' (.ite y37 (kb true) y41),f' y42 (q' 3 y31),f' y42 (X' .gtr y43 (ki 36000000)),v' (.ite y42 (kb true) y44)] (.ite y45 (R' (ki 2) y1) (W' [v' (X' .gtr y27 (ki 0))] (.join 3 0 (.ite y46 (W' [v' (M' y27 (ki 1)),v' (.eaddr 4 (q' 1 y2) y47),v' (.ld true 4 y1 y48),v' (.aggN 4 y49),c' 67 y1 [q' 0 y50,q' 0 y31] [true],c' 67 y1 [q' 1 y50,q' 1 y31] [true],v' (.lcons (z' y51) (.lcons (z' y52) (.const (.lst [])))),c' 230 y1 [y53] [true],v' (X' .geq y54 (ki 0))] (.ite y55 (R' (ki 2) y1) (J' 3 []))) (J' 3 [])) (J' 2 [y29,y30,q' 0 y31,y32,y33,y33,y37,y37,y42,y42,y45,y46,q' 0 y31,q' 1 y31,q' 2 y31,q' 3 y31]))))) (W' [v' (P' y27 (ki 1))] (J' 1 [y45]))) (J' 0 [y27,y28])))) (R' (ki 0) y1))))
noncomputable def e165:=e' 165 Tryz.f165 true false [] [] [] [false] t165
theorem ok165:EntOk Tryz.prog e165:=EntOk.ofPlain Tryz.func165 (by kernel_rfl) (by kernel_rfl)

noncomputable def t172:T:=W' [v' (.newb 9 1 y3 (j' (z' y0) .nil)),v' (.mkptr (j' (z' y1) .nil)),v' (.mkptr (j' (z' y2) .nil)),v' (.mkfn 236 .tnil (D' y5 (.fstid y3) y6))] (R' y7 y4)
noncomputable def e172:=e' 172 Tryz.f172 false false [] [3] [] [true,true,true] t172
theorem ok172:EntOk Tryz.prog e172:=EntOk.ofPlain Tryz.func172 (by kernel_rfl) (by kernel_rfl)

noncomputable def t183:T:=W' [v' (.lenL y0)] (.join 0 2 (.loop 1 [ki 0] (W' [v' (X' .lss y4 y3)] (.ite y5 (.join 2 3 (W' [v' (.eaddr 3 y0 y4),v' (.ld true 3 y2 y6),.callv [] y1 y2 [y7] [true]] (.ite y8 (R' y4 y2) (J' 2 [y6,y7,y8]))) (W' [v' (P' y4 (ki 1))] (J' 1 [y9]))) (J' 0 [y4,y5])))) (R' (ki (-1)) y2))
noncomputable def e183:=e' 183 Tryz.f183 true false [] [] [] [true,true] t183
theorem ok183:EntOk Tryz.prog e183:=EntOk.ofPlain Tryz.func183 (by kernel_rfl) (by kernel_rfl)

noncomputable def t193:T:=W' [v' (.aggN 4 y0),v' (.aggN 4 y1),c' 190 y2 [q' 0 y4,ki 0,ki 100000] [true],v' (N' y5),f' y6 (q' 1 y4),.call [(y6,false)] 190 y2 [y7,ki 0,ki 36000000] [true],f' y6 (N' y8),v' (.ite y6 (kb true) y9)] (.ite y10 (R' (kb false) y2) (W' [v' (Q' (q' 0 y3) (ki 1))] (.join 0 6 (W' [v' (Q' (q' 3 y4) (ki 0))] (.ite y12 (W' [g' y11 (q' 1 y4),g' y11 (Q' y13 (ki 0)),v' (.ite y11 y14 (kb false)),g' y15 (q' 2 y4),g' y15 (N' y16),v' (.ite y15 y17 (kb false)),f' y18 (N' y11),f' y18 (G' y19 (q' 1 y4)),f' y18 (G' y19 (X' .gtr y20 (ki 0))),f' y18 (.ite y19 y21 (kb false)),v' (.ite y18 (kb true) y22)] (R' y23 y2)) (W' [v' (Q' (q' 3 y4) (ki 1))] (.ite y13 (W' [v' (N' y11),g' y14 (q' 1 y4),g' y14 (Q' y15 (ki 0)),v' (.ite y14 y16 (kb false))] (R' y17 y2)) (W' [v' (Q' (q' 3 y4) (ki 2))] (.ite y14 (W' [v' (Q' (q' 0 y4) (ki 0)),g' y15 (q' 1 y4),g' y15 (Q' y16 (ki 0)),v' (.ite y15 y17 (kb false)),g' y18 (q' 2 y4),g' y18 (N' y19),v' (.ite y18 y20 (kb false))] (R' y21 y2)) (J' 0 [y12,y12,y13,y13,y14,y14]))))))) (R' (kb false) y2))))
noncomputable def e193:=e' 193 Tryz.f193 true false [] [] [] [false,false] t193
theorem ok193:EntOk Tryz.prog e193:=EntOk.ofPlain Tryz.func193 (by kernel_rfl) (by kernel_rfl)

noncomputable def t210:T:=W' [c' 267 y2 [y0,y1] [true],v' (X' .geq y3 (ki 0))] (.ite y4 (W' [v' (o' .ssub y0 (ki 0) y3),v' (.lenS y1),v' (P' y3 y6),v' (o' .ssub y0 y7 (.lenS y0))] (R' (D' y5 y8 (kb true)) y2)) (R' (D' y0 (Z' #[]) (kb false)) y2))
noncomputable def e210:=e' 210 Tryz.f210 true false [] [] [] [true,true] t210
theorem ok210:EntOk Tryz.prog e210:=EntOk.ofPlain Tryz.func210 (by kernel_rfl) (by kernel_rfl)

noncomputable def t211:T:=W' [v' (.aggN 2 y0),v' (.lenL (q' 1 y3)),v' (X' .neq y4 y1)] (.join 0 0 (.ite y5 (.pcall 212 y2 [ki 3] [] [] [] (J' 0 [])) (J' 0 [])) (W' [v' (.lenL (q' 1 y3))] (.join 0 4 (.loop 1 [.const (.lst []),ki 0,y2] (W' [v' (X' .lss y8 y6)] (.ite y10 (.join 2 17 (W' [v' (.eaddr 1 (q' 1 y3) y8),v' (l' y9 y11),w' 268 y9 [y12] [true,true],v' (N' (t' (s' y13)))] (.join 3 0 (.ite y14 (.pcall 212 (t' y13) [ki 3] [] [] [] (J' 3 [])) (J' 3 [])) (W' [v' (.lcons (z' (s' (s' y13))) (.const (.lst []))),v' (.app 1 8 y7 y15)] (J' 2 [y16,y12,s' (s' y13),t' (s' y13),y11,y12,C' (s' (s' y13)) (t' (s' y13)),y12,C' (s' (s' y13)) (t' (s' y13)),s' (s' y13),t' (s' y13),t' (s' y13),y14,s' (s' y13),y15,y16,t' y13])))) (W' [v' (P' y8 (ki 1))] (J' 1 [y11,y28,y27]))) (J' 0 [y7,y8,y10,y9])))) (R' y7 y10))))
noncomputable def e211:=e' 211 Tryz.f211 false false [268] [] [] [false,true] t211
theorem ok211:EntOk Tryz.prog e211:=EntOk.ofPlain Tryz.func211 (by kernel_rfl) (by kernel_rfl)

noncomputable def t243:T:=W' [v' (M' y0 (ki 1)),v' (X' .and y0 y2),v' (Q' y3 (ki 0))] (R' y4 y1)
noncomputable def e243:=e' 243 Tryz.f243 true false [] [] [] [true] t243
theorem ok243:EntOk Tryz.prog e243:=EntOk.ofPlain Tryz.func243 (by kernel_rfl) (by kernel_rfl)

noncomputable def t272:T:=W' [c' 305 y2 [y0,y1] [true],v' (X' .geq y3 (ki 0))] (R' y4 y2)
noncomputable def e272:=e' 272 Tryz.f272 true false [] [] [] [true,true] t272
theorem ok272:EntOk Tryz.prog e272:=EntOk.ofPlain Tryz.func272 (by kernel_rfl) (by kernel_rfl)

noncomputable def t307:T:=W' [v' (.lenL y0)] (.join 0 3 (.loop 1 [ki 0,ki 0] (W' [v' (X' .lss y5 y3)] (.ite y6 (.join 2 7 (W' [v' (.eaddr 1 y0 y5),v' (l' y2 y7),v' (Q' y5 (ki 0)),.callv [(y9,false)] y1 y2 [y8,y4] [true],v' (.ite y9 (kb true) y10)] (.join 3 1 (.ite y11 (J' 3 [y8]) (J' 3 [y4])) (J' 2 [y12,y8,y7,y8,y9,y9,y11]))) (W' [v' (P' y5 (ki 1))] (J' 1 [y7,y14]))) (J' 0 [y4,y5,y6])))) (W' [v' (.lenL y0),v' (X' .gtr y7 (ki 0))] (R' (C' y4 y8) y2)))
noncomputable def e307:=e' 307 Tryz.f307 true false [] [] [] [true,true] t307
theorem ok307:EntOk Tryz.prog e307:=EntOk.ofPlain Tryz.func307 (by kernel_rfl) (by kernel_rfl)

noncomputable def t83:T:=W' [v' (m' .newm y1),v' (.mkfn 148 (.tcons y0 .tnil) .tnil),v' (.m4 (.put .str) y2 (m' .fstm y1) (Z' #[111,112,101,110]) y3),v' (.mkfn 148 (.tcons y0 .tnil) .tnil),v' (.m4 (.put .str) y4 (m' .fstm y1) (Z' #[99,108,111,115,101]) y5),v' (.mkfn 148 (.tcons y0 .tnil) .tnil),v' (.m4 (.put .str) y6 (m' .fstm y1) (Z' #[99,111,118,101,114,101,100]) y7),v' (.mkfn 148 (.tcons y0 .tnil) .tnil),v' (.m4 (.put .str) y8 (m' .fstm y1) (Z' #[117,110,99,111,118,101,114,101,100]) y9),v' (.mkfn 148 (.tcons y0 .tnil) .tnil),v' (.m4 (.put .str) y10 (m' .fstm y1) (Z' #[112,111,115,116]) y11),v' (.mkfn 148 (.tcons y0 .tnil) .tnil),v' (.m4 (.put .str) y12 (m' .fstm y1) (Z' #[114,101,100]) y13),v' (.mkfn 148 (.tcons y0 .tnil) .tnil),v' (.m4 (.put .str) y14 (m' .fstm y1) (Z' #[103,114,101,101,110]) y15),v' (.mkfn 149 (.tcons y0 .tnil) .tnil),v' (.m4 (.put .str) y16 (m' .fstm y1) (Z' #[115,97,102,101]) y17),v' (.mkfn 149 (.tcons y0 .tnil) .tnil),v' (.m4 (.put .str) y18 (m' .fstm y1) (Z' #[102,111,117,110,100]) y19),v' (.mkfn 150 (.tcons y0 .tnil) .tnil),v' (.m4 (.put .str) y20 (m' .fstm y1) (Z' #[115,116,97,114,116]) y21),v' (.mkfn 151 (.tcons y0 .tnil) .tnil),v' (.m4 (.put .str) y22 (m' .fstm y1) (Z' #[112,97,115,115]) y23),v' (.mkfn 151 (.tcons y0 .tnil) .tnil),v' (.m4 (.put .str) y24 (m' .fstm y1) (Z' #[110,111,116]) y25),v' (.mkfn 152 (.tcons y0 .tnil) .tnil),v' (.m4 (.put .str) y26 (m' .fstm y1) (Z' #[111,117,116]) y27),v' (.mkfn 153 (.tcons y0 .tnil) .tnil),v' (.m4 (.put .str) y28 (m' .fstm y1) (Z' #[118,111,105,100]) y29),v' (.mkfn 154 (.tcons y0 .tnil) .tnil),v' (.m4 (.put .str) y30 (m' .fstm y1) (Z' #[99,108,97,115,115]) y31),v' (.mkfn 155 (.tcons y0 .tnil) .tnil),v' (.m4 (.put .str) y32 (m' .fstm y1) (Z' #[108,101,103]) y33),v' (.mkfn 156 (.tcons y0 .tnil) .tnil),v' (.m4 (.put .str) y34 (m' .fstm y1) (Z' #[108,105,110,101]) y35),v' (.mkfn 157 (.tcons y0 .tnil) .tnil),v' (.m4 (.put .str) y36 (m' .fstm y1) (Z' #[116,97,107,101]) y37),v' (.mkfn 158 (.tcons y0 .tnil) .tnil),v' (.m4 (.put .str) y38 (m' .fstm y1) (Z' #[112,117,98,108,105,115,104]) y39),v' (.mkfn 159 (.tcons y0 .tnil) .tnil),v' (.m4 (.put .str) y40 (m' .fstm y1) (Z' #[112,114,111,116,101,115,116]) y41),v' (.mkfn 160 (.tcons y0 .tnil) .tnil),v' (.m4 (.put .str) y42 (m' .fstm y1) (Z' #[100,101,99,105,100,101]) y43),v' (.mkfn 160 (.tcons y0 .tnil) .tnil),v' (.m4 (.put .str) y44 (m' .fstm y1) (Z' #[114,101,106,101,99,116]) y45),v' (.mkfn 161 (.tcons y0 .tnil) .tnil),v' (.m4 (.put .str) y46 (m' .fstm y1) (Z' #[97,112,112,101,97,108]) y47),v' (.mkfn 160 (.tcons y0 .tnil) .tnil),v' (.m4 (.put .str) y48 (m' .fstm y1) (Z' #[106,117,100,103,101]) y49),v' (.mkfn 160 (.tcons y0 .tnil) .tnil),v' (.m4 (.put .str) y50 (m' .fstm y1) (Z' #[100,105,115,109,105,115,115]) y51),v' (.mkfn 162 (.tcons y0 .tnil) .tnil),v' (.m4 (.put .str) y52 (m' .fstm y1) (Z' #[100,114,111,112]) y53)] (R' (m' .fstm y1) y54)
noncomputable def e83:=e' 83 Tryz.f83 false false [] [] [] [true] t83
theorem ok83:EntOk Tryz.prog e83:=EntOk.ofPlain Tryz.func83 (by kernel_rfl) (by kernel_rfl)

noncomputable def t213:T:=W' [v' (.mkptr (j' (z' y0) .nil)),v' (.mkptr (.aggN 4 y1)),v' (l' y2 y3),c' 41 y2 [y5] [true],v' (N' y6)] (.ite y7 (R' (ki 1) y2) (W' [v' (l' y2 y3),v' (.ld true 4 y2 y4),c' 269 y2 [y8,y9] [true],v' (N' y10)] (.ite y11 (R' (ki 2) y2) (W' [v' (l' y2 y3),v' (.nn y12),v' (p' 14 y13),v' (l' y2 y14),v' (p' 3 y4),v' (l' y2 y16),v' (.eaddr 5 y15 y17),v' (.mkfn 270 .tnil (C' y3 y4)),v' (p' 0 y4),v' (l' y2 y20)] (.join 0 3 (W' [v' (Q' y21 (ki 1))] (.join 1 1 (.ite y22 (J' 1 [y22]) (W' [v' (Q' y21 (ki 2))] (J' 1 [y23]))) (.join 1 1 (.ite y23 (W' [v' (l' y2 y3),v' (.nn y24),v' (p' 6 y25),v' (n' (.elemA 2 3) y26 (ki 0)),v' (p' 0 y4),v' (l' y2 y28),v' (Q' y29 (ki 1)),v' (p' 1 y4),v' (l' y2 y31),w' 271 y2 [y27,y30,y32,kb false] []] (J' 1 [t' y33])) (W' [v' (Q' y21 (ki 6))] (.join 2 1 (.ite y24 (J' 2 [y24]) (W' [v' (Q' y21 (ki 7))] (J' 2 [y25]))) (.join 2 1 (.ite y25 (W' [v' (l' y2 y3),v' (.nn y26),v' (p' 6 y27),v' (n' (.elemA 2 3) y28 (ki 1)),v' (p' 0 y4),v' (l' y2 y30),v' (Q' y31 (ki 6)),v' (p' 1 y4),v' (l' y2 y33),w' 271 y2 [y29,y32,y34,kb false] []] (J' 2 [t' y35])) (W' [v' (Q' y21 (ki 3))] (.join 3 1 (.ite y26 (W' [.wcallv [] y19 y2 [] []] (J' 3 [t' y27])) (W' [v' (Q' y21 (ki 4))] (.join 4 1 (.ite y27 (J' 4 [y27]) (W' [v' (Q' y21 (ki 5))] (J' 4 [y28]))) (.join 4 1 (.ite y28 (W' [v' (l' y2 y3),v' (.nn y29),v' (p' 12 y30),v' (l' y2 y31),v' (p' 2 y4),v' (l' y2 y33),v' (.eaddr 3 y32 y34),v' (p' 0 y4),v' (l' y2 y36),v' (Q' y37 (ki 4)),v' (p' 1 y4),v' (l' y2 y39),w' 271 y2 [y35,y38,y40,kb true] [],.wcallv [] y19 (t' y41) [] []] (J' 4 [t' y42])) (W' [v' (Q' y21 (ki 8))] (.join 5 1 (.ite y29 (W' [v' (.nn y18),v' (p' 0 y30),v' (l' y2 y31)] (.join 6 1 (.ite y32 (W' [v' (.nn y18),v' (p' 2 y33),v' (l' y2 y34),v' (p' 2 y4),v' (l' y2 y36),v' (.mm true y35 y37),v' (.nn y18),v' (p' 2 y39),v' (.sto 1 y2 y40 y38)] (J' 6 [y41])) (J' 6 [y2])) (W' [.wcallv [] y19 y33 [] []] (J' 5 [t' y34])))) (W' [v' (Q' y21 (ki 9))] (.join 6 1 (.ite y30 (W' [v' (.nn y18),v' (p' 3 y31),v' (l' y2 y32),f' y33 (.nn y18),f' y33 (p' 0 y34),f' y33 (l' y2 y35),v' (.ite y33 (kb true) y36),v' (.nn y18),v' (p' 3 y38),v' (.sto 1 y2 y39 y37)] (J' 6 [y40])) (W' [v' (Q' y21 (ki 10))] (.join 7 1 (.ite y31 (W' [v' (.nn y18),v' (p' 4 y32),v' (l' y2 y33),f' y34 (.nn y18),f' y34 (p' 0 y35),f' y34 (l' y2 y36),v' (.ite y34 (kb true) y37),v' (.nn y18),v' (p' 4 y39),v' (.sto 1 y2 y40 y38)] (J' 7 [y41])) (J' 7 [y2])) (J' 6 [y32])))) (J' 5 [y31])))) (J' 4 [y30])))) (J' 3 [y29]))))) (J' 2 [y27])))) (J' 1 [y26]))))) (J' 0 [y23,y22,y24])))) (R' (ki 0) y24))))))
noncomputable def e213:=e' 213 Tryz.f213 false false [1000053,1000071,1000089] [] [] [true,false] t213
theorem ok213:EntOk Tryz.prog e213:=EntOk.ofPlain Tryz.func213 (by kernel_rfl) (by kernel_rfl)

noncomputable def t216:T:=W' [v' (.mkptr (j' (z' y0) .nil)),v' (l' y2 y3),c' 110 y2 [y4] [true],v' (N' y5)] (.ite y6 (R' (ki 1) y2) (W' [v' (.mkfn 273 .tnil (.tcons y3 .tnil)),c' 272 y2 [y1,y7] [true]] (.ite y8 (R' (ki 2) y2) (W' [v' (l' y2 y3),v' (.nn y9),v' (p' 4 y10),v' (l' y2 y11),w' 275 y2 [y12] [true],v' (.lenL y1)] (.join 0 3 (.loop 1 [ki 0,t' y13] (W' [v' (X' .lss y15 y14)] (.ite y17 (.join 2 30 (W' [v' (.eaddr 7 y1 y15),v' (.ld true 7 y16 y18),v' (.aggN 7 y19),c' 276 y16 [agc 7 y20] [false],v' (.aggN 7 y21),v' (.m4 (.getok (.agg [0,0,0,0,0,0,0])) y16 (s' y13) (agc 7 y22) (ki 0)),v' (N' (t' y23)),f' y24 (q' 6 y20),f' y24 (s' y23),f' y24 (X' .lss y25 y26),v' (.ite y24 (kb true) y27)] (.join 3 1 (.ite y28 (W' [v' (.m4 (.put (.agg [0,0,0,0,0,0,0])) y16 (s' y13) (agc 7 y22) (q' 6 y20))] (J' 3 [y29])) (J' 3 [y16])) (J' 2 [s' y23,t' y23,y18,y19,agc 7 y20,y21,C' (s' y23) (t' y23),agc 7 y22,C' (s' y23) (t' y23),s' y23,t' y23,t' y23,y24,y24,y28,q' 0 y20,q' 1 y20,q' 2 y20,q' 3 y20,q' 4 y20,q' 5 y20,q' 6 y20,q' 0 y22,q' 1 y22,q' 2 y22,q' 3 y22,q' 4 y22,q' 5 y22,q' 6 y22,y29]))) (W' [v' (P' y15 (ki 1))] (J' 1 [y48,y47]))) (J' 0 [y15,y17,y16])))) (W' [v' (n' .mlen y17 (s' y13)),v' (X' .gtr y18 (ki 5000))] (.ite y19 (R' (ki 4) y17) (W' [v' (l' y17 y3),v' (.nn y20),v' (p' 4 y21),v' (.sto 1 y17 y22 (s' y13))] (R' (ki 0) y23)))))))))
noncomputable def e216:Entry:={ f:=216,kn:=.plain,cf:={ (autoCfg false ([]++WRY) PNY [] [] Tryz.f216) with nils:=true,stk:=true,maps:=[126] },own:=false,ones:=[true,true],t:=t216 }
theorem ok216:EntOk Tryz.prog e216:=EntOk.ofPlain Tryz.func216 (by kernel_rfl) (by kernel_rfl)

noncomputable def t219:T:=W' [v' (.nn y0),v' (p' 1 y3),v' (l' y2 y4),v' (l' y2 y1),v' (.eaddr 1 y6 (ki 1)),v' (l' y2 y7),v' (l' y2 y1),v' (.eaddr 1 y9 (ki 2)),v' (l' y2 y10),v' (.eaddr 1 y5 y8),v' (.sto 1 y2 y12 y11)] (R' .tnil y13)
noncomputable def e219:=e' 219 Tryz.f219 false false [] [] [] [true,true] t219
theorem ok219:EntOk Tryz.prog e219:=EntOk.ofPlain Tryz.func219 (by kernel_rfl) (by kernel_rfl)

noncomputable def t220:T:=W' [v' (.mkptr (j' (z' y2) .nil)),v' (.mkptr (.aggN 4 y3)),v' (l' y4 y5),v' (.nn y0),v' (p' 0 y8),v' (p' 10 y9),v' (p' 0 y10),v' (l' y4 y11),v' (.lenL y12),v' (X' .geq y7 y13)] (.join 0 0 (.ite y14 (.pcall 212 y4 [ki 2] [] [] [] (J' 0 [])) (J' 0 [])) (W' [v' (.mkfn 277 .tnil (C' y6 y5))] (.wpcall 217 y4 [y0,y1,y15] [] [] [] (R' .tnil (t' y16)))))
noncomputable def e220:=e' 220 Tryz.f220 false false [] [] [] [true,true,true,false] t220
theorem ok220:EntOk Tryz.prog e220:=EntOk.ofPlain Tryz.func220 (by kernel_rfl) (by kernel_rfl)

noncomputable def t221:T:=W' [v' (l' y3 y1),v' (.nn y4),v' (p' 31 y5),v' (l' y3 y6),v' (l' y3 y2),v' (.eaddr 1 y8 (ki 0)),v' (l' y3 y9),v' (l' y3 y2),v' (.eaddr 1 y11 (ki 3)),v' (l' y3 y12),w' 222 y3 [y7,y10,y0,y13] [true,true]] (.pcall 212 (t' y14) [t' (s' y14)] [] [] [] (W' [v' (l' (t' y14) y1),v' (.nn y16),v' (p' 31 y17),v' (l' (t' y14) y18),w' 112 (t' y14) [y19] [true],v' (.eaddr 7 (s' y20) (s' (s' y14))),v' (p' 5 y21),v' (l' (t' y20) y22)] (R' y23 (t' y20))))
noncomputable def e221:=e' 221 Tryz.f221 false false [] [] [] [true,true,true] t221
theorem ok221:EntOk Tryz.prog e221:=EntOk.ofPlain Tryz.func221 (by kernel_rfl) (by kernel_rfl)

noncomputable def t271:T:=W' [v' (.nn y0),v' (p' 2 y5),v' (l' y4 y6),v' (N' y7),f' y8 (.nn y0),f' y8 (p' 1 y9),f' y8 (l' y4 y10),f' y8 (X' .gtr y2 y11),v' (.ite y8 (kb true) y12),f' y13 (.nn y0),f' y13 (p' 1 y14),f' y13 (l' y4 y15),f' y13 (Q' y2 y16),f' y13 (G' y17 (.bin .eql .bool y1 y3)),f' y13 (.ite y17 y18 (kb false)),v' (.ite y13 (kb true) y19)] (.join 0 1 (.ite y20 (W' [v' (.nn y0),v' (p' 0 y21),v' (.sto 1 y4 y22 y1)] (J' 0 [y23])) (J' 0 [y4])) (W' [v' (.nn y0),v' (p' 1 y22),v' (l' y21 y23),v' (.mm true y24 y2),v' (.nn y0),v' (p' 1 y26),v' (.sto 1 y21 y27 y25),v' (.nn y0),v' (p' 2 y29),v' (.sto 1 y28 y30 (kb true))] (R' .tnil y31)))
noncomputable def e271:=e' 271 Tryz.f271 false false [] [] [] [true,true,true,true] t271
theorem ok271:EntOk Tryz.prog e271:=EntOk.ofPlain Tryz.func271 (by kernel_rfl) (by kernel_rfl)

noncomputable def t86w:T:=.nilq y0 false (.ite y2 (R' (.const (.lst [])) y1) (W' [v' (.newv 81 4 y1 (.const (.lst []))),v' (.apph 81 4 32 y3 (.fstsl y1 (.const (.lst []))) y0)] (R' (.apps y3 (.fstsl y1 (.const (.lst []))) y0) y4)))
noncomputable def e86w:=e' 86 Tryz.f86 false false [] [5,7] [] [true] t86w
theorem ok86w:EntOk Tryz.prog e86w:=EntOk.ofPlain Tryz.func86 (by kernel_rfl) (by kernel_rfl)

end Go.Am.Ra

/-
 Functions that the chapter's examples reach,as texts.
-/
namespace Go.Am.Ra
open Go.Proofs
set_option maxRecDepth 100000

noncomputable def t97:T:=.ite (kb false) (W' [v' (.conv .u32 y0),v' (.conv .u32 y1),c' 179 y2 [y3,y4] [true,true],v' (.conv .u64 (s' y5)),v' (.conv .u64 (t' y5))] (R' (C' y6 y7) y2)) (W' [c' 180 y2 [y0,y1] [true,true]] (R' (C' (s' y3) (t' y3)) y2))
noncomputable def e97:=e' 97 Tryz.f97 true false [] [] [] [true,true] t97
theorem ok97:EntOk Tryz.prog e97:=EntOk.ofPlain Tryz.func97 (by kernel_rfl) (by kernel_rfl)

noncomputable def t98:T:=W' [c' 181 y2 [y0,y1] [true]] (R' y3 y2)
noncomputable def e98:=e' 98 Tryz.f98 true false [] [] [] [true,true] t98
theorem ok98:EntOk Tryz.prog e98:=EntOk.ofPlain Tryz.func98 (by kernel_rfl) (by kernel_rfl)

noncomputable def t180:T:=W' [v' (X' .and y0 (k' 4294967295)),v' (X' .shr y0 (k' 32)),v' (X' .and y1 (k' 4294967295)),v' (X' .shr y1 (k' 32)),v' (X' .mul y3 y5),v' (X' .mul y4 y5),v' (X' .shr y7 (k' 32)),v' (P' y8 y9),v' (X' .and y10 (k' 4294967295)),v' (X' .shr y10 (k' 32)),v' (X' .mul y3 y6),v' (P' y11 y13),v' (X' .mul y4 y6),v' (P' y15 y12),v' (X' .shr y14 (k' 32)),v' (P' y16 y17),v' (X' .mul y0 y1)] (R' (C' y18 y19) y2)
noncomputable def e180:=e' 180 Tryz.f180 true false [] [] [] [true,true] t180
theorem ok180:EntOk Tryz.prog e180:=EntOk.ofPlain Tryz.func180 (by kernel_rfl) (by kernel_rfl)

noncomputable def t181:T:=W' [v' (.lenS y0),v' (.lenS y1),v' (X' .geq y3 y4),g' y5 (.lenS y1),g' y5 (o' .ssub y0 (ki 0) y6),g' y5 (.bin .eql .str y7 y1),v' (.ite y5 y8 (kb false))] (R' y9 y2)
noncomputable def e181:=e' 181 Tryz.f181 true false [] [] [] [true,true] t181
theorem ok181:EntOk Tryz.prog e181:=EntOk.ofPlain Tryz.func181 (by kernel_rfl) (by kernel_rfl)

end Go.Am.Ra

/-
  Facts of the library's functions.
-/
namespace Go.Am.Ra
open Go.Proofs
set_option maxRecDepth 100000
def fQ0 : Fact := ⟨40, [.v (.string ⟨#[48]⟩), i 0], .v (.string ⟨#[]⟩)⟩
noncomputable def fQ0_t : Tab := [e40]
theorem fQ0_o : ∀ e, e ∈ fQ0_t → EntOk Tryz.prog e := by
  intro e he
  simp only [fQ0_t, List.mem_cons, List.not_mem_nil, or_false] at he
  rcases he with rfl
  · exact ok40
theorem fQ0_k : (fQ0 : Fact).ok Tryz.prog b0 := fact_of (l := []) trivial (factOrc_ok (b0 := b0) (l := []) trivial) fQ0 200 40 (by kernel_rfl) b0_ok (by kernel_rfl) fQ0_o (by kernel_rfl)

def fQ1 : Fact := ⟨40, [.v (.string ⟨#[48]⟩), i 1], .v (.string ⟨#[48]⟩)⟩
noncomputable def fQ1_t : Tab := [e40]
theorem fQ1_o : ∀ e, e ∈ fQ1_t → EntOk Tryz.prog e := by
  intro e he
  simp only [fQ1_t, List.mem_cons, List.not_mem_nil, or_false] at he
  rcases he with rfl
  · exact ok40
theorem fQ1_k : (fQ1 : Fact).ok Tryz.prog b0 := fact_of (l := []) trivial (factOrc_ok (b0 := b0) (l := []) trivial) fQ1 200 40 (by kernel_rfl) b0_ok (by kernel_rfl) fQ1_o (by kernel_rfl)

def fQ2 : Fact := ⟨40, [.v (.string ⟨#[48]⟩), i 2], .v (.string ⟨#[48, 48]⟩)⟩
noncomputable def fQ2_t : Tab := [e40, e97, e98, e180, e181]
theorem fQ2_o : ∀ e, e ∈ fQ2_t → EntOk Tryz.prog e := by
  intro e he
  simp only [fQ2_t, List.mem_cons, List.not_mem_nil, or_false] at he
  rcases he with rfl | rfl | rfl | rfl | rfl
  · exact ok40
  · exact ok97
  · exact ok98
  · exact ok180
  · exact ok181
theorem fQ2_k : (fQ2 : Fact).ok Tryz.prog b0 := fact_of (l := []) trivial (factOrc_ok (b0 := b0) (l := []) trivial) fQ2 200 40 (by kernel_rfl) b0_ok (by kernel_rfl) fQ2_o (by kernel_rfl)

def fQ3 : Fact := ⟨40, [.v (.string ⟨#[48]⟩), i 3], .v (.string ⟨#[48, 48, 48]⟩)⟩
noncomputable def fQ3_t : Tab := [e40, e97, e98, e180, e181]
theorem fQ3_o : ∀ e, e ∈ fQ3_t → EntOk Tryz.prog e := by
  intro e he
  simp only [fQ3_t, List.mem_cons, List.not_mem_nil, or_false] at he
  rcases he with rfl | rfl | rfl | rfl | rfl
  · exact ok40
  · exact ok97
  · exact ok98
  · exact ok180
  · exact ok181
theorem fQ3_k : (fQ3 : Fact).ok Tryz.prog b0 := fact_of (l := []) trivial (factOrc_ok (b0 := b0) (l := []) trivial) fQ3 200 40 (by kernel_rfl) b0_ok (by kernel_rfl) fQ3_o (by kernel_rfl)

def fQ4 : Fact := ⟨40, [.v (.string ⟨#[48]⟩), i 4], .v (.string ⟨#[48, 48, 48, 48]⟩)⟩
noncomputable def fQ4_t : Tab := [e40, e97, e98, e180, e181]
theorem fQ4_o : ∀ e, e ∈ fQ4_t → EntOk Tryz.prog e := by
  intro e he
  simp only [fQ4_t, List.mem_cons, List.not_mem_nil, or_false] at he
  rcases he with rfl | rfl | rfl | rfl | rfl
  · exact ok40
  · exact ok97
  · exact ok98
  · exact ok180
  · exact ok181
theorem fQ4_k : (fQ4 : Fact).ok Tryz.prog b0 := fact_of (l := []) trivial (factOrc_ok (b0 := b0) (l := []) trivial) fQ4 200 40 (by kernel_rfl) b0_ok (by kernel_rfl) fQ4_o (by kernel_rfl)

def fQ5 : Fact := ⟨40, [.v (.string ⟨#[48]⟩), i 5], .v (.string ⟨#[48, 48, 48, 48, 48]⟩)⟩
noncomputable def fQ5_t : Tab := [e40, e97, e98, e180, e181]
theorem fQ5_o : ∀ e, e ∈ fQ5_t → EntOk Tryz.prog e := by
  intro e he
  simp only [fQ5_t, List.mem_cons, List.not_mem_nil, or_false] at he
  rcases he with rfl | rfl | rfl | rfl | rfl
  · exact ok40
  · exact ok97
  · exact ok98
  · exact ok180
  · exact ok181
theorem fQ5_k : (fQ5 : Fact).ok Tryz.prog b0 := fact_of (l := []) trivial (factOrc_ok (b0 := b0) (l := []) trivial) fQ5 200 40 (by kernel_rfl) b0_ok (by kernel_rfl) fQ5_o (by kernel_rfl)

def fQ6 : Fact := ⟨40, [.v (.string ⟨#[48]⟩), i 6], .v (.string ⟨#[48, 48, 48, 48, 48, 48]⟩)⟩
noncomputable def fQ6_t : Tab := [e40, e97, e98, e180, e181]
theorem fQ6_o : ∀ e, e ∈ fQ6_t → EntOk Tryz.prog e := by
  intro e he
  simp only [fQ6_t, List.mem_cons, List.not_mem_nil, or_false] at he
  rcases he with rfl | rfl | rfl | rfl | rfl
  · exact ok40
  · exact ok97
  · exact ok98
  · exact ok180
  · exact ok181
theorem fQ6_k : (fQ6 : Fact).ok Tryz.prog b0 := fact_of (l := []) trivial (factOrc_ok (b0 := b0) (l := []) trivial) fQ6 200 40 (by kernel_rfl) b0_ok (by kernel_rfl) fQ6_o (by kernel_rfl)

def fQ7 : Fact := ⟨40, [.v (.string ⟨#[48]⟩), i 7], .v (.string ⟨#[48, 48, 48, 48, 48, 48, 48]⟩)⟩
noncomputable def fQ7_t : Tab := [e40, e97, e98, e180, e181]
theorem fQ7_o : ∀ e, e ∈ fQ7_t → EntOk Tryz.prog e := by
  intro e he
  simp only [fQ7_t, List.mem_cons, List.not_mem_nil, or_false] at he
  rcases he with rfl | rfl | rfl | rfl | rfl
  · exact ok40
  · exact ok97
  · exact ok98
  · exact ok180
  · exact ok181
theorem fQ7_k : (fQ7 : Fact).ok Tryz.prog b0 := fact_of (l := []) trivial (factOrc_ok (b0 := b0) (l := []) trivial) fQ7 200 40 (by kernel_rfl) b0_ok (by kernel_rfl) fQ7_o (by kernel_rfl)

def fQ8 : Fact := ⟨40, [.v (.string ⟨#[48]⟩), i 8], .v (.string ⟨#[48, 48, 48, 48, 48, 48, 48, 48]⟩)⟩
noncomputable def fQ8_t : Tab := [e40, e97, e98, e180, e181]
theorem fQ8_o : ∀ e, e ∈ fQ8_t → EntOk Tryz.prog e := by
  intro e he
  simp only [fQ8_t, List.mem_cons, List.not_mem_nil, or_false] at he
  rcases he with rfl | rfl | rfl | rfl | rfl
  · exact ok40
  · exact ok97
  · exact ok98
  · exact ok180
  · exact ok181
theorem fQ8_k : (fQ8 : Fact).ok Tryz.prog b0 := fact_of (l := []) trivial (factOrc_ok (b0 := b0) (l := []) trivial) fQ8 200 40 (by kernel_rfl) b0_ok (by kernel_rfl) fQ8_o (by kernel_rfl)

def fQ9 : Fact := ⟨40, [.v (.string ⟨#[48]⟩), i 9], .v (.string ⟨#[48, 48, 48, 48, 48, 48, 48, 48, 48]⟩)⟩
noncomputable def fQ9_t : Tab := [e40, e97, e98, e180, e181]
theorem fQ9_o : ∀ e, e ∈ fQ9_t → EntOk Tryz.prog e := by
  intro e he
  simp only [fQ9_t, List.mem_cons, List.not_mem_nil, or_false] at he
  rcases he with rfl | rfl | rfl | rfl | rfl
  · exact ok40
  · exact ok97
  · exact ok98
  · exact ok180
  · exact ok181
theorem fQ9_k : (fQ9 : Fact).ok Tryz.prog b0 := fact_of (l := []) trivial (factOrc_ok (b0 := b0) (l := []) trivial) fQ9 200 40 (by kernel_rfl) b0_ok (by kernel_rfl) fQ9_o (by kernel_rfl)

def fQ10 : Fact := ⟨40, [.v (.string ⟨#[48]⟩), i 10], .v (.string ⟨#[48, 48, 48, 48, 48, 48, 48, 48, 48, 48]⟩)⟩
noncomputable def fQ10_t : Tab := [e40, e97, e98, e180, e181]
theorem fQ10_o : ∀ e, e ∈ fQ10_t → EntOk Tryz.prog e := by
  intro e he
  simp only [fQ10_t, List.mem_cons, List.not_mem_nil, or_false] at he
  rcases he with rfl | rfl | rfl | rfl | rfl
  · exact ok40
  · exact ok97
  · exact ok98
  · exact ok180
  · exact ok181
theorem fQ10_k : (fQ10 : Fact).ok Tryz.prog b0 := fact_of (l := []) trivial (factOrc_ok (b0 := b0) (l := []) trivial) fQ10 200 40 (by kernel_rfl) b0_ok (by kernel_rfl) fQ10_o (by kernel_rfl)

def fQ11 : Fact := ⟨40, [.v (.string ⟨#[48]⟩), i 11], .v (.string ⟨#[48, 48, 48, 48, 48, 48, 48, 48, 48, 48, 48]⟩)⟩
noncomputable def fQ11_t : Tab := [e40, e97, e98, e180, e181]
theorem fQ11_o : ∀ e, e ∈ fQ11_t → EntOk Tryz.prog e := by
  intro e he
  simp only [fQ11_t, List.mem_cons, List.not_mem_nil, or_false] at he
  rcases he with rfl | rfl | rfl | rfl | rfl
  · exact ok40
  · exact ok97
  · exact ok98
  · exact ok180
  · exact ok181
theorem fQ11_k : (fQ11 : Fact).ok Tryz.prog b0 := fact_of (l := []) trivial (factOrc_ok (b0 := b0) (l := []) trivial) fQ11 200 40 (by kernel_rfl) b0_ok (by kernel_rfl) fQ11_o (by kernel_rfl)

def fQ12 : Fact := ⟨40, [.v (.string ⟨#[48]⟩), i 12], .v (.string ⟨#[48, 48, 48, 48, 48, 48, 48, 48, 48, 48, 48, 48]⟩)⟩
noncomputable def fQ12_t : Tab := [e40, e97, e98, e180, e181]
theorem fQ12_o : ∀ e, e ∈ fQ12_t → EntOk Tryz.prog e := by
  intro e he
  simp only [fQ12_t, List.mem_cons, List.not_mem_nil, or_false] at he
  rcases he with rfl | rfl | rfl | rfl | rfl
  · exact ok40
  · exact ok97
  · exact ok98
  · exact ok180
  · exact ok181
theorem fQ12_k : (fQ12 : Fact).ok Tryz.prog b0 := fact_of (l := []) trivial (factOrc_ok (b0 := b0) (l := []) trivial) fQ12 200 40 (by kernel_rfl) b0_ok (by kernel_rfl) fQ12_o (by kernel_rfl)

def fQ13 : Fact := ⟨40, [.v (.string ⟨#[48]⟩), i 13], .v (.string ⟨#[48, 48, 48, 48, 48, 48, 48, 48, 48, 48, 48, 48, 48]⟩)⟩
noncomputable def fQ13_t : Tab := [e40, e97, e98, e180, e181]
theorem fQ13_o : ∀ e, e ∈ fQ13_t → EntOk Tryz.prog e := by
  intro e he
  simp only [fQ13_t, List.mem_cons, List.not_mem_nil, or_false] at he
  rcases he with rfl | rfl | rfl | rfl | rfl
  · exact ok40
  · exact ok97
  · exact ok98
  · exact ok180
  · exact ok181
theorem fQ13_k : (fQ13 : Fact).ok Tryz.prog b0 := fact_of (l := []) trivial (factOrc_ok (b0 := b0) (l := []) trivial) fQ13 200 40 (by kernel_rfl) b0_ok (by kernel_rfl) fQ13_o (by kernel_rfl)

def fQ14 : Fact := ⟨40, [.v (.string ⟨#[48]⟩), i 14], .v (.string ⟨#[48, 48, 48, 48, 48, 48, 48, 48, 48, 48, 48, 48, 48, 48]⟩)⟩
noncomputable def fQ14_t : Tab := [e40, e97, e98, e180, e181]
theorem fQ14_o : ∀ e, e ∈ fQ14_t → EntOk Tryz.prog e := by
  intro e he
  simp only [fQ14_t, List.mem_cons, List.not_mem_nil, or_false] at he
  rcases he with rfl | rfl | rfl | rfl | rfl
  · exact ok40
  · exact ok97
  · exact ok98
  · exact ok180
  · exact ok181
theorem fQ14_k : (fQ14 : Fact).ok Tryz.prog b0 := fact_of (l := []) trivial (factOrc_ok (b0 := b0) (l := []) trivial) fQ14 200 40 (by kernel_rfl) b0_ok (by kernel_rfl) fQ14_o (by kernel_rfl)

def fQ15 : Fact := ⟨40, [.v (.string ⟨#[48]⟩), i 15], .v (.string ⟨#[48, 48, 48, 48, 48, 48, 48, 48, 48, 48, 48, 48, 48, 48, 48]⟩)⟩
noncomputable def fQ15_t : Tab := [e40, e97, e98, e180, e181]
theorem fQ15_o : ∀ e, e ∈ fQ15_t → EntOk Tryz.prog e := by
  intro e he
  simp only [fQ15_t, List.mem_cons, List.not_mem_nil, or_false] at he
  rcases he with rfl | rfl | rfl | rfl | rfl
  · exact ok40
  · exact ok97
  · exact ok98
  · exact ok180
  · exact ok181
theorem fQ15_k : (fQ15 : Fact).ok Tryz.prog b0 := fact_of (l := []) trivial (factOrc_ok (b0 := b0) (l := []) trivial) fQ15 200 40 (by kernel_rfl) b0_ok (by kernel_rfl) fQ15_o (by kernel_rfl)

def fP16 : Fact := ⟨243, [i 16], b true⟩
noncomputable def fP16_t : Tab := [e243]
theorem fP16_o : ∀ e, e ∈ fP16_t → EntOk Tryz.prog e := by
  intro e he
  simp only [fP16_t, List.mem_cons, List.not_mem_nil, or_false] at he
  rcases he with rfl
  · exact ok243
theorem fP16_k : (fP16 : Fact).ok Tryz.prog b0 := fact_of (l := []) trivial (factOrc_ok (b0 := b0) (l := []) trivial) fP16 200 40 (by kernel_rfl) b0_ok (by kernel_rfl) fP16_o (by kernel_rfl)

def fZ16 : Fact := ⟨244, [.v (.int .u64 16)], i 4⟩
noncomputable def fZ16_t : Tab := [e244, e286]
theorem fZ16_o : ∀ e, e ∈ fZ16_t → EntOk Tryz.prog e := by
  intro e he
  simp only [fZ16_t, List.mem_cons, List.not_mem_nil, or_false] at he
  rcases he with rfl | rfl
  · exact ok244
  · exact ok286
theorem fZ16_k : (fZ16 : Fact).ok Tryz.prog b0 := fact_of (l := []) trivial (factOrc_ok (b0 := b0) (l := []) trivial) fZ16 200 40 (by kernel_rfl) b0_ok (by kernel_rfl) fZ16_o (by kernel_rfl)

end Go.Am.Ra

/-
 A number in digits: strconv's part.
-/
namespace Go.Am.Ra
open Go.Proofs
set_option maxRecDepth 100000
set_option maxHeartbeats 4000000

abbrev by8 (c:UInt8):D:=.v (.int .u8 (c.toNat:Int))

def ar (n k:Nat):List D:=List.replicate (65-k) (.v (.int .u8 0))++(dg k n).map by8
def sK (n k:Nat):List D:=b0++[.blk 344 65 (ar n k)]

theorem ar_len {n k:Nat}(h:k≤65):(ar n k).length=65:=by simp[ar,dg_length];omega

theorem ar_set {n k:Nat}(h:k<65):(ar n k).set (64-k) (by8 (dig (qk n k % 16)))=ar n (k+1):=by
 unfold ar
 rw[show 65-k=(64-k)+1 from by omega,List.replicate_succ',List.append_assoc,List.set_append_right _ _ (by simp),List.length_replicate,Nat.sub_self,List.singleton_append,List.set_cons_zero,dg_step,List.map_cons,show 65-(k+1)=64-k from by omega]

theorem sK_blk (n k:Nat):(sK n k)[b0.length]? = some (.blk 344 65 (ar n k)):=by simp[sK]

theorem sto_at {n k:Nat}(h:k<65):Am.D.sto 1 (.st (sK n k)) (.loc b0.length (64-k)) (by8 (dig (qk n k % 16)))=some (.st (sK n (k+1))):=by
 rw[sto_blk (sK_blk n k) (by rw[ar_len (by omega)];omega) rfl,ar_set h]
 simp[sK]

theorem and_at (x:Nat):Am.D.bin .and .int (U x) (U 15)=some (U ((x % 16:Nat):Int)):=by
 have h1:Am.D.bin .and .int (U x) (U 15)=some (U (IntKind.u64.wrap (BitVec.ofInt 64 (x:Int) &&& BitVec.ofInt 64 15).toNat)):=rfl
 have h2:(BitVec.ofInt 64 (x:Int) &&& BitVec.ofInt 64 15).toNat=x % 16:=by
  rw[BitVec.toNat_and]
  have e1:(BitVec.ofInt 64 (x:Int)).toNat=x % 2 ^ 64:=by simp[BitVec.toNat_ofInt]
  have e2:(BitVec.ofInt 64 (15:Int)).toNat=2 ^ 4-1:=rfl
  rw[e1,e2,Nat.and_two_pow_sub_one_eq_mod]
  omega
 rw[h1,h2,IntKind.wrap_u64]
 congr 3
 omega

theorem shr_at (x:Nat):Am.D.bin .shr .int (U x) (U 4)=some (U ((x / 16:Nat):Int)):=by
 have h1:Am.D.bin .shr .int (U x) (U 4)=some (U ((x:Int).fdiv 16)):=rfl
 rw[h1,Int.fdiv_eq_ediv_of_nonneg _ (by omega)]
 rfl

theorem hx_dig {d:Nat}(hd:d<16):Am.D.m4 .sidx (.v (.string ⟨#[48,49,50,51,52,53,54,55,56,57,97,98,99,100,101,102,103,104,105,106,107,108,109,110,111,112,113,114,115,116,117,118,119,120,121,122]⟩)) (U d) (.agg []) (.agg [])=some (by8 (dig d)):=by
 have h:d=0∨d=1∨d=2∨d=3∨d=4∨d=5∨d=6∨d=7∨d=8∨d=9∨d=10∨d=11∨d=12∨d=13∨d=14∨d=15:=by omega
 rcases h with rfl | rfl | rfl | rfl | rfl | rfl | rfl | rfl | rfl | rfl | rfl | rfl | rfl | rfl | rfl | rfl <;> (show _=some _;kernel_rfl)

theorem el_at {m:Nat}(h:m<65):Am.D.m4 (.elemA 65 1) (.loc b0.length 0) (I m) (.agg []) (.agg [])=some (.loc b0.length m):=by
 have:((0:Int)≤(m:Int)∧(m:Int)<65):=by omega
 simp[Am.D.m4,Am.D.elemA,this,Am.D.padd]

theorem sub_at {m:Nat}(h:m<1000):Am.D.bin .sub .int (I ((m+1:Nat):Int)) (I 1)=some (I (m:Int)):=by
 have h1:Am.D.bin .sub .int (I ((m+1:Nat):Int)) (I 1)=some (I (IntKind.i64.wrap (((m+1:Nat):Int)-1))):=rfl
 rw[h1,IntKind.wrap_i64]
 congr 3
 omega

theorem bytes_by8:∀l:List UInt8,bytesOf (l.map by8)=some (l.map fun c=>(c.toNat:Int))
 | []=>rfl
 | c :: l=>by
  have h:bytesOf ((c :: l).map by8)=(bytesOf (l.map by8)).map fun ns=>(c.toNat:Int) :: ns:=rfl
  rw[h,bytes_by8 l]
  rfl

theorem str_by8 (l:List UInt8):strOfNums (l.map fun c=>(c.toNat:Int))=⟨l.toArray⟩:=by
 simp[strOfNums,Function.comp_def]

theorem asl_at {m:Nat}(h:m<65)(h0:0<m):Am.D.m4 (.asl 65 1) (.loc b0.length 0) (I m) (.agg []) (.agg [])=some (.sl b0.length m (65-m)):=by
 have:((0:Int)≤(m:Int)∧(m:Int)<(65:Nat)∧0<0+(m:Int).toNat*1):=by omega
 simp only[Am.D.m4,Am.D.asl,if_pos this]
 congr 2 <;> omega

theorem bst_at {n k:Nat}(h:k<65)(h0:0<k):Am.D.m4 .bstrh (.st (sK n k)) (.sl b0.length (65-k) k) (.agg []) (.agg [])=some (St ⟨(dg k n).toArray⟩):=by
 have hc:Am.D.cellsAt (.st (sK n k)) b0.length=some (344,65,ar n k):=by simp only[Am.D.cellsAt,sK_blk]
 have hd:((ar n k).drop (65-k)).take k=(dg k n).map by8:=by
  unfold ar
  rw[List.drop_append_of_le_length (by simp),List.drop_replicate,Nat.sub_self,List.replicate_zero,List.nil_append,List.take_of_length_le (by simp[dg_length])]
 have hl:65-k+k≤(ar n k).length∧0<k:=by rw[ar_len (by omega)];omega
 simp only[Am.D.m4,Am.D.bstrh,hc,Option.bind_some,if_pos hl,hd,bytes_by8,Option.map_some,str_by8]

theorem c178 {n:Nat}(hn:n<18446744073709551616):FSpecW Tryz.prog 178 (.st b0) [.lst [],U n,I 16,Bo false,Bo false] (.tup [.lst [],St ⟨(hexs n).toArray⟩]) (.st (sK n (jn n+1))):=by
 have hj:jn n≤15:=jn_le (k:=15) (by omega)
 have hlast:qk n (jn n)<16:=by rw[qk_eq];exact jn_lt n n (Nat.le_refl _)
 refine ku178.W rfl ?_
 unfold u178
 simp only[ups_cons,ups_nil,List.cons_append,List.nil_append]
 repeat' (first|(apply nrm;simp only[sbe];rfl)|(apply u_ev;rfl;simp only[sbe];rfl)|(apply u_call;rfl;rfl;(·first|exact fP16_k _|exact fZ16_k _);rfl;simp only[sbe];rfl)|(apply u_or;rfl)|refine u_join ?_|(apply u_jump;rfl;rfl)|refine at_jump ?_|refine kj rfl ?_|(apply u_ite;rfl;all_goals (intro hz;(try simp only[sbs] at hz);first|(exact absurd hz (by decide))|(exfalso;omega)|skip))|exact u_ret rfl rfl|(intro hz;(try simp only[sbs] at hz)))
 refine u_range (fun k=>[U (qk n k),I ((65-k:Nat):Int),.st (sK n k)]) (fun _=>True) (jn n) rfl (fun _=>rfl) trivial (fun k hk _ R hR=>?_) (fun _ R=>?_)
 ·have hge:decide ((qk n k:Int)≥16)=true:=by
   have:=jn_ge n n (Nat.le_refl _) k hk
   rw[←qk_eq] at this
   simp
   omega
  have hd:qk n k % 16<16:=Nat.mod_lt _ (by omega)
  have hs:Am.D.bin .sub .int (I ((65-k:Nat):Int)) (I 1)=some (I ((64-k:Nat):Int)):=by
   have:=sub_at (m:=64-k) (by omega)
   rwa [show 64-k+1=65-k from by omega] at this
  have he:=el_at (m:=64-k) (by omega)
  have ht:=sto_at (n:=n) (k:=k) (by omega)
  repeat' (first|(apply nrm;simp only[sbe];rfl)|(apply u_iteT;rfl;exact hge)|(apply u_sto;rfl;rfl;rfl;exact ht;simp only[sbe];rfl)|(apply u_bin;rfl;rfl;(·first|exact hs|exact and_at _|exact shr_at _);simp only[sbe];rfl)|(apply u_m4;rfl;rfl;rfl;rfl;(·first|exact hx_dig hd|exact he);simp only[sbe];rfl)|(apply u_ev;rfl;simp only[sbe];rfl)|refine u_join ?_|(apply u_jump;rfl;rfl)|refine at_jump ?_|refine kj rfl ?_)
  have h5:=hR trivial
  simp only[show 65-(k+1)=64-k from by omega] at h5
  exact h5
 ·have hlt:decide ((qk n (jn n):Int)≥16)=false:=by simp;omega
  have hs:Am.D.bin .sub .int (I ((65-jn n:Nat):Int)) (I 1)=some (I ((64-jn n:Nat):Int)):=by
   have:=sub_at (m:=64-jn n) (by omega)
   rwa [show 64-jn n+1=65-jn n from by omega] at this
  have he:=el_at (m:=64-jn n) (by omega)
  have ht:=sto_at (n:=n) (k:=jn n) (by omega)
  rw[Nat.mod_eq_of_lt hlast] at ht
  have ha:=asl_at (m:=64-jn n) (by omega) (by omega)
  rw[show 65-(64-jn n)=jn n+1 from by omega] at ha
  have hb:=bst_at (n:=n) (k:=jn n+1) (by omega) (by omega)
  rw[show 65-(jn n+1)=64-jn n from by omega] at hb
  repeat' (first|(apply nrm;simp only[sbe];rfl)|(apply u_iteF;rfl;(·first|exact hlt|exact rfl))|(apply u_sto;rfl;rfl;rfl;exact ht;simp only[sbe];rfl)|(apply u_bin;rfl;rfl;exact hs;simp only[sbe];rfl)|(apply u_m4;rfl;rfl;rfl;rfl;(·first|exact hx_dig hlast|exact he|exact ha|exact hb);simp only[sbe];rfl)|(apply u_ev;rfl;simp only[sbe];rfl)|refine u_join ?_|(apply u_jump;rfl;rfl)|refine at_jump ?_|(refine over_jump (by decide) ?_)|refine kj rfl ?_|exact u_ret rfl rfl)

end Go.Am.Ra

/-
 Chains in digits: the program's.
-/
namespace Go.Am.Ra
open Go.Proofs
set_option maxRecDepth 100000
set_option maxHeartbeats 4000000

variable {bs:List D}

theorem r178 {n:Nat}(hn:n<18446744073709551616):FSpecR Tryz.prog 178 (.st (b0++bs)) [.lst [],U n,I 16,Bo false,Bo false] (.tup [.lst [],St ⟨(hexs n).toArray⟩]):=
 FSpecWO.meltA (n:=9) b0_ok (c178 hn) rfl rfl bs

theorem c96 {n:Nat}(hn:n<18446744073709551616):FSpecR Tryz.prog 96 (.st (b0++bs)) [U n,I 16] (St ⟨(hexs n).toArray⟩):=by
 refine ku96.R rfl rfl ?_
 unfold u96
 simp only[ups_cons,ups_nil,List.cons_append,List.nil_append]
 repeat' (first|(apply u_ev;rfl;simp only[sbe];rfl)|(apply u_call;rfl;rfl;exact r178 hn;rfl;simp only[sbe];rfl)|(apply u_ite;rfl;all_goals (intro hz;(try simp only[sbs] at hz);first|(exact absurd hz (by decide))|(exfalso;omega)|skip))|exact u_ret rfl rfl)

theorem c39 {n:Nat}(hn:n<18446744073709551616):FSpecR Tryz.prog 39 (.st (b0++bs)) [U n,I 16] (St ⟨(hexs n).toArray⟩):=by
 refine ku39.R rfl rfl ?_
 unfold u39
 simp only[ups_cons,ups_nil,List.cons_append,List.nil_append]
 repeat' (first|(apply u_call;rfl;rfl;exact c96 hn;rfl;simp only[sbe];rfl)|exact u_ret rfl rfl)

theorem c40 {k:Nat}(hk:k<16):FSpecR Tryz.prog 40 (.st (b0++bs)) [.v (.string ⟨#[48]⟩),I k] (St ⟨(List.replicate k 48).toArray⟩):=by
 have h:k=0∨k=1∨k=2∨k=3∨k=4∨k=5∨k=6∨k=7∨k=8∨k=9∨k=10∨k=11∨k=12∨k=13∨k=14∨k=15:=by omega
 rcases h with rfl | rfl | rfl | rfl | rfl | rfl | rfl | rfl | rfl | rfl | rfl | rfl | rfl | rfl | rfl | rfl
 ·exact fQ0_k bs
 ·exact fQ1_k bs
 ·exact fQ2_k bs
 ·exact fQ3_k bs
 ·exact fQ4_k bs
 ·exact fQ5_k bs
 ·exact fQ6_k bs
 ·exact fQ7_k bs
 ·exact fQ8_k bs
 ·exact fQ9_k bs
 ·exact fQ10_k bs
 ·exact fQ11_k bs
 ·exact fQ12_k bs
 ·exact fQ13_k bs
 ·exact fQ14_k bs
 ·exact fQ15_k bs

theorem hexs_len (n:Nat):(hexs n).length=jn n+1:=dg_length _ _

theorem c22 {n:Nat}(hn:n<18446744073709551616):FSpecR Tryz.prog 22 (.st (b0++bs)) [U n] (St (txt n)):=by
 have hj:jn n≤15:=jn_le (k:=15) (by omega)
 have hz:(⟨(hexs n).toArray⟩:ByteArray).size=jn n+1:=by simp[ByteArray.size,hexs_len]
 have hs:Am.D.bin .sub .int (I 16) (I (((⟨(hexs n).toArray⟩:ByteArray).size:Nat):Int))=some (I ((15-jn n:Nat):Int)):=by
  rw[hz]
  have h1:Am.D.bin .sub .int (I 16) (I ((jn n+1:Nat):Int))=some (I (IntKind.i64.wrap (16-((jn n+1:Nat):Int)))):=rfl
  rw[h1,IntKind.wrap_i64]
  congr 3
  omega
 have hc:Am.D.bin .add .str (St ⟨(List.replicate (15-jn n) 48).toArray⟩) (St ⟨(hexs n).toArray⟩)=some (St (txt n)):=by
  have h1:¬((((⟨(List.replicate (15-jn n) (48:UInt8)).toArray⟩:ByteArray).size+(⟨(hexs n).toArray⟩:ByteArray).size:Nat):Int) > IntKind.i64.max):=by
   have e1:(⟨(List.replicate (15-jn n) (48:UInt8)).toArray⟩:ByteArray).size=15-jn n:=by simp[ByteArray.size]
   rw[e1,hz]
   have:IntKind.i64.max=9223372036854775807:=rfl
   omega
  simp only[Am.D.bin,if_neg h1]
  rw[ba_app,txt,←hexs_pad (n:=n) (by omega),hexs_len,show 16-(jn n+1)=15-jn n from by omega]
 refine ku22.R rfl rfl ?_
 unfold u22
 simp only[ups_cons,ups_nil,List.cons_append,List.nil_append]
 repeat' (first|(apply u_bin;rfl;rfl;(·first|exact hs|exact hc);simp only[sbe];rfl)|(apply u_ev;rfl;simp only[sbe];rfl)|(apply u_call;rfl;rfl;(·first|exact c39 hn|exact c40 (k:=15-jn n) (by omega));rfl;simp only[sbe];rfl)|exact u_ret rfl rfl)

theorem c8 {l:List ByteArray}(hL:l.length≤1000)(hS:∀s,s∈l→s.size≤maxLen):FSpecR Tryz.prog 8 (.st (b0++bs)) [Ss l] (Ss (outs l l.length)):=by
 refine ku8.R rfl rfl ?_
 unfold u8
 simp only[ups_cons,ups_nil,List.cons_append,List.nil_append]
 repeat' (first|(apply u_lenL;rfl;exact lenL_map;simp only[sbe];rfl)|refine u_join ?_)
 refine u_range (fun i=>[U (hAt l i),Ss (outs l i),I i]) (fun _=>True) l.length rfl (fun _=>rfl) trivial (fun i hi _ R hR=>?_) (fun _ R=>?_)
 ·have hli:decide ((i:Int)<((l.map St).length:Int))=true:=by simp;omega
  have hsz:=hS l[i] (List.getElem_mem hi)
  obtain⟨n,hn,hn2⟩:=chF_nat (hAt l i) l[i]
  have h21:=c21 (bs:=b0++bs) (h:=hAt l i) hsz
  rw[hn] at h21
  have ha:Am.D.app 1 16 (Ss (outs l i)) (.lst [St (txt n)])=some (Ss (outs l i++[txt n])):=app_lst (enc:=St) (ys:=[txt n]) (by rw[outs_len];simp;omega) (by rw[outs_len];unfold maxLen;simp;omega) (fun _=>rfl)
  repeat' (first|(apply nrm;simp only[sbe];rfl)|(apply u_eaddr;rfl;rfl;exact eaddr_get hi rfl;simp only[sbe];rfl)|(apply u_app;rfl;rfl;exact ha;simp only[sbe];rfl)|(apply u_inc;rfl;omega;simp only[sbe];rfl)|(apply u_ev;rfl;simp only[sbe];rfl)|(apply u_call;rfl;rfl;(·first|exact h21|exact c22 hn2);rfl;simp only[sbe];rfl)|refine u_join ?_|(apply u_jump;rfl;rfl)|refine at_jump ?_|refine kj rfl ?_|(apply u_ite;rfl;all_goals (intro hz;(try simp only[sbs] at hz);first|(exact absurd hz (by decide))|(exfalso;omega)|skip)))
  have e1:hAt l (i+1)=n:=by rw[hAt_succ hi];exact hn
  have e2:outs l (i+1)=outs l i++[txt n]:=by rw[outs,e1];rfl
  have:=hR trivial
  rw[e1,e2] at this
  exact this
 ·repeat' (first|(apply nrm;simp only[sbe];rfl)|(apply u_ev;rfl;simp only[sbe];rfl)|(apply u_jump;rfl;rfl)|refine at_jump ?_|(refine over_jump (by decide) ?_)|refine kj rfl ?_|(apply u_ite;rfl;all_goals (intro hz;(try simp only[sbs] at hz);first|(exact absurd hz (by decide))|(exfalso;omega)|skip))|exact u_ret rfl rfl)

end Go.Am.Ra

/-
 Logs: their lines,the first wrong entry,where two part.
-/
namespace Go.Am.Ra
open Go.Proofs
set_option maxRecDepth 100000
set_option maxHeartbeats 4000000

variable {bs:List D}

abbrev Ent:=ByteArray×ByteArray
def Ent.d (e:Ent):D:=.agg [St e.1,St e.2]
abbrev Es (l:List Ent):D:=.lst (l.map Ent.d)

theorem take_map {a:List Ent}{i:Nat}(hi:i<a.length):(a.take (i+1)).map Prod.fst=(a.take i).map Prod.fst++[a[i].1]:=by
 rw[List.take_add_one,List.getElem?_eq_getElem hi,List.map_append]
 rfl

theorem c23 {a:List Ent}(hA:a.length≤1000):FSpecR Tryz.prog 23 (.st bs) [Es a] (Ss (a.map Prod.fst)):=by
 refine ku23.R rfl rfl ?_
 unfold u23
 simp only[ups_cons,ups_nil,List.cons_append,List.nil_append]
 repeat' (first|(apply u_lenL;rfl;exact lenL_map;simp only[sbe];rfl)|refine u_join ?_)
 refine u_range (fun i=>[Ss ((a.take i).map Prod.fst),I i]) (fun _=>True) a.length rfl (fun _=>rfl) trivial (fun i hi _ R hR=>?_) (fun _ R=>?_)
 ·have hli:decide ((i:Int)<((a.map Ent.d).length:Int))=true:=by simp;omega
  have ha:Am.D.app 1 16 (Ss ((a.take i).map Prod.fst)) (.lst [St a[i].1])=some (Ss ((a.take i).map Prod.fst++[a[i].1])):=app_lst (enc:=St) (ys:=[a[i].1]) (by simp;omega) (by unfold maxLen;simp;omega) (fun _=>rfl)
  repeat' (first|(apply nrm;simp only[sbe];rfl)|(apply u_chk;rfl)|(apply u_eaddr;rfl;rfl;exact eaddr_get hi rfl;simp only[sbe];rfl)|(apply u_app;rfl;rfl;exact ha;simp only[sbe];rfl)|(apply u_inc;rfl;omega;simp only[sbe];rfl)|(apply u_ev;rfl;simp only[sbe];rfl)|refine u_join ?_|(apply u_jump;rfl;rfl)|refine at_jump ?_|refine kj rfl ?_|(apply u_ite;rfl;all_goals (intro hz;(try simp only[sbs] at hz);first|(exact absurd hz (by decide))|(exfalso;omega)|skip)))
  have:=hR trivial
  simp only[take_map hi] at this
  exact this
 ·repeat' (first|(apply nrm;simp only[sbe];rfl)|(apply u_ev;rfl;simp only[sbe];rfl)|(apply u_jump;rfl;rfl)|refine at_jump ?_|(refine over_jump (by decide) ?_)|refine kj rfl ?_|(apply u_ite;rfl;all_goals (intro hz;(try simp only[sbs] at hz);first|(exact absurd hz (by decide))|(exfalso;omega)|skip))|(apply u_ret;rfl;first|exact rfl|(refine retB ?_)|(refine retI ?_)|(refine retD ?_)))
  rw[List.take_of_length_le (Nat.le_refl _)]

def fst1 (p:Nat→Bool):Nat→Int
 | 0=>-1
 | n+1=>if fst1 p n≥0 then fst1 p n else if p n=true then n else -1

theorem fst1_no {p:Nat→Bool}:∀{n:Nat},(∀k,k<n→p k=false)→fst1 p n=-1
 | 0,_=>rfl
 | n+1,h=>by
  rw[fst1,fst1_no (n:=n) fun k hk=>h k (by omega),h n (by omega)]
  simp

theorem fst1_at {p:Nat→Bool}{i:Nat}(hp:p i=true)(h:∀k,k<i→p k=false):∀{n:Nat},i<n→fst1 p n=i
 | 0,hn=>by omega
 | n+1,hn=>by
  rw[fst1]
  by_cases hin:i=n
  ·subst hin
   rw[fst1_no h,hp]
   simp
  ·rw[fst1_at hp h (n:=n) (by omega)]
   simp

def wrongE (a:List Ent)(i:Nat):Bool:=match a[i]?,(outs (a.map Prod.fst) a.length)[i]? with
 | some e,some c=>!(e.2.toList==c.toList)
 | _,_=>false

theorem c10 {a:List Ent}(hA:a.length≤1000)(hS:∀e,e∈a→e.1.size≤maxLen):FSpecR Tryz.prog 10 (.st (b0++bs)) [Es a] (I (fst1 (wrongE a) a.length)):=by
 have h8:FSpecR Tryz.prog 8 (.st (b0++bs)) [Ss (a.map Prod.fst)] (Ss (outs (a.map Prod.fst) a.length)):=by
  have:=c8 (bs:=bs) (l:=a.map Prod.fst) (by simpa using hA) (fun s hs=>by
   obtain⟨e,he,rfl⟩:=List.mem_map.1 hs
   exact hS e he)
  rwa [List.length_map] at this
 have ho:(outs (a.map Prod.fst) a.length).length=a.length:=outs_len _ _
 refine ku10.R rfl rfl ?_
 unfold u10
 simp only[ups_cons,ups_nil,List.cons_append,List.nil_append]
 repeat' (first|(apply u_lenL;rfl;exact lenL_map;simp only[sbe];rfl)|(apply u_call;rfl;rfl;(·first|exact c23 hA|exact h8);rfl;simp only[sbe];rfl)|refine u_join ?_)
 refine u_range (fun i=>[I i]) (fun i=>∀k,k<i→wrongE a k=false) a.length rfl (fun _=>rfl) (fun k h=>absurd h (Nat.not_lt_zero _)) (fun i hi hJ R hR=>?_) (fun hJ R=>?_)
 ·have hli:decide ((i:Int)<(((outs (a.map Prod.fst) a.length).map St).length:Int))=true:=by simp[ho];omega
  have hoi:i<(outs (a.map Prod.fst) a.length).length:=by omega
  have hw:wrongE a i=!(a[i].2.toList==((outs (a.map Prod.fst) a.length)[i]).toList):=by
   unfold wrongE
   rw[List.getElem?_eq_getElem hi,List.getElem?_eq_getElem hoi]
  cases hP:wrongE a i
  ·rw[hP] at hw
   repeat' (first|(apply nrm;simp only[sbe];rfl)|(apply u_iteF;rfl;exact hw.symm)|(apply u_chk;rfl)|(apply u_eaddr;rfl;rfl;(·first|exact eaddr_get hoi rfl|exact eaddr_get hi rfl);simp only[sbe];rfl)|(apply u_inc;rfl;omega;simp only[sbe];rfl)|(apply u_ev;rfl;simp only[sbe];rfl)|refine u_join ?_|(apply u_jump;rfl;rfl)|refine at_jump ?_|refine kj rfl ?_|(apply u_ite;rfl;all_goals (intro hz;(try simp only[sbs] at hz);first|(exact absurd hz (by decide))|(exfalso;omega)|skip)))
   refine hR fun k hk=>?_
   rcases Nat.lt_or_ge k i with h3 | h3
   ·exact hJ k h3
   ·have e:k=i:=by omega
    subst e
    exact hP
  ·rw[hP] at hw
   repeat' (first|(apply nrm;simp only[sbe];rfl)|(apply u_iteT;rfl;exact hw.symm)|(apply u_chk;rfl)|(apply u_eaddr;rfl;rfl;(·first|exact eaddr_get hoi rfl|exact eaddr_get hi rfl);simp only[sbe];rfl)|(apply u_ev;rfl;simp only[sbe];rfl)|refine u_join ?_|(apply u_ite;rfl;all_goals (intro hz;(try simp only[sbs] at hz);first|(exact absurd hz (by decide))|(exfalso;omega)|skip))|(apply u_ret;rfl;first|exact rfl|(refine retB ?_)|(refine retI ?_)|(refine retD ?_)))
   exact(fst1_at hP hJ hi).symm
 ·have hlf:decide ((a.length:Int)<(((outs (a.map Prod.fst) a.length).map St).length:Int))=false:=by simp[ho]
  repeat' (first|(apply nrm;simp only[sbe];rfl)|(apply u_ev;rfl;simp only[sbe];rfl)|(apply u_jump;rfl;rfl)|refine at_jump ?_|(refine over_jump (by decide) ?_)|refine kj rfl ?_|(apply u_ite;rfl;all_goals (intro hz;(try simp only[sbs] at hz);first|(exact absurd hz (by decide))|(exfalso;omega)|skip))|(apply u_ret;rfl;first|exact rfl|(refine retB ?_)|(refine retI ?_)|(refine retD ?_)))
  exact(fst1_no hJ).symm

end Go.Am.Ra

/-
 Where two logs part.
-/
namespace Go.Am.Ra
open Go.Proofs
set_option maxRecDepth 100000
set_option maxHeartbeats 4000000

variable {bs:List D}

def neqE (x y:Ent):Bool:=!((x.1.toList==y.1.toList)&&(x.2.toList==y.2.toList))

theorem neqE_comm (x y:Ent):neqE x y=neqE y x:=by
 unfold neqE
 rw[Bool.beq_comm (a:=x.1.toList),Bool.beq_comm (a:=x.2.toList)]

theorem neq_at (x y:Ent):Am.D.bin .neq (.agg [2,2]) (.agg [St x.1,St x.2]) (.agg [St y.1,St y.2])=some (Bo (neqE x y)):=by
 simp only[Am.D.bin,Am.D.eqs,neqE]
 cases(x.1.toList==y.1.toList) <;> cases(x.2.toList==y.2.toList) <;> rfl

def diffE (a b:List Ent)(i:Nat):Bool:=match a[i]?,b[i]? with
 | some x,some y=>neqE x y
 | _,_=>false

theorem diffE_at {a b:List Ent}{i:Nat}(hi:i<a.length)(hj:i<b.length):diffE a b i=neqE a[i] b[i]:=by
 unfold diffE
 rw[List.getElem?_eq_getElem hi,List.getElem?_eq_getElem hj]

theorem diffE_comm (a b:List Ent)(i:Nat):diffE a b i=diffE b a i:=by
 unfold diffE
 cases a[i]? <;> cases b[i]? <;> first | rfl | exact neqE_comm _ _

def partsR (a b:List Ent):Int:=
 if fst1 (diffE a b) (min a.length b.length)≥0 then fst1 (diffE a b) (min a.length b.length) else if a.length=b.length then -1 else((min a.length b.length:Nat):Int)

theorem partsR_comm (a b:List Ent):partsR a b=partsR b a:=by
 unfold partsR
 have:diffE a b=diffE b a:=funext (diffE_comm a b)
 rw[this,Nat.min_comm]
 by_cases h:a.length=b.length
 ·simp[h]
 ·simp[h,Ne.symm h]

theorem mm_at (m n:Nat):Am.D.mm false (I m) (I n)=some (I ((min m n:Nat):Int)):=by
 have:Am.D.mm false (I m) (I n)=some (I (if(n:Int)<(m:Int) then(n:Int) else(m:Int))):=rfl
 have h2:(if(n:Int)<(m:Int) then(n:Int) else(m:Int))=((min m n:Nat):Int):=by split <;> omega
 rw[this,h2]

theorem c11 {a b:List Ent}(hA:a.length≤1000)(hB:b.length≤1000):FSpecR Tryz.prog 11 (.st bs) [Es a,Es b] (I (partsR a b)):=by
 refine ku11.R rfl rfl ?_
 unfold u11
 simp only[ups_cons,ups_nil,List.cons_append,List.nil_append]
 have hmm:=mm_at a.length b.length
 repeat' (first|(apply u_mm;rfl;rfl;exact hmm;simp only[sbe];rfl)|(apply u_lenL;rfl;exact lenL_map;simp only[sbe];rfl)|refine u_join ?_)
 refine u_range (fun i=>[I i]) (fun i=>∀k,k<i→diffE a b k=false) (min a.length b.length) rfl (fun _=>rfl) (fun k h=>absurd h (Nat.not_lt_zero _)) (fun i hi hJ R hR=>?_) (fun hJ R=>?_)
 ·have hli:decide ((i:Int)<((min a.length b.length:Nat):Int))=true:=by simp only[decide_eq_true_eq];omega
  have hia:i<a.length:=by omega
  have hib:i<b.length:=by omega
  have hne:=neq_at a[i] b[i]
  rw[←diffE_at hia hib] at hne
  cases hP:diffE a b i
  ·rw[hP] at hne
   repeat' (first|(apply nrm;simp only[sbe];rfl)|(apply u_iteT;rfl;exact hli)|(apply u_iteF;rfl;exact rfl)|(apply u_eaddr;rfl;rfl;(·first|exact eaddr_get hia rfl|exact eaddr_get hib rfl);simp only[sbe];rfl)|(apply u_bin;rfl;rfl;exact hne;simp only[sbe];rfl)|(apply u_inc;rfl;omega;simp only[sbe];rfl)|(apply u_ev;rfl;simp only[sbe];rfl)|refine u_join ?_|(apply u_jump;rfl;rfl)|refine at_jump ?_|refine kj rfl ?_)
   refine hR fun k hk=>?_
   rcases Nat.lt_or_ge k i with h3 | h3
   ·exact hJ k h3
   ·have e:k=i:=by omega
    subst e
    exact hP
  ·rw[hP] at hne
   repeat' (first|(apply nrm;simp only[sbe];rfl)|(apply u_iteT;rfl;(·first|exact hli|exact rfl))|(apply u_eaddr;rfl;rfl;(·first|exact eaddr_get hia rfl|exact eaddr_get hib rfl);simp only[sbe];rfl)|(apply u_bin;rfl;rfl;exact hne;simp only[sbe];rfl)|(apply u_ev;rfl;simp only[sbe];rfl)|refine u_join ?_|(apply u_ret;rfl;first|exact rfl|(refine retB ?_)|(refine retI ?_)|(refine retD ?_)))
   have:=fst1_at hP hJ hi
   rw[partsR,this]
   simp
 ·have hlf:decide (((min a.length b.length:Nat):Int)<((min a.length b.length:Nat):Int))=false:=by simp only[decide_eq_false_iff_not];omega
  have hno:=fst1_no hJ
  by_cases he:a.length=b.length
  ·have hq:((a.length:Int)==(b.length:Int))=true:=by simp[he]
   repeat' (first|(apply nrm;simp only[sbe];rfl)|(apply u_iteT;rfl;exact hq)|(apply u_iteF;rfl;exact hlf)|(apply u_lenL;rfl;exact lenL_map;simp only[sbe];rfl)|(apply u_ev;rfl;simp only[sbe];rfl)|(apply u_jump;rfl;rfl)|refine at_jump ?_|(refine over_jump (by decide) ?_)|refine kj rfl ?_|(apply u_ret;rfl;first|exact rfl|(refine retB ?_)|(refine retI ?_)|(refine retD ?_)))
   rw[partsR,hno]
   simp[he]
  ·have hq:((a.length:Int)==(b.length:Int))=false:=by simp;omega
   repeat' (first|(apply nrm;simp only[sbe];rfl)|(apply u_iteF;rfl;(·first|exact hlf|exact hq))|(apply u_lenL;rfl;exact lenL_map;simp only[sbe];rfl)|(apply u_ev;rfl;simp only[sbe];rfl)|(apply u_jump;rfl;rfl)|refine at_jump ?_|(refine over_jump (by decide) ?_)|refine kj rfl ?_|(apply u_ret;rfl;first|exact rfl|(refine retB ?_)|(refine retI ?_)|(refine retD ?_)))
   rw[partsR,hno]
   simp[he]

end Go.Am.Ra
