/-
  Several texts, one behind the other.
-/
import Derived.Test.YtjnipnanfjglpaaGreatDoorAmFntoAmTabK
import Derived.Test.YtjnipnanfjglpaaGreatDoorProg
set_option linter.unusedSimpArgs false
set_option linter.unusedVariables false
/-
 How the functions of the rally are read;the library's table that every store z6 with.
-/
namespace Go.Am.To
open Go.Proofs

abbrev y0 : E := .sym 0
abbrev y1 : E := .sym 1
abbrev y2 : E := .sym 2
abbrev y3 : E := .sym 3
abbrev y4 : E := .sym 4
abbrev y5 : E := .sym 5
abbrev y6 : E := .sym 6
abbrev y7 : E := .sym 7
abbrev y8 : E := .sym 8
abbrev y9 : E := .sym 9
abbrev y10 : E := .sym 10
abbrev y11 : E := .sym 11
abbrev y12 : E := .sym 12
abbrev y13 : E := .sym 13
abbrev y14 : E := .sym 14
abbrev y15 : E := .sym 15
abbrev y16 : E := .sym 16
abbrev y17 : E := .sym 17
abbrev y18 : E := .sym 18
abbrev y19 : E := .sym 19
abbrev y20 : E := .sym 20
abbrev y21 : E := .sym 21
abbrev y22 : E := .sym 22
abbrev y23 : E := .sym 23
abbrev y24 : E := .sym 24
abbrev y25 : E := .sym 25
abbrev y26 : E := .sym 26
abbrev y27 : E := .sym 27
abbrev y28 : E := .sym 28
abbrev y29 : E := .sym 29
abbrev y30 : E := .sym 30
abbrev y31 : E := .sym 31
abbrev y32 : E := .sym 32
abbrev y33 : E := .sym 33
abbrev y34 : E := .sym 34
abbrev y35 : E := .sym 35
abbrev y36 : E := .sym 36
abbrev y37 : E := .sym 37
abbrev y38 : E := .sym 38
abbrev y39 : E := .sym 39
abbrev y40 : E := .sym 40
abbrev y41 : E := .sym 41
abbrev y42 : E := .sym 42
abbrev y43 : E := .sym 43
abbrev y44 : E := .sym 44
abbrev y45 : E := .sym 45
abbrev y46 : E := .sym 46
abbrev y47 : E := .sym 47
abbrev y48 : E := .sym 48
abbrev y49 : E := .sym 49
abbrev y50 : E := .sym 50
abbrev y51 : E := .sym 51
abbrev y52 : E := .sym 52
abbrev y53 : E := .sym 53
abbrev y54 : E := .sym 54
abbrev y55 : E := .sym 55
abbrev y56 : E := .sym 56
abbrev y57 : E := .sym 57
abbrev y58 : E := .sym 58
abbrev y59 : E := .sym 59
abbrev y60 : E := .sym 60
abbrev y61 : E := .sym 61
abbrev y62 : E := .sym 62
abbrev y63 : E := .sym 63
abbrev y64 : E := .sym 64
abbrev y65 : E := .sym 65
abbrev y66 : E := .sym 66
abbrev y67 : E := .sym 67
abbrev y68 : E := .sym 68
abbrev y69 : E := .sym 69
abbrev y70 : E := .sym 70
abbrev y71 : E := .sym 71
abbrev y72 : E := .sym 72
abbrev y73 : E := .sym 73
abbrev y74 : E := .sym 74
abbrev y75 : E := .sym 75
abbrev y76 : E := .sym 76
abbrev y77 : E := .sym 77
abbrev y78 : E := .sym 78
abbrev y79 : E := .sym 79
abbrev y80 : E := .sym 80
abbrev y81 : E := .sym 81
abbrev y82 : E := .sym 82
abbrev y83 : E := .sym 83
abbrev y84 : E := .sym 84
abbrev y85 : E := .sym 85
abbrev y86 : E := .sym 86
abbrev y87 : E := .sym 87
abbrev y88 : E := .sym 88
abbrev y89 : E := .sym 89
abbrev y90 : E := .sym 90
abbrev y91 : E := .sym 91
abbrev y92 : E := .sym 92
abbrev y93 : E := .sym 93
abbrev y94 : E := .sym 94
abbrev y95 : E := .sym 95
abbrev y96 : E := .sym 96
abbrev y97 : E := .sym 97
abbrev y98 : E := .sym 98
abbrev y99 : E := .sym 99
def cI:List Nat:=[6,9,31,59,103,104,105,106,107,108,109,110,111,112,113,114,115,116,117,161,162,158,160,121,167,62,165,166,168,210,200,199,29,150,195,149,214,248,175,204,209]
def cJ:List Nat:=[156,157,159,103,104,105,106,107,108,109,110,111,112,113,114,115,116,117,162,165,166,168,1000038]
abbrev l' (a b : E) : E := .ld false 1 a b
abbrev g' (a b : E) : Bind := .ev (.guard a true b)
abbrev f' (a b : E) : Bind := .ev (.guard a false b)
abbrev G' (a b : E) : E := .guard a true b
abbrev F' (a b : E) : E := .guard a false b
abbrev v' (a : E) : Bind := .ev a
abbrev t' (a : E) : E := .au 1 a
abbrev s' (a : E) : E := .au 0 a
abbrev p' (n : Nat) (a : E) : E := .aD n a
abbrev q' (n : Nat) (a : E) : E := .cell n a
abbrev C' (a b : E) : E := .ah a (.ah b .ai)
abbrev D' (a b c : E) : E := .ah a (.ah b (.ah c .ai))
abbrev R' (a b : E) : T := .ret (C' a b)
abbrev X' (o : BinOp) (a b : E) : E := .bin o .int a b
abbrev P' (a b : E) : E := .bin .add .int a b
abbrev M' (a b : E) : E := .bin .sub .int a b
abbrev Q' (a b : E) : E := .bin .eql .int a b
abbrev c' (f : Nat) (h : E) (l : List E) (r : List Bool) : Bind := .call [] f h l r
abbrev w' (f : Nat) (h : E) (l : List E) (r : List Bool) : Bind := .bA [] f h l r
abbrev W' (l : List Bind) (t : T) : T := aa l t
abbrev Z' (a : Array UInt8) : E := .const (.v (.string ⟨a⟩))
abbrev k' (n : Int) : E := .const (.v (.int .u64 n))
abbrev K' (n : Int) : E := .const (.v (.int .u8 n))
abbrev m' (o : MOp) (a : E) : E := .m4 o a .nil .nil .nil
abbrev n' (o : MOp) (a b : E) : E := .m4 o a b .nil .nil
abbrev o' (o : MOp) (a b c : E) : E := .m4 o a b c .nil
abbrev z' (a : E) : E := .aV a
abbrev j' (a b : E) : E := .cons a b
abbrev i' (a b c : E) : E := .ite a b c
abbrev J' (n : Nat) (l : List E) : T := .jump n l
abbrev I' (a : E) (b c : T) : T := .ite a b c
abbrev N' (a : E) : E := .un .not a
abbrev E' (g : Func) (r : Bool) (w m : List Nat) (z : List (Nat × Nat)) : bV := { (aj r (w ++ cI) cJ m z g) with aN := true, cE := true }
abbrev e' (f : Nat) (g : Func) (r o : Bool) (w m : List Nat) (z : List (Nat × Nat)) (l : List Bool) (t : T) : Entry := { f := f, kn := .plain, cf := { (aj r (w ++ cI) cJ m z g) with aN := true, cE := true }, own := o, aL := l, t := t }
theorem O' {P : Program} {f : FuncId} {cf : bV} {own : Bool} {aL : List Bool} {t : T} {fn : Func} (hf : P.funcs[f]? = some fn) (h1 : bl P fn = aL := by kernel_rfl) (h2 : ir P cf fn = some t := by kernel_rfl) : ak P { f := f, kn := .plain, cf := cf, own := own, aL := aL, t := t } := ak.ay hf h1 h2
theorem o1' {P : Program} {e : Entry} {l : ug} (h : ak P e) (k : ∀ x, x ∈ l → ak P x) : ∀ x, x ∈ e :: l → ak P x := fun x hx => by
  rcases B0t.1 hx with rfl | hx
  · exact h
  · exact k x hx
theorem o0' {P : Program} : ∀ x, x ∈ ([] : ug) → ak P x := fun x hx => by cases hx
abbrev ki (n:Int):E:=.const (.v (.int .i64 n))
abbrev kb (b:Bool):E:=.const (.v (.bool b))
def tW (x:E):Nat→Nat→E
 | _,0=>.nil
 | k,n+1=>.cons (.cell k x) (tW x (k+1) n)
def pz (n:Nat)(x:E):E:=tW x 0 n
abbrev i (n:Int):D:=.v (.int .i64 n)
abbrev b (x:Bool):D:=.v (.bool x)
def b0:List D:=[.nL 5 395 [.int .u8 0,.int .u8 1,.int .u8 56,.int .u8 2,.int .u8 57,.int .u8 49,.int .u8 28,.int .u8 3,.int .u8 61,.int .u8 58,.int .u8 42,.int .u8 50,.int .u8 38,.int .u8 29,.int .u8 17,.int .u8 4,.int .u8 62,.int .u8 47,.int .u8 59,.int .u8 36,.int .u8 45,.int .u8 43,.int .u8 51,.int .u8 22,.int .u8 53,.int .u8 39,.int .u8 33,.int .u8 30,.int .u8 24,.int .u8 18,.int .u8 12,.int .u8 5,.int .u8 63,.int .u8 55,.int .u8 48,.int .u8 27,.int .u8 60,.int .u8 41,.int .u8 37,.int .u8 16,.int .u8 46,.int .u8 35,.int .u8 44,.int .u8 21,.int .u8 52,.int .u8 32,.int .u8 23,.int .u8 11,.int .u8 54,.int .u8 26,.int .u8 40,.int .u8 15,.int .u8 34,.int .u8 20,.int .u8 31,.int .u8 10,.int .u8 25,.int .u8 14,.int .u8 19,.int .u8 9,.int .u8 13,.int .u8 8,.int .u8 7,.int .u8 6]]
theorem aiu {P:Program}{e:Entry}(h:ak P { e with nd:=false }):ak P e:=h
theorem z8:oI b0=true:=rfl

end Go.Am.To

/-
 Uw: pV functions as texts.
-/
namespace Go.Am.To
open Go.Proofs
theorem U' {P : Program} {f : FuncId} {cf : bV} {aL : List Bool} {u : U} {fn : Func} (hf : P.funcs[f]? = some fn) (h1 : bl P fn = aL := by kernel_rfl) (h2 : (ir P cf fn).bind (nU (aL.length + 1)) = some u := by kernel_rfl) : dW P f .plain cf aL u := dW.plain hf h1 h2


noncomputable def u4:U:=aX [.dU (.br 2 y0),.call 12 y4 [pz 2 y0] [true],.ev (N' y5),.chain true y6 (aX [.dU (q' 0 y0),.ev (X' .gtr (q' 0 y0) (ki 8))] (.ret y7)),.chain true y7 (aX [.dU (q' 1 y0),.ev (.bD (q' 1 y0)),.ev (X' .gtr y8 (ki 16))] (.ret y9)),.chain true y8 (aX [.ev (.bD y1),.ev (X' .gtr y9 (ki 6))] (.ret y10)),.chain true y9 (aX [.ev (.bD y2),.ev (X' .gtr y10 (ki 5))] (.ret y11)),.chain true y10 (aX [.dU (q' 0 y0),.call 13 y4 [q' 0 y0,y1] [true],.ev (N' y11)] (.ret y12)),.chain true y11 (aX [.dU (q' 0 y0),.call 14 y4 [q' 0 y0,y2] [true],.ev (N' y12)] (.ret y13)),.chain true y12 (aX [.ev (X' .lss y3 (ki 1))] (.ret y13)),.chain true y13 (aX [.ev (X' .gtr y3 (ki 40))] (.ret y14))] (.ite y14 (aX [.call 5 y4 [] [true]] (.ret (C' y15 y4))) (aX [.call 15 y4 [pz 2 y0,y1,y2,y3] [true,true],.call 7 y4 [ki 2,ki 2] [false],.bA 6 y4 [y16] [true,true],.ev (X' .neq (t' y15) (ki 0)),.chain true y19 (aX [.dU (t' y17),.ev (X' .neq (t' y17) (ki 0))] (.ret y20)),.chain true y20 (aX [.dU (s' y17),.ev (.bin .eql .ptr (s' y17) (.const (.v (.pointer none))))] (.ret y21))] (.ite y21 (.ret (C' (kb false) y18)) (aX [.join 0 1 (.loop 1 [ki 0,y18] (aX [.ev (X' .lss y22 y3)] (.ite y24 (aX [.join 2 1 (aX [.join 3 5 (.loop 4 [Z' #[99,111,118,101,114,101,100],ki 0] (aX [.ev (.bD (s' y15)),.ev (X' .lss y26 y27)] (.ite y28 (aX [.join 5 1 (aX [.ev (.av 3 (s' y15) y26),.dU (p' 1 y29),.ev (l' y23 (p' 1 y29)),.ev (X' .leq y30 y22),.chain false y31 (aX [.dU (s' y15),.ev (.av 3 (s' y15) y26),.dU (p' 2 y32),.ev (l' y23 (p' 2 y32)),.ev (X' .lss y22 y33)] (.ret y34)),.Pg y32 [Z' #[117,110,99,111,118,101,114,101,100]] [y25]] (.jump 5 [y33] [])),.ev (P' y26 (ki 1))] (.jump 4 [y29,y30] [])) (.jump 3 [y25,y26,y26,y27,y28] [])))),.ev (.bP (z' y22) (.const (.a_ []))),.call 8 y23 [y25,y30] [true],.bA 9 y23 [s' y17,y31] [true],.ev (X' .neq y32 (ki 0))] (.ite y34 (.ret (C' (kb false) y33)) (aX [.call 11 y33 [s' y17,ki 1,y22] [true,true],.ev (X' .neq (t' y35) (ki 0))] (.ite y36 (.ret (C' (kb false) y33)) (aX [.join 3 5 (.loop 4 [kb false,ki 0] (aX [.ev (.bD (s' y35)),.ev (X' .lss y38 y39)] (.ite y40 (aX [.join 5 1 (aX [.chain true y37 (aX [.dU (s' y35),.ev (.av 1 (s' y35) y38),.ev (l' y33 y41),.ev (Q' y42 (ki 4))] (.ret y43))] (.jump 5 [y41] [])),.ev (P' y38 (ki 1))] (.jump 4 [y41,y42] [])) (.jump 3 [y37,y38,y38,y39,y40] [])))),.join 3 5 (.loop 4 [kb true,ki 0] (aX [.ev (.bD y2),.ev (X' .lss y43 y44)] (.ite y45 (aX [.join 5 1 (aX [.join 6 5 (.loop 7 [kb false,ki 0] (aX [.ev (.bD y1),.ev (X' .lss y47 y48)] (.ite y49 (aX [.join 8 1 (aX [.ev (.av 4 y1 y47),.dU (p' 2 y50),.ev (l' y33 (p' 2 y50)),.ev (X' .lss y22 y51),.chain true y52 (aX [.ev (.av 4 y1 y47),.dU (p' 3 y53),.ev (l' y33 (p' 3 y53)),.ev (X' .geq y22 y54)] (.ret y55)),.chain true y53 (aX [.ev (.av 4 y1 y47),.dU (p' 1 y54),.ev (l' y33 (p' 1 y54)),.ev (.av 3 y2 y43),.dU (p' 1 y56),.ev (l' y33 (p' 1 y56)),.ev (X' .and y55 y57),.ev (.av 3 y2 y43),.dU (p' 1 y59),.ev (l' y33 (p' 1 y59)),.ev (X' .neq y58 y60)] (.ret y61))] (.ite y54 (.jump 8 [y46] []) (aX [.ev (.av 4 y1 y47),.dU (p' 0 y55),.ev (l' y33 (p' 0 y55)),.call 16 y33 [pz 2 y0,y56,y22] [true,true],.ev (X' .neq (t' y57) (ki 0)),.chain true y58 (aX [.dU (s' y57),.ev (.bD (s' y57)),.dU (q' 0 y0),.ev (X' .neq y59 (q' 0 y0))] (.ret y60))] (.ite y59 (.ret (C' (kb false) y33)) (aX [.chain true y46 (aX [.dU (s' y57),.ev (.av 3 y2 y43),.dU (p' 0 y60),.ev (l' y33 (p' 0 y60)),.ev (.av 1 (s' y57) y61),.ev (l' y33 y62),.ev (X' .geq y63 (ki 0)),.chain false y64 (aX [.dU (s' y57),.ev (.av 3 y2 y43),.dU (p' 0 y65),.ev (l' y33 (p' 0 y65)),.ev (.av 1 (s' y57) y66),.ev (l' y33 y67),.ev (.av 3 y2 y43),.dU (p' 2 y69),.ev (l' y33 (p' 2 y69)),.ev (P' y22 y70),.ev (X' .leq y68 y71)] (.ret y72))] (.ret y65))] (.jump 8 [y60] [])))))),.ev (P' y47 (ki 1))] (.jump 7 [y50,y51] [])) (.jump 6 [y46,y47,y47,y48,y49] [])))),.ev (.ite y42 y46 (kb false))] (.jump 5 [y51] [])),.ev (P' y43 (ki 1))] (.jump 4 [y46,y47] [])) (.jump 3 [y42,y43,y43,y44,y45] [])))),.ev (.bin .eql .bool y37 y42)] (.ite y47 (.ret (C' (kb false) y33)) (.jump 2 [y33] [s' y35,t' y35,y32,C' (s' y35) (t' y35),C' (s' y35) (t' y35),s' y35,t' y35,t' y35,s' y35]))))))),.ev (P' y22 (ki 1))] (.jump 1 [y26,y25] [])) (.jump 0 [y23] [])))),.call 5 y22 [] [true]] (.ret (C' y23 y22))))))
theorem ku4:dW Tryz.prog 4 .plain (E' Tryz.f4 false [] [] []) [false,true,true,true] u4:=U' Tryz.func4

noncomputable def u12:U:=aX [.dU (.br 2 y0),.call 36 y1 [q' 0 y0,ki 1,ki 200] [true],.ev (N' y2),.chain true y3 (aX [.dU (q' 1 y0),.ev (.bD (q' 1 y0)),.ev (X' .gtr y4 (ki 1000))] (.ret y5))] (.ite y4 (.ret (C' (kb false) y1)) (aX [.join 0 0 (.loop 1 [ki 0] (aX [.ev (.bD (q' 1 y0)),.ev (X' .lss y5 y6)] (.ite y7 (aX [.join 2 0 (aX [.ev (.av 4 (q' 1 y0) y5),.ev (.ld true 4 y1 y8),.call 37 y1 [q' 0 y0,y9] [true],.ev (N' y10)] (.ite y11 (.ret (C' (kb false) y1)) (.jump 2 [] []))),.ev (P' y5 (ki 1))] (.jump 1 [y8] [])) (.jump 0 [] []))))] (.ret (C' (kb true) y1))))
theorem adi:dW Tryz.prog 12 .plain (E' Tryz.f12 true [] [] []) [false] u12:=U' Tryz.func12

noncomputable def u13:U:=aX [.join 0 0 (.loop 1 [ki 0] (aX [.ev (.bD y1),.ev (X' .lss y3 y4)] (.ite y5 (aX [.join 2 0 (aX [.ev (.av 4 y1 y3),.ev (.ld true 4 y2 y6),.dU (.br 4 y7),.ev (M' y0 (ki 1)),.call 36 y2 [q' 0 y7,ki 0,y8] [true],.ev (N' y9),.chain true y10 (aX [.dU (q' 1 y7),.call 36 y2 [q' 1 y7,ki 0,ki 65535] [true],.ev (N' y11)] (.ret y12)),.chain true y11 (aX [.dU (q' 2 y7),.ev (X' .lss (q' 2 y7) (ki 0))] (.ret y12)),.chain true y12 (aX [.dU (q' 2 y7),.dU (q' 3 y7),.ev (X' .gtr (q' 2 y7) (q' 3 y7))] (.ret y13)),.chain true y13 (aX [.dU (q' 3 y7),.ev (X' .gtr (q' 3 y7) (ki 100000))] (.ret y14))] (.ite y14 (.ret (C' (kb false) y2)) (.jump 2 [] [q' 0 y7,q' 0 y7,q' 1 y7,q' 2 y7,q' 3 y7]))),.ev (P' y3 (ki 1))] (.jump 1 [y6] [])) (.jump 0 [] []))))] (.ret (C' (kb true) y2))
theorem adh:dW Tryz.prog 13 .plain (E' Tryz.f13 true [] [] []) [true,true] u13:=U' Tryz.func13

noncomputable def u14:U:=aX [.join 0 0 (.loop 1 [ki 0] (aX [.ev (.bD y1),.ev (X' .lss y3 y4)] (.ite y5 (aX [.join 2 0 (aX [.ev (.av 3 y1 y3),.ev (.ld true 3 y2 y6),.dU (.br 3 y7),.ev (M' y0 (ki 1)),.call 36 y2 [q' 0 y7,ki 0,y8] [true],.ev (N' y9),.chain true y10 (aX [.dU (q' 1 y7),.call 36 y2 [q' 1 y7,ki 0,ki 65535] [true],.ev (N' y11)] (.ret y12)),.chain true y11 (aX [.dU (q' 2 y7),.call 36 y2 [q' 2 y7,ki 0,ki 10000] [true],.ev (N' y12)] (.ret y13))] (.ite y12 (.ret (C' (kb false) y2)) (.jump 2 [] [q' 0 y7,q' 0 y7,q' 1 y7,q' 2 y7]))),.ev (P' y3 (ki 1))] (.jump 1 [y6] [])) (.jump 0 [] [])))),.ev (.bD y1),.ev (X' .leq y3 (ki 100))] (.ret (C' y4 y2))
theorem adg:dW Tryz.prog 14 .plain (E' Tryz.f14 true [] [] []) [true,true] u14:=U' Tryz.func14

noncomputable def u36:U:=aX [.ev (X' .geq y0 y1),.chain false y4 (aX [.ev (X' .leq y0 y2)] (.ret y5))] (.ret (C' y5 y3))
theorem ada:dW Tryz.prog 36 .plain (E' Tryz.f36 true [] [] []) [true,true,true] u36:=U' Tryz.func36

noncomputable def u37:U:=aX [.dU (.br 4 y1),.ev (M' y0 (ki 1)),.call 36 y2 [q' 0 y1,ki 0,y3] [true],.ev (N' y4),.chain true y5 (aX [.dU (q' 1 y1),.ev (M' y0 (ki 1)),.call 36 y2 [q' 1 y1,ki 0,y6] [true],.ev (N' y7)] (.ret y8)),.chain true y6 (aX [.dU (q' 0 y1),.dU (q' 1 y1),.ev (Q' (q' 0 y1) (q' 1 y1))] (.ret y7)),.chain true y7 (aX [.dU (q' 2 y1),.call 36 y2 [q' 2 y1,ki 1,ki 10000] [true],.ev (N' y8)] (.ret y9)),.chain true y8 (aX [.dU (q' 3 y1),.ev (.bD (q' 3 y1)),.ev (X' .gtr y9 (ki 20))] (.ret y10))] (.ite y9 (.ret (C' (kb false) y2)) (aX [.join 0 0 (.loop 1 [ki 0] (aX [.ev (.bD (q' 3 y1)),.ev (X' .lss y10 y11)] (.ite y12 (aX [.join 2 0 (aX [.ev (.av 2 (q' 3 y1) y10),.ev (.ld true 2 y2 y13),.dU (.br 2 y14),.ev (X' .lss (q' 0 y14) (ki 0)),.chain true y15 (aX [.dU (q' 0 y14),.dU (q' 1 y14),.ev (X' .geq (q' 0 y14) (q' 1 y14))] (.ret y16)),.chain true y16 (aX [.dU (q' 1 y14),.ev (X' .gtr (q' 1 y14) (ki 100000))] (.ret y17)),.chain true y17 (aX [.ev (X' .gtr y10 (ki 0)),.chain false y18 (aX [.dU (q' 0 y14),.dU (q' 3 y1),.ev (M' y10 (ki 1)),.ev (.av 2 (q' 3 y1) y19),.dU (p' 1 y20),.ev (l' y2 (p' 1 y20)),.ev (X' .leq (q' 0 y14) y21)] (.ret y22))] (.ret y19))] (.ite y18 (.ret (C' (kb false) y2)) (.jump 2 [] [q' 0 y14,q' 0 y14,q' 1 y14]))),.ev (P' y10 (ki 1))] (.jump 1 [y13] [])) (.jump 0 [] []))))] (.ret (C' (kb true) y2))))
theorem ac_:dW Tryz.prog 37 .plain (E' Tryz.f37 true [] [] []) [true,false] u37:=U' Tryz.func37

noncomputable def u9:U:=aX [.call 28 y2 [y0] [true],.ev (N' y3)] (.ite y4 (.ret (C' (ki 1) y2)) (aX [.dU (.nn y0),.dU (p' 34 y0),.ev (l' y2 (p' 34 y0)),.ev (.bD y5),.ev (X' .geq y6 (ki 5000))] (.ite y7 (aX [.dU (.nn y0),.dU (p' 0 y0),.ev (.ld true 30 y2 (p' 0 y0)),.dU (.nn y0),.dU (p' 34 y0),.ev (l' y2 (p' 34 y0)),.call 30 y2 [y9] [true],.bA 29 y2 [y8,y10] [true,true,true],.bA 31 y12 [s' y11,y1] [true],.ev (X' .neq y13 (ki 0))] (.ite y15 (.ret (C' y13 y14)) (.ret (C' (ki 4) y14)))) (aX [.bA 31 y2 [y0,y1] [true],.ev (X' .neq y8 (ki 0))] (.ite y10 (.ret (C' y8 y9)) (aX [.dU (.nn y0),.dU (p' 34 y0),.ev (l' y9 (p' 34 y0)),.dU (.nn y0),.dU (p' 34 y0),.ev (l' y9 (p' 34 y0)),.call 32 y9 [y12,y1] [true],.ev (j' (z' y1) (j' (z' y13) .nil)),.ev (.bP (.br 2 y14) (.const (.a_ []))),.ev (.fC 117 2 32 y9 y11 y15),.dU (.nn y0),.dU (p' 34 y0),.ev (.eY 1 y16 (p' 34 y0) (.apps y9 y11 y15))] (.ret (C' (ki 0) y17))))))))
theorem ku9:dW Tryz.prog 9 .plain (E' Tryz.f9 false [] [] []) [true,true] u9:=U' Tryz.func9

noncomputable def u28:U:=aX [.ev (.bin .neq .ptr y0 (.const (.v (.pointer none)))),.chain false y2 (aX [.dU (.nn y0),.dU (p' 30 y0),.ev (l' y1 (p' 30 y0)),.ev (.bin .neq .ptr y3 (.const (.v (.pointer none))))] (.ret y4))] (.ret (C' y3 y1))
theorem adb:dW Tryz.prog 28 .plain (E' Tryz.f28 true [] [] []) [true] u28:=U' Tryz.func28

noncomputable def u32:U:=aX [.ev (.bD y0),.ev (X' .gtr y3 (ki 0)),.join 0 1 (.ite y4 (aX [.ev (M' y3 (ki 1)),.ev (.av 2 y0 y5),.dU (p' 1 y6),.ev (l' y2 (p' 1 y6)),.call 60 y2 [y7,ki 16,ki 64] [true,true]] (.jump 0 [s' y8] [])) (.jump 0 [k' 14695981039346656037] [])),.call 46 y2 [y5,y1] [true],.call 47 y2 [y6] [true]] (.ret (C' y7 y2))
theorem W6:dW Tryz.prog 32 .plain (E' Tryz.f32 true [] [] []) [true,true] u32:=U' Tryz.func32

noncomputable def u46:U:=aX [.ev (.fP y1),.join 0 1 (.loop 1 [y0,ki 0] (aX [.ev (X' .lss y5 y3)] (.ite y6 (aX [.join 2 1 (aX [.ev (n' .kg y1 y5),.ev (.conv .u64 y7),.ev (X' .xor y4 y8),.ev (X' .mul y9 (k' 1099511628211))] (.jump 2 [y10] [])),.ev (P' y5 (ki 1))] (.jump 1 [y7,y8] [])) (.jump 0 [y4] [])))),.ev (X' .mul y4 (k' 1099511628211))] (.ret (C' y5 y2))
theorem ac3:dW Tryz.prog 46 .plain (E' Tryz.f46 true [] [] []) [true,true] u46:=U' Tryz.func46

noncomputable def u47:U:=aX [.call 91 y1 [y0,ki 16] [true],.ev (.fP y2),.ev (M' (ki 16) y3),.call 92 y1 [Z' #[48],y4] [true],.ev (.bin .add .str y5 y2)] (.ret (C' y6 y1))
theorem ac2:dW Tryz.prog 47 .plain (E' Tryz.f47 true [] [] []) [true] u47:=U' Tryz.func47

noncomputable def u60:U:=aX [.call 118 y3 [y0,y1,y2] [true,true],.ev (m' (.IY true) (t' y4))] (.ite y5 (aX [.call 119 y3 [Z' #[80,97,114,115,101,85,105,110,116],y0,y1,y2,t' y4] [true]] (.ret (C' (C' (s' y4) y6) y3))) (.ret (C' (C' (s' y4) (.const (.v .nilIface))) y3)))
theorem ac1:dW Tryz.prog 60 .plain (E' Tryz.f60 true [] [] []) [true,true,true] u60:=U' Tryz.func60

noncomputable def u91:U:=aX [.call 146 y2 [y0,y1] [true]] (.ret (C' y3 y2))
theorem acQ:dW Tryz.prog 91 .plain (E' Tryz.f91 true [] [] []) [true,true] u91:=U' Tryz.func91

noncomputable def Vy:U:=aX [.ev (.bin .eql .str y0 (Z' #[]))] (.ite y4 (.ret (C' (C' (k' 0) (.fq 292 (ki 2))) y3)) (aX [.ev (Q' y1 (ki 0)),.join 0 2 (aX [.ev (X' .leq (ki 2) y1),.chain false y6 (aX [.ev (X' .leq y1 (ki 36))] (.ret y7)),.join 1 2 (.ite y7 (.jump 1 [y0,y1] []) (aX [.ev (Q' y1 (ki 0))] (.ite y8 (aX [.ev (n' .kg y0 (ki 0)),.ev (Q' y9 (K' 48)),.join 2 2 (.ite y10 (aX [.join 3 2 (aX [.ev (.fP y0),.ev (X' .geq y11 (ki 3)),.chain false y12 (aX [.ev (n' .kg y0 (ki 1)),.call 169 y3 [y13] [true],.ev (Q' y14 (K' 98))] (.ret y15)),.join 4 2 (.ite y13 (aX [.ev (o' .mS y0 (ki 2) (.fP y0))] (.jump 4 [y14,ki 2] [])) (aX [.ev (.fP y0),.ev (X' .geq y14 (ki 3)),.chain false y15 (aX [.ev (n' .kg y0 (ki 1)),.call 169 y3 [y16] [true],.ev (Q' y17 (K' 111))] (.ret y18)),.join 5 2 (.ite y16 (aX [.ev (o' .mS y0 (ki 2) (.fP y0))] (.jump 5 [y17,ki 8] [])) (aX [.ev (.fP y0),.ev (X' .geq y17 (ki 3)),.chain false y18 (aX [.ev (n' .kg y0 (ki 1)),.call 169 y3 [y19] [true],.ev (Q' y20 (K' 120))] (.ret y21)),.join 6 2 (.ite y19 (aX [.ev (o' .mS y0 (ki 2) (.fP y0))] (.jump 6 [y20,ki 16] [])) (aX [.ev (o' .mS y0 (ki 1) (.fP y0))] (.jump 6 [y20,ki 8] [])))] (.jump 5 [y20,y21] [])))] (.jump 4 [y17,y18] [])))] (.jump 3 [y14,y15] []))] (.jump 2 [y11,y12] [])) (.jump 2 [y0,ki 10] []))] (.jump 1 [y11,y12] [])) (.ret (C' (C' (k' 0) (.fq 292 (ki 3))) y3)))))] (.jump 0 [y8,y9] [])),.ev (Q' y2 (ki 0)),.join 0 1 (.ite y8 (.jump 0 [ki 64] []) (aX [.ev (X' .lss y2 (ki 0)),.chain true y9 (aX [.ev (X' .gtr y2 (ki 64))] (.ret y10))] (.ite y10 (.ret (C' (C' (k' 0) (.fq 292 (ki 4))) y3)) (.jump 0 [y2] [])))),.join 0 1 (aX [.ev (Q' y7 (ki 10)),.join 1 1 (.ite y10 (.jump 1 [k' 1844674407370955162] []) (aX [.ev (Q' y7 (ki 16)),.join 2 1 (.ite y11 (.jump 2 [k' 1152921504606846976] []) (aX [.ev (.conv .u64 y7),.ev (X' .quo (k' 18446744073709551615) y12),.ev (P' y13 (k' 1))] (.jump 2 [y14] [])))] (.jump 1 [y12] [])))] (.jump 0 [y11] [])),.ev (.conv .u64 y9),.ev (X' .shl (k' 1) y11),.ev (M' y12 (k' 1)),.ev (m' .iA y6),.ev (.bD y14),.join 0 2 (.loop 1 [kb false,k' 0,ki 0] (aX [.ev (X' .lss y18 y15)] (.ite y19 (aX [.join 2 2 (aX [.ev (.av 1 y14 y18),.ev (l' y3 y20),.join 3 5 (aX [.ev (Q' y21 (K' 95)),.ev (.ite y22 y5 (kb false))] (.ite y23 (.jump 2 [kb true,y17] []) (aX [.ev (X' .leq (K' 48) y21),.chain false y24 (aX [.ev (X' .leq y21 (K' 57))] (.ret y25)),.join 4 1 (.ite y25 (aX [.ev (M' y21 (K' 48))] (.jump 4 [y26] [])) (aX [.call 169 y3 [y21] [true],.ev (X' .leq (K' 97) y26),.chain false y27 (aX [.call 169 y3 [y21] [true],.ev (X' .leq y28 (K' 122))] (.ret y29))] (.ite y28 (aX [.call 169 y3 [y21] [true],.ev (M' y29 (K' 97)),.ev (P' y30 (K' 10))] (.jump 4 [y31] [])) (.ret (C' (C' (k' 0) (.fq 292 (ki 2))) y3)))))] (.jump 3 [y26,y23,y22,y22,y23] [])))),.ev (.conv .u8 y7),.ev (X' .geq y22 y27)] (.ite y28 (.ret (C' (C' (k' 0) (.fq 292 (ki 2))) y3)) (aX [.ev (X' .geq y17 y10)] (.ite y29 (.ret (C' (C' y13 (.fq 292 (ki 1))) y3)) (aX [.ev (.conv .u64 y7),.ev (X' .mul y17 y30),.ev (.conv .u64 y22),.ev (P' y31 y32),.ev (X' .lss y33 y31),.chain true y34 (aX [.ev (X' .gtr y33 y13)] (.ret y35))] (.ite y35 (.ret (C' (C' y13 (.fq 292 (ki 1))) y3)) (.jump 2 [y16,y33] []))))))),.ev (P' y18 (ki 1))] (.jump 1 [y20,y21,y22] [])) (.jump 0 [y16,y17] [])))),.chain false y16 (aX [.call 170 y3 [y0] [true],.ev (N' y18)] (.ret y19))] (.ite y18 (.ret (C' (C' (k' 0) (.fq 292 (ki 2))) y3)) (.ret (C' (C' y17 (.const (.v .nilIface))) y3)))))
theorem Xs:dW Tryz.prog 118 .plain (E' Tryz.f118 true [] [] []) [true,true,true] Vy:=U' Tryz.func118

noncomputable def Vs:U:=aX [.ev (Q' y1 (ki 10))] (.ite y3 (aX [.ev (X' .lss y0 (k' 100))] (.ite y4 (aX [.ev (.conv .i64 y0),.call 187 y2 [y5] [true]] (.ret (C' y6 y2))) (aX [.call 188 y2 [y0] [true]] (.ret (.deref .nil))))) (aX [.call 190 y2 [.const (.a_ []),y0,y1,kb false,kb false] [true,true]] (.ret (C' (t' y4) y2))))
theorem Xm:dW Tryz.prog 146 .plain (E' Tryz.f146 true [] [] []) [true,true] Vs:=U' Tryz.func146

noncomputable def Vr:U:=aX [.ev (X' .or y0 (K' 32))] (.ret (C' y2 y1))
theorem Xl:dW Tryz.prog 169 .plain (E' Tryz.f169 true [] [] []) [true] Vr:=U' Tryz.func169

noncomputable def Vm:U:=aX [.ev (X' .lss y2 (ki 2)),.chain true y6 (aX [.ev (Q' y2 (ki 10))] (.ret y7)),.chain true y7 (aX [.ev (X' .gtr y2 (ki 36))] (.ret y8)),.join 0 0 (.ite y8 (.dI (m' .td (.fq 9 (Z' #[115,116,114,99,111,110,118,58,32,105,108,108,101,103,97,108,32,65,112,112,101,110,100,73,110,116,47,70,111,114,109,97,116,73,110,116,32,98,97,115,101]))) y5 [] []) (.jump 0 [] [])),.ev (.fK 346 65 y5 (.const (.agg [.v (.int .u8 0),.v (.int .u8 0),.v (.int .u8 0),.v (.int .u8 0),.v (.int .u8 0),.v (.int .u8 0),.v (.int .u8 0),.v (.int .u8 0),.v (.int .u8 0),.v (.int .u8 0),.v (.int .u8 0),.v (.int .u8 0),.v (.int .u8 0),.v (.int .u8 0),.v (.int .u8 0),.v (.int .u8 0),.v (.int .u8 0),.v (.int .u8 0),.v (.int .u8 0),.v (.int .u8 0),.v (.int .u8 0),.v (.int .u8 0),.v (.int .u8 0),.v (.int .u8 0),.v (.int .u8 0),.v (.int .u8 0),.v (.int .u8 0),.v (.int .u8 0),.v (.int .u8 0),.v (.int .u8 0),.v (.int .u8 0),.v (.int .u8 0),.v (.int .u8 0),.v (.int .u8 0),.v (.int .u8 0),.v (.int .u8 0),.v (.int .u8 0),.v (.int .u8 0),.v (.int .u8 0),.v (.int .u8 0),.v (.int .u8 0),.v (.int .u8 0),.v (.int .u8 0),.v (.int .u8 0),.v (.int .u8 0),.v (.int .u8 0),.v (.int .u8 0),.v (.int .u8 0),.v (.int .u8 0),.v (.int .u8 0),.v (.int .u8 0),.v (.int .u8 0),.v (.int .u8 0),.v (.int .u8 0),.v (.int .u8 0),.v (.int .u8 0),.v (.int .u8 0),.v (.int .u8 0),.v (.int .u8 0),.v (.int .u8 0),.v (.int .u8 0),.v (.int .u8 0),.v (.int .u8 0),.v (.int .u8 0),.v (.int .u8 0)]))),.join 0 1 (.ite y3 (aX [.ev (.un .neg y1)] (.jump 0 [y10] [])) (.jump 0 [y1] [])),.call 223 y9 [y2] [true],.join 0 2 (.ite y11 (aX [.ev (.conv .u64 y2),.call 224 y9 [y12] [true],.ev (.conv .u64 y13),.ev (.conv .u64 y2),.ev (.conv .u64 y2),.ev (M' y16 (k' 1)),.join 1 3 (.loop 2 [y10,ki 65,y9] (aX [.ev (X' .geq y18 y15)] (.ite y21 (aX [.join 3 3 (aX [.ev (M' y19 (ki 1)),.ev (X' .and y18 y17),.ev (n' .kg (Z' #[48,49,50,51,52,53,54,55,56,57,97,98,99,100,101,102,103,104,105,106,107,108,109,110,111,112,113,114,115,116,117,118,119,120,121,122]) y23),.ev (n' (.iL 65 1) (.aC y5) y22),.ev (.eY 1 y20 y25 y24),.ev (X' .shr y18 y14)] (.jump 3 [y27,y22,y26] []))] (.jump 2 [y22,y23,y24] [])) (.jump 1 [y18,y19,y20] [])))),.ev (M' y19 (ki 1)),.ev (n' .kg (Z' #[48,49,50,51,52,53,54,55,56,57,97,98,99,100,101,102,103,104,105,106,107,108,109,110,111,112,113,114,115,116,117,118,119,120,121,122]) y18),.ev (n' (.iL 65 1) (.aC y5) y21),.ev (.eY 1 y20 y23 y22)] (.jump 0 [y21,y24] [])) (aX [.ev (.conv .u64 y2),.join 1 3 (.loop 2 [y10,ki 65,y9] (aX [.ev (X' .geq y13 y12)] (.ite y16 (aX [.join 3 3 (aX [.ev (M' y14 (ki 1)),.ev (X' .quo y13 y12),.ev (X' .mul y18 y12),.ev (M' y13 y19),.ev (n' .kg (Z' #[48,49,50,51,52,53,54,55,56,57,97,98,99,100,101,102,103,104,105,106,107,108,109,110,111,112,113,114,115,116,117,118,119,120,121,122]) y20),.ev (n' (.iL 65 1) (.aC y5) y17),.ev (.eY 1 y15 y22 y21)] (.jump 3 [y18,y17,y23] []))] (.jump 2 [y17,y18,y19] [])) (.jump 1 [y13,y14,y15] [])))),.ev (M' y14 (ki 1)),.ev (n' .kg (Z' #[48,49,50,51,52,53,54,55,56,57,97,98,99,100,101,102,103,104,105,106,107,108,109,110,111,112,113,114,115,116,117,118,119,120,121,122]) y13),.ev (n' (.iL 65 1) (.aC y5) y16),.ev (.eY 1 y15 y18 y17)] (.jump 0 [y16,y19] []))),.join 0 2 (.ite y3 (aX [.ev (M' y12 (ki 1)),.ev (n' (.iL 65 1) (.aC y5) y14),.ev (.eY 1 y13 y15 (K' 45))] (.jump 0 [y14,y16] [])) (.jump 0 [y12,y13] []))] (.ite y4 (aX [.ev (n' (.Om 65 1) (.aC y5) y14),.ev (.fC 5 1 1 y15 y0 y16)] (.ret (C' (C' (.apps y15 y0 y16) (Z' #[])) y17))) (aX [.ev (n' (.Om 65 1) (.aC y5) y14),.ev (n' .ru y15 y16)] (.ret (C' (C' (.const (.a_ [])) y17) y15))))
theorem Xg:dW Tryz.prog 190 .plain (E' Tryz.f190 false [] [12,101] []) [true,true,true,true,true] Vm:=U' Tryz.func190

end Go.Am.To

/-
 Uw: pV functions as texts.
-/
namespace Go.Am.To
open Go.Proofs

noncomputable def u15:U:=aX [.dU (.br 2 y0),.call 38 y4 [pz 2 y0,y1,ki 60,y2,y3] [true],.ev (N' y5)] (.ite y6 (.ret (C' (C' (.const (.a_ [])) (ki 2)) y4)) (aX [.call 39 y4 [pz 2 y0,y1,y2,y3] [true]] (.ret (C' (C' y7 (ki 0)) y4))))
theorem adf:dW Tryz.prog 15 .plain (E' Tryz.f15 true [] [] []) [false,true,true,true] u15:=U' Tryz.func15

noncomputable def u16:U:=aX [.dU (.br 2 y0),.call 40 y3 [pz 2 y0] [true],.ev (X' .neq y4 (ki 0)),.chain true y5 (aX [.dU (q' 0 y0),.ev (M' (q' 0 y0) (ki 1)),.call 41 y3 [y1,ki 0,y6] [true],.ev (N' y7)] (.ret y8)),.chain true y6 (aX [.call 41 y3 [y2,ki 0,ki 100000] [true],.ev (N' y7)] (.ret y8))] (.ite y7 (.ret (C' (C' (.const (.a_ [])) (ki 2)) y3)) (aX [.call 42 y3 [pz 2 y0,y1,y2] [true]] (.ret (C' (C' y8 (ki 0)) y3))))
theorem ade:dW Tryz.prog 16 .plain (E' Tryz.f16 true [] [] []) [false,true,true] u16:=U' Tryz.func16

noncomputable def u38:U:=aX [.ev (.dL (.br 2 y0)),.ev (.ld true 2 y5 y6),.call 40 y5 [y7] [true],.ev (X' .neq y8 (ki 0)),.chain true y9 (aX [.ev (.bD y1),.ev (X' .gtr y10 y2)] (.ret y11)),.chain true y10 (aX [.ev (.bD y3),.ev (X' .gtr y11 (ki 100))] (.ret y12)),.chain true y11 (aX [.call 41 y5 [y4,ki 0,ki 100000] [true],.ev (N' y12)] (.ret y13))] (.ite y12 (.ret (C' (kb false) y5)) (aX [.ev (.dO 76 .ai (.ah y6 .ai)),.call 75 y5 [y1,y13] [true]] (.ite y14 (.ret (C' (kb false) y5)) (aX [.ev (.dO 79 .ai (.ah y6 .ai)),.call 78 y5 [y3,y15] [true],.ev (N' y16)] (.ret (C' y17 y5))))))
theorem ac9:dW Tryz.prog 38 .plain (E' Tryz.f38 true [] [] []) [false,true,true,true,true] u38:=U' Tryz.func38

noncomputable def u40:U:=aX [.dU (.br 2 y0),.call 41 y1 [q' 0 y0,ki 1,ki 200] [true],.ev (N' y2),.chain true y3 (aX [.dU (q' 1 y0),.ev (.bD (q' 1 y0)),.ev (X' .gtr y4 (ki 1000))] (.ret y5))] (.ite y4 (.ret (C' (ki 2) y1)) (aX [.ev (.bD (q' 1 y0)),.join 0 0 (.loop 1 [ki 0] (aX [.ev (X' .lss y6 y5)] (.ite y7 (aX [.join 2 0 (aX [.ev (.av 4 (q' 1 y0) y6),.ev (.ld true 4 y1 y8),.dU (.br 4 y9),.ev (M' (q' 0 y0) (ki 1)),.call 41 y1 [q' 0 y9,ki 0,y10] [true],.ev (N' y11),.chain true y12 (aX [.dU (q' 1 y9),.dU (q' 0 y0),.ev (M' (q' 0 y0) (ki 1)),.call 41 y1 [q' 1 y9,ki 0,y13] [true],.ev (N' y14)] (.ret y15)),.chain true y13 (aX [.dU (q' 0 y9),.dU (q' 1 y9),.ev (Q' (q' 0 y9) (q' 1 y9))] (.ret y14)),.chain true y14 (aX [.dU (q' 2 y9),.call 41 y1 [q' 2 y9,ki 1,ki 10000] [true],.ev (N' y15)] (.ret y16)),.chain true y15 (aX [.dU (q' 3 y9),.ev (.bD (q' 3 y9)),.ev (X' .gtr y16 (ki 20))] (.ret y17))] (.ite y16 (.ret (C' (ki 2) y1)) (aX [.ev (.bD (q' 3 y9)),.join 3 3 (.loop 4 [ki (-1),ki 0] (aX [.ev (X' .lss y19 y17)] (.ite y20 (aX [.join 5 1 (aX [.ev (.av 2 (q' 3 y9) y19),.ev (.ld true 2 y1 y21),.dU (.br 2 y22),.ev (X' .leq (q' 0 y22) y18),.chain true y23 (aX [.dU (q' 0 y22),.ev (X' .lss (q' 0 y22) (ki 0))] (.ret y24)),.chain true y24 (aX [.dU (q' 0 y22),.dU (q' 1 y22),.ev (X' .geq (q' 0 y22) (q' 1 y22))] (.ret y25)),.chain true y25 (aX [.dU (q' 1 y22),.ev (X' .gtr (q' 1 y22) (ki 100000))] (.ret y26))] (.ite y26 (.ret (C' (ki 2) y1)) (.jump 5 [q' 1 y22] [q' 0 y22,q' 1 y22,q' 0 y22,q' 1 y22]))),.ev (P' y19 (ki 1))] (.jump 4 [y21,y22] [])) (.jump 3 [y18,y19,y20] []))))] (.jump 2 [] [q' 0 y9,q' 3 y9,q' 0 y9,q' 1 y9,q' 2 y9,q' 3 y9])))),.ev (P' y6 (ki 1))] (.jump 1 [y8] [])) (.jump 0 [] []))))] (.ret (C' (ki 0) y1))))
theorem ac6:dW Tryz.prog 40 .plain (E' Tryz.f40 true [] [] []) [false] u40:=U' Tryz.func40

noncomputable def u41:U:=aX [.ev (X' .geq y0 y1),.chain false y4 (aX [.ev (X' .leq y0 y2)] (.ret y5))] (.ret (C' y5 y3))
theorem ac5:dW Tryz.prog 41 .plain (E' Tryz.f41 true [] [] []) [true,true,true] u41:=U' Tryz.func41

noncomputable def u75:U:=aX [.call 137 y2 [y0,y1] [true],.ev (X' .geq y3 (ki 0))] (.ret (C' y4 y2))
theorem ac0:dW Tryz.prog 75 .plain (E' Tryz.f75 true [] [] []) [true,true] u75:=U' Tryz.func75

noncomputable def u76:U:=aX [.dU (.br 4 y0),.dU (p' 0 y1),.ev (l' y2 (p' 0 y1)),.ev (M' y3 (ki 1)),.call 41 y2 [q' 0 y0,ki 0,y4] [true],.ev (N' y5),.chain true y6 (aX [.dU (q' 1 y0),.call 77 y2 [q' 1 y0] [true],.ev (N' y7)] (.ret y8)),.chain true y7 (aX [.dU (q' 2 y0),.dU (q' 3 y0),.call 41 y2 [q' 2 y0,ki 0,q' 3 y0] [true],.ev (N' y8)] (.ret y9)),.chain true y8 (aX [.dU (q' 3 y0),.ev (X' .gtr (q' 3 y0) (ki 100000))] (.ret y9))] (.ret (C' y9 y2))
theorem acZ:dW Tryz.prog 76 .plain (E' Tryz.f76 true [] [] []) [false,true] u76:=U' Tryz.func76

noncomputable def u77:U:=aX [.call 41 y1 [y0,ki 0,ki 65535] [true]] (.ret (C' y2 y1))
theorem acY:dW Tryz.prog 77 .plain (E' Tryz.f77 true [] [] []) [true] u77:=U' Tryz.func77

noncomputable def u78:U:=aX [.call 138 y2 [y0,y1] [true],.ev (X' .geq y3 (ki 0))] (.ret (C' y4 y2))
theorem acX:dW Tryz.prog 78 .plain (E' Tryz.f78 true [] [] []) [true,true] u78:=U' Tryz.func78

noncomputable def u79:U:=aX [.dU (.br 3 y0),.dU (p' 0 y1),.ev (l' y2 (p' 0 y1)),.ev (M' y3 (ki 1)),.call 41 y2 [q' 0 y0,ki 0,y4] [true],.ev (N' y5),.chain true y6 (aX [.dU (q' 1 y0),.call 77 y2 [q' 1 y0] [true],.ev (N' y7)] (.ret y8)),.chain true y7 (aX [.dU (q' 2 y0),.call 41 y2 [q' 2 y0,ki 0,ki 10000] [true],.ev (N' y8)] (.ret y9))] (.ret (C' y8 y2))
theorem acW:dW Tryz.prog 79 .plain (E' Tryz.f79 true [] [] []) [false,true] u79:=U' Tryz.func79

noncomputable def u84:U:=aX [.dU (.br 4 y0),.ev (.bD (q' 3 y0)),.join 0 1 (.loop 1 [y1,ki 0] (aX [.ev (X' .lss y5 y3)] (.ite y6 (aX [.join 2 1 (aX [.ev (.av 2 (q' 3 y0) y5),.ev (.ld true 2 y2 y7),.dU (.br 2 y8),.ev (P' y4 (q' 2 y0)),.ev (X' .gtr y9 (q' 0 y8)),.chain false y10 (aX [.dU (q' 1 y8),.ev (X' .lss y4 (q' 1 y8))] (.ret y11)),.Pg y11 [q' 1 y8] [y4]] (.jump 2 [y12] [q' 0 y8,q' 0 y8,q' 1 y8])),.ev (P' y5 (ki 1))] (.jump 1 [y7,y8] [])) (.jump 0 [y4] []))))] (.ret (C' y4 y2))
theorem acR:dW Tryz.prog 84 .plain (E' Tryz.f84 true [] [] []) [false,true] u84:=U' Tryz.func84

noncomputable def Vx:U:=aX [.ev (.bD y0),.join 0 0 (.loop 1 [ki 0] (aX [.ev (X' .lss y4 y3)] (.ite y5 (aX [.join 2 0 (aX [.ev (.av 4 y0 y4),.ev (.ld true 4 y2 y6),.ey y1 y2 [y7] [true]] (.ite y8 (.ret (C' y4 y2)) (.jump 2 [] []))),.ev (P' y4 (ki 1))] (.jump 1 [y6] [])) (.jump 0 [] []))))] (.ret (C' (ki (-1)) y2))
theorem Xr:dW Tryz.prog 137 .plain (E' Tryz.f137 true [] [] []) [true,true] Vx:=U' Tryz.func137

noncomputable def Vw:U:=aX [.ev (.bD y0),.join 0 0 (.loop 1 [ki 0] (aX [.ev (X' .lss y4 y3)] (.ite y5 (aX [.join 2 0 (aX [.ev (.av 3 y0 y4),.ev (.ld true 3 y2 y6),.ey y1 y2 [y7] [true]] (.ite y8 (.ret (C' y4 y2)) (.jump 2 [] []))),.ev (P' y4 (ki 1))] (.jump 1 [y6] [])) (.jump 0 [] []))))] (.ret (C' (ki (-1)) y2))
theorem Xq:dW Tryz.prog 138 .plain (E' Tryz.f138 true [] [] []) [true,true] Vw:=U' Tryz.func138

noncomputable def Vo:U:=aX [.ev (.dL (.br 4 y0)),.ev (.fK 3 1 y2 (j' (z' y1) .nil)),.dU (p' 3 y3),.ev (l' y4 (p' 3 y3)),.call 217 y4 [y5] [true],.join 0 1 (aX [.lZ y6 y4 [0,1,2,3,4,7,8,9] [y0,y1,y3,.aC y2,ki 0,p' 3 y3,y5,y6] 2 1 (aX [.ev (.fK 183 2 y7 (.const (.agg [.v (.int .i64 0),.v (.int .i64 0)]))),.ev (.eY 2 y10 (.aC y7) y9),.join 2 1 (aX [.ev (l' y11 (.aC y2)),.dU (p' 2 y3),.ev (l' y11 (p' 2 y3)),.ev (P' y12 y13),.ev (p' 0 (.aC y7)),.ev (l' y11 y15),.ev (X' .gtr y14 y16),.chain false y17 (aX [.ev (l' y11 (.aC y2)),.ev (p' 1 (.aC y7)),.ev (l' y11 y19),.ev (X' .lss y18 y20)] (.ret y21)),.join 3 1 (.ite y18 (aX [.ev (p' 0 (.aC y7)),.ev (l' y11 y19),.dU (p' 2 y3),.ev (l' y11 (p' 2 y3)),.ev (M' y20 y21),.ev (.eY 1 y11 (.aC y2) y22)] (.jump 3 [y23] [])) (.jump 3 [y11] []))] (.jump 2 [y19] []))] (.jump 1 [y12] []))] (.jump 0 [y7] [])),.ev (l' y7 (.aC y2))] (.ret (C' y8 y7))
theorem Xi:dW Tryz.prog 184 .plain (E' Tryz.f184 false [] [] []) [false,true] Vo:=U' Tryz.func184

noncomputable def Vl:U:=aX [.ev (.dL (j' (z' y0) .nil)),.ev (.dO 258 .ai (.ah y2 .ai))] (.ret (C' y3 y1))
theorem Xf:dW Tryz.prog 217 .plain (E' Tryz.f217 true [] [] []) [true] Vl:=U' Tryz.func217

noncomputable def Vk:U:=aX [.ev (l' y2 y1),.ev (.bD y3),.ev (M' y4 (ki 1)),.join 0 1 (.loop 1 [y5,y2] (aX [.ev (X' .geq y6 (ki 0))] (.ite y8 (aX [.join 2 1 (aX [.ev (l' y7 y1),.ev (.av 2 y9 y6),.ev (.ld true 2 y7 y10),.gen (.dA [] y0 y7 [y6,y11] [true]),.ev (N' (s' y12))] (.ite y13 (.ret (C' .ai (t' y12))) (.jump 2 [t' y12] [s' y12]))),.ev (M' y6 (ki 1))] (.jump 1 [y10,y9] [])) (.jump 0 [y7] []))))] (.ret (C' .ai y6))
theorem Xe:dW Tryz.prog 258 .plain (E' Tryz.f258 false [1000017] [] []) [true,true] Vk:=U' Tryz.func258

end Go.Am.To

/-
 Roads with closings: when they can be entered;ways forward and backward.
-/
namespace Go.Am.To

structure Rd where
 src:Int
 dst:Int
 secs:Int
 cls:List (Int×Int)
 deriving DecidableEq,Inhabited

def fwd (k s:Int)(c:Int×Int):Int:=if s+k > c.1∧s<c.2 then c.2 else s
def bwd (k s:Int)(c:Int×Int):Int:=if s+k > c.1∧s<c.2 then c.1-k else s
def E2 (r:Rd)(s:Int):Int:=r.cls.foldl (fwd r.secs) s
def GM (r:Rd)(s:Int):Int:=r.cls.reverse.foldl (bwd r.secs) s

def Ord (cls:List (Int×Int)):Prop:=cls.Pairwise (fun c d=>c.2<d.1)∧∀c∈cls,0≤c.1∧c.1<c.2∧c.2≤100000

def QI (k x:Int)(cls:List (Int×Int)):Prop:=∀c∈cls,x+k≤c.1∨c.2≤x

theorem TU {k s:Int}{c:Int×Int}:s≤fwd k s c:=by unfold fwd;split <;> omega
theorem kX {k:Int}:∀(cls:List (Int×Int)) (s:Int),s≤cls.foldl (fwd k) s
 | [],s=>Int.le_refl _
 | c :: l,s=>Int.le_trans TU (kX l _)

theorem Bt {k x:Int}:∀(cls:List (Int×Int)) (s:Int),QI k x cls→s≤x→cls.foldl (fwd k) s≤x
 | [],s,_,h=>h
 | c :: l,s,hf,h=>by
  refine Bt l _ (fun d hd=>hf d (List.mem_cons_of_mem _ hd)) ?_
  have:=hf c (List.mem_cons_self ..)
  unfold fwd
  split <;> omega

theorem EN {k:Int}:∀(cls:List (Int×Int)) (s:Int),(∀c∈cls,s+k≤c.1)→cls.foldl (fwd k) s=s
 | [],s,_=>rfl
 | c :: l,s,h=>by
  have h1:=h c (List.mem_cons_self ..)
  have:fwd k s c=s:=by unfold fwd;rw[if_neg (by omega)]
  rw[List.foldl_cons,this]
  exact EN l s fun d hd=>h d (List.mem_cons_of_mem _ hd)

theorem EO {k:Int}:∀(cls:List (Int×Int)) (s:Int),Ord cls→QI k (cls.foldl (fwd k) s) cls
 | [],s,_=>fun c hc=>by cases hc
 | c :: l,s,ho=>by
  have h1:=List.pairwise_cons.1 ho.1
  have h2:=ho.2 c (List.mem_cons_self ..)
  have ho':Ord l:=⟨h1.2,fun d hd=>ho.2 d (List.mem_cons_of_mem _ hd)⟩
  intro d hd
  rcases B0t.1 hd with rfl | hd
  ·rw[List.foldl_cons]
   by_cases h:s+k≤d.1
   ·left
    have e:fwd k s d=s:=by unfold fwd;rw[if_neg (by omega)]
    rw[e,EN l s (fun x hx=>by have:=h1.1 x hx;have:=ho.2 x (List.mem_cons_of_mem _ hx);omega)]
    exact h
   ·right
    refine Int.le_trans ?_ (kX l _)
    unfold fwd
    split <;> omega
  ·exact EO l _ ho' d hd

theorem Of {k s:Int}{c:Int×Int}:bwd k s c≤s:=by unfold bwd;split <;> omega

theorem zZ {k:Int}:∀(cls:List (Int×Int)) (s:Int),Ord cls→QI k (cls.reverse.foldl (bwd k) s) cls∧cls.reverse.foldl (bwd k) s≤s∧∀x,QI k x cls→x≤s→x≤cls.reverse.foldl (bwd k) s
 | [],s,_=>⟨fun c hc=>(by cases hc),Int.le_refl _,fun _ _ h=>h⟩
 | c :: l,s,ho=>by
  have h1:=List.pairwise_cons.1 ho.1
  have h2:=ho.2 c (List.mem_cons_self ..)
  obtain⟨g1,g2,g3⟩:=zZ (k:=k) l s ⟨h1.2,fun d hd=>ho.2 d (List.mem_cons_of_mem _ hd)⟩
  have e:(c :: l).reverse.foldl (bwd k) s=bwd k (l.reverse.foldl (bwd k) s) c:=by simp[List.foldl_append]
  rw[e]
  generalize l.reverse.foldl (bwd k) s=z at g1 g2 g3
  refine⟨fun d hd=>?_,Int.le_trans Of g2,fun x hx hs=>?_⟩
  ·rcases B0t.1 hd with rfl | hd
   ·unfold bwd;split <;> omega
   ·have g4:=g1 d hd
    have:=h1.1 d hd
    have:=ho.2 d (List.mem_cons_of_mem _ hd)
    unfold bwd;split <;> omega
  ·have g4:=g3 x (fun d hd=>hx d (List.mem_cons_of_mem _ hd)) hs
   have:=hx c (List.mem_cons_self ..)
   unfold bwd;split <;> omega

theorem CP {k:Int}:∀(cls:List (Int×Int)) (s:Int),(∀c∈cls,c.2≤100000)→cls.foldl (fwd k) s≤max s 100000
 | [],s,_=>by simp;omega
 | c :: l,s,h=>by
  have:=CP (k:=k) l (fwd k s c) fun d hd=>h d (List.mem_cons_of_mem _ hd)
  have h1:=h c (List.mem_cons_self ..)
  have:fwd k s c≤max s 100000:=by unfold fwd;split <;> omega
  rw[List.foldl_cons]
  omega

theorem C4 {k:Int}(hk:k≤10000):∀(cls:List (Int×Int)) (s:Int),(∀c∈cls,0≤c.1)→min s (-10000)≤cls.foldl (bwd k) s
 | [],s,_=>by simp;omega
 | c :: l,s,h=>by
  have:=C4 hk l (bwd k s c) fun d hd=>h d (List.mem_cons_of_mem _ hd)
  have h1:=h c (List.mem_cons_self ..)
  have:min s (-10000)≤bwd k s c:=by unfold bwd;split <;> omega
  rw[List.foldl_cons]
  omega

structure Rd.ok (n:Nat)(r:Rd):Prop where
 src:0≤r.src∧r.src<n
 dst:0≤r.dst∧r.dst<n
 secs:1≤r.secs∧r.secs≤10000
 ord:Ord r.cls
 len:r.cls.length≤20

section
variable {n:Nat} {r:Rd}
theorem Hy (s:Int):s≤E2 r s:=kX _ _
theorem Ms (h:r.ok n)(s:Int):GM r s≤s:=(zZ _ s h.ord).2.1
theorem Je (h:r.ok n)(s:Int):E2 r s≤max s 100000:=CP _ _ fun c hc=>(h.ord.2 c hc).2.2
theorem IM (h:r.ok n)(s:Int):min s (-10000)≤GM r s:=C4 h.secs.2 _ _ fun c hc=>(h.ord.2 c (List.mem_reverse.1 hc)).1

theorem qD (h:r.ok n){s e:Int}:E2 r s≤e↔s≤GM r e:=by
 have hf:=EO (k:=r.secs) r.cls s h.ord
 obtain⟨g1,g2,g3⟩:=zZ (k:=r.secs) r.cls e h.ord
 constructor
 ·intro h1
  exact Int.le_trans (Hy s) (g3 _ hf h1)
 ·intro h1
  exact Int.le_trans (Bt _ _ g1 h1) g2

theorem NX (h:r.ok n){s t:Int}(hst:s≤t):E2 r s≤E2 r t:=(qD h).2 (Int.le_trans hst ((qD h).1 (Int.le_refl _)))
theorem Mr (h:r.ok n){s t:Int}(hst:s≤t):GM r s≤GM r t:=(qD h).1 (Int.le_trans ((qD h).2 (Int.le_refl _)) hst)
end

inductive mQ (nx:Int→Int→List (Int×Int)) (s:Int×Int):Int→Int→Prop
 | base:mQ nx s s.1 s.2
 | step {u a:Int} {y:Int×Int} (h:mQ nx s u a) (hy:y∈nx u a):mQ nx s y.1 y.2

def Bc (rs:List Rd)(u a:Int):List (Int×Int):=(rs.filter fun r=>r.src==u).map fun r=>(r.dst,E2 r a+r.secs)
def Gm (rs:List Rd)(u a:Int):List (Int×Int):=(rs.filter fun r=>r.dst==u).map fun r=>(r.src,-GM r (-a-r.secs))

theorem qu {rs:List Rd}{u a:Int}{y:Int×Int}:y∈Bc rs u a↔∃r∈rs,r.src=u∧y=(r.dst,E2 r a+r.secs):=by
 simp only[Bc,B0r,List.mem_filter,beq_iff_eq,and_assoc]
 exact⟨fun⟨r,h1,h2,h3⟩=>⟨r,h1,h2,h3.symm⟩,fun⟨r,h1,h2,h3⟩=>⟨r,h1,h2,h3.symm⟩⟩
theorem wN {rs:List Rd}{u a:Int}{y:Int×Int}:y∈Gm rs u a↔∃r∈rs,r.dst=u∧y=(r.src,-GM r (-a-r.secs)):=by
 simp only[Gm,B0r,List.mem_filter,beq_iff_eq,and_assoc]
 exact⟨fun⟨r,h1,h2,h3⟩=>⟨r,h1,h2,h3.symm⟩,fun⟨r,h1,h2,h3⟩=>⟨r,h1,h2,h3.symm⟩⟩

structure Ie (n:Nat)(nx:Int→Int→List (Int×Int)):Prop where
 node:∀u a y,y∈nx u a→0≤y.1∧y.1<n
 up:∀u a y,y∈nx u a→a<y.2∧y.2≤max a 100000+10000
 mono:∀u a a' y',a≤a'→y'∈nx u a'→∃y∈nx u a,y.1=y'.1∧y.2≤y'.2

theorem Gk {n:Nat}{rs:List Rd}(h:∀r∈rs,r.ok n):Ie n (Bc rs):=by
 refine⟨fun u a y hy=>?_,fun u a y hy=>?_,fun u a a' y' haa hy=>?_⟩ <;> obtain⟨r,hr,hu,rfl⟩:=qu.1 hy <;> have hk:=h r hr
 ·exact hk.dst
 ·have:=Hy (r:=r) a;have:=Je hk a;have:=hk.secs
  simp only;omega
 ·refine⟨_,qu.2 ⟨r,hr,hu,rfl⟩,rfl,?_⟩
  have:=NX hk haa
  simp only;omega

theorem Gl {n:Nat}{rs:List Rd}(h:∀r∈rs,r.ok n):Ie n (Gm rs):=by
 refine⟨fun u a y hy=>?_,fun u a y hy=>?_,fun u a a' y' haa hy=>?_⟩ <;> obtain⟨r,hr,hu,rfl⟩:=wN.1 hy <;> have hk:=h r hr
 ·exact hk.src
 ·have:=Ms hk (-a-r.secs);have:=IM hk (-a-r.secs);have:=hk.secs
  simp only;omega
 ·refine⟨_,wN.2 ⟨r,hr,hu,rfl⟩,rfl,?_⟩
  have:=Mr hk (show -a'-r.secs≤-a-r.secs by omega)
  simp only;omega

theorem mQ.ge {n:Nat}{nx:Int→Int→List (Int×Int)}(hn:Ie n nx){s:Int×Int}{v b:Int}(h:mQ nx s v b):s.2≤b:=by
 induction h with
 | base=>exact Int.le_refl _
 | step _ hy ih=>have:=(hn.up _ _ _ hy).1;omega

theorem mQ.cons {rs:List Rd}{r:Rd}(hr:r∈rs){t v a:Int}(h:mQ (Bc rs) (r.dst,E2 r t+r.secs) v a):mQ (Bc rs) (r.src,t) v a:=by
 induction h with
 | base=>exact .step (y:=(r.dst,E2 r t+r.secs)) .base (qu.2 ⟨r,hr,rfl,rfl⟩)
 | step _ hy ih=>exact .step ih hy

theorem QA {n:Nat}{rs:List Rd}(h:∀r∈rs,r.ok n){u t z e:Int}{v a:Int}(hw:mQ (Bc rs) (u,t) v a):∀b,mQ (Gm rs) (z,e) v b→a≤-b→∃b',mQ (Gm rs) (z,e) u b'∧t≤-b':=by
 induction hw with
 | base=>exact fun b hb hab=>⟨b,hb,hab⟩
 | step _ hy ih=>
  intro b hb hab
  obtain⟨r,hr,hu,rfl⟩:=qu.1 hy
  subst hu
  refine ih _ (.step (y:=(r.src,-GM r (-b-r.secs))) hb (wN.2 ⟨r,hr,rfl,rfl⟩)) ?_
  rw[Int.neg_neg]
  exact(qD (h r hr)).1 (by simp only at hab;omega)

theorem Qh {n:Nat}{rs:List Rd}(h:∀r∈rs,r.ok n){z e:Int}{u b:Int}(hw:mQ (Gm rs) (z,e) u b):∀t,t≤-b→∃a,mQ (Bc rs) (u,t) z a∧a≤-e:=by
 induction hw with
 | base=>exact fun t ht=>⟨t,.base,ht⟩
 | step _ hy ih=>
  intro t ht
  obtain⟨r,hr,hu,rfl⟩:=wN.1 hy
  simp only[Int.neg_neg] at ht
  have:=(qD (h r hr)).2 ht
  obtain⟨a,h1,h2⟩:=ih (E2 r t+r.secs) (by omega)
  exact⟨a,.cons hr (hu ▸ h1),h2⟩

theorem mQ.later {n:Nat}{nx:Int→Int→List (Int×Int)}(hn:Ie n nx){u t t' v a':Int}(ht:t≤t')(h:mQ nx (u,t') v a'):∃a,mQ nx (u,t) v a∧a≤a':=by
 induction h with
 | base=>exact⟨t,.base,ht⟩
 | step _ hy ih=>
  obtain⟨a,h1,h2⟩:=ih
  obtain⟨y,g1,g2,g3⟩:=hn.mono _ _ _ _ h2 hy
  exact⟨y.2,g2 ▸ .step h1 g1,g3⟩

end Go.Am.To

/-
 A search: labels get better until none does.
-/
namespace Go.Am.To

abbrev inf:Int:=9223372036854775807

def gt (out:List Int)(v:Int):Int:=out.getD v.toNat 0

theorem NB {out:List Int}{u v a:Int}(hu:0≤u∧u<out.length)(hv:0≤v):gt (out.set u.toNat a) v=if v=u then a else gt out v:=by
 unfold gt
 rw[A0i,A0i,A0x]
 by_cases h:v=u
 ·subst h
  rw[if_pos rfl,if_pos rfl,if_pos (by omega)]
  rfl
 ·rw[if_neg (by omega),if_neg h]

def fin (out:List Int):Nat:=out.countP (fun a=>decide (a<inf))

theorem Ht (out:List Int):fin out≤out.length:=List.countP_le_length

theorem Jd:∀(out:List Int) (k:Nat) (a:Int),k<out.length→a<inf→(out.getD k 0<inf→fin (out.set k a)=fin out)∧(¬out.getD k 0<inf→fin (out.set k a)=fin out+1)
 | [],k,a,h,_=>by simp at h
 | x :: r,0,a,_,ha=>by
  simp only[List.set_cons_zero,fin,List.countP_cons,List.getD_cons_zero]
  constructor <;> intro h <;> simp[h,ha]
 | x :: r,k+1,a,h,ha=>by
  have:=Jd r k a (by simpa using h) ha
  simp only[List.set_cons_succ,fin,List.countP_cons,List.getD_cons_succ] at this ⊢
  constructor <;> intro h1
  ·rw[this.1 h1]
  ·rw[this.2 h1];omega

def JH (lo:Int):List Int→Nat
 | []=>0
 | a :: r=>(min a 3000000-lo).toNat+JH lo r

theorem IC {lo a:Int}(ha:lo≤a∧a<3000000):∀(out:List Int) (k:Nat),k<out.length→a<out.getD k 0→JH lo (out.set k a)+1≤JH lo out
 | [],k,h,_=>by simp at h
 | x :: r,0,_,h=>by
  simp only[List.getD_cons_zero] at h
  simp only[List.set_cons_zero,JH]
  omega
 | x :: r,k+1,h,h1=>by
  have:=IC ha r k (by simpa using h) (by simpa using h1)
  simp only[List.set_cons_succ,JH]
  omega

theorem LY {lo:Int}(h:-200000≤lo):∀out:List Int,JH lo out≤3200000*out.length
 | []=>by simp[JH]
 | x :: r=>by
  have:=LY h r
  simp only[JH,List.length_cons]
  omega

def BE (out:List Int):Int:=100000+10000*(fin out:Int)

section
variable {n:Nat} {nx:Int→Int→List (Int×Int)} {s:Int×Int}

structure SI (n:Nat)(nx:Int→Int→List (Int×Int))(s:Int×Int)(x:Int×Int)(dn:List (Int×Int))(out:List Int)(q:List (Int×Int)):Prop where
 len:out.length=n
 Sl:∀v:Int,0≤v→v<n→gt out v<inf→mQ nx s v (gt out v)
 top:∀v:Int,0≤v→v<n→gt out v≤inf
 qs:∀y∈q,0≤y.1∧y.1<n∧mQ nx s y.1 y.2∧gt out y.1≤y.2∧y.2≤BE out
 st:gt out s.1≤s.2
 cl:∀v:Int,0≤v→v<n→gt out v<inf→(v,gt out v)∈q∨((v,gt out v)=x∧∀y∈dn,gt out y.1≤y.2)∨∀y∈nx v (gt out v),gt out y.1≤y.2
 bd:∀v:Int,0≤v→v<n→gt out v<inf→gt out v≤BE out
 UZ:∀y∈dn,0≤y.1

abbrev SQ (n:Nat)(nx:Int→Int→List (Int×Int))(s:Int×Int)(out:List Int)(q:List (Int×Int)):Prop:=SI n nx s (-1,0) [] out q

variable {x:Int×Int} {dn:List (Int×Int)} {out:List Int} {q q':List (Int×Int)}

theorem SI.perm (h:SI n nx s x dn out q)(hq:∀y,y∈q'↔y∈q):SI n nx s x dn out q':=
 ⟨h.len,h.Sl,h.top,fun y hy=>h.qs y ((hq y).1 hy),h.st,fun v h0 h1 h2=>(h.cl v h0 h1 h2).imp (fun h3=>(hq _).2 h3) id,h.bd,h.UZ⟩

theorem SQ.VE (h:SQ n nx s out (x :: q))(hx:gt out x.1<x.2):SQ n nx s out q:=by
 refine⟨h.len,h.Sl,h.top,fun y hy=>h.qs y (List.mem_cons_of_mem _ hy),h.st,fun v h0 h1 h2=>?_,h.bd,h.UZ⟩
 rcases h.cl v h0 h1 h2 with h3 | h3 | h3
 ·rcases B0t.1 h3 with h4 | h4
  ·subst h4
   simp only at hx
   omega
  ·exact .inl h4
 ·have:=congrArg Prod.fst h3.1
  simp only at this
  omega
 ·exact .inr (.inr h3)

theorem SQ.take (h:SQ n nx s out (x :: q))(hx:gt out x.1=x.2):SI n nx s x [] out q:=by
 refine⟨h.len,h.Sl,h.top,fun y hy=>h.qs y (List.mem_cons_of_mem _ hy),h.st,fun v h0 h1 h2=>?_,h.bd,h.UZ⟩
 rcases h.cl v h0 h1 h2 with h3 | h3 | h3
 ·rcases B0t.1 h3 with h4 | h4
  ·exact .inr (.inl ⟨h4,fun y hy=>by cases hy⟩)
  ·exact .inl h4
 ·have:=congrArg Prod.fst h3.1
  simp only at this
  omega
 ·exact .inr (.inr h3)

theorem SI.done (h:SI n nx s x (nx x.1 x.2) out q):SQ n nx s out q:=by
 refine⟨h.len,h.Sl,h.top,h.qs,h.st,fun v h0 h1 h2=>?_,h.bd,fun _ h=>(by cases h)⟩
 rcases h.cl v h0 h1 h2 with h3 | ⟨h3,h4⟩ | h3
 ·exact .inl h3
 ·subst h3
  exact .inr (.inr h4)
 ·exact .inr (.inr h3)

variable {y:Int×Int}

theorem SI.skip (h:SI n nx s x dn out q)(hy0:0≤y.1)(hy:gt out y.1≤y.2):SI n nx s x (dn++[y]) out q:=by
 refine⟨h.len,h.Sl,h.top,h.qs,h.st,fun v h0 h1 h2=>?_,h.bd,fun z hz=>(B0p.1 hz).elim (h.UZ z) fun hz=>(by simp only[List.mem_singleton] at hz;rw[hz];exact hy0)⟩
 rcases h.cl v h0 h1 h2 with h3 | ⟨h3,h4⟩ | h3
 ·exact .inl h3
 ·refine .inr (.inl ⟨h3,fun z hz=>?_⟩)
  rcases B0p.1 hz with hz | hz
  ·exact h4 z hz
  ·simp only[List.mem_singleton] at hz
   exact hz ▸ hy
 ·exact .inr (.inr h3)

theorem SI.better (hn:Ie n nx)(hs0:0≤s.1)(h:SI n nx s x dn out q)(hx:mQ nx s x.1 x.2)(S4:x.2≤BE out)(PG:y∈nx x.1 x.2)(hy:y.2<gt out y.1)(hq:∀z,z∈q'↔z∈q∨z=y) :
  SI n nx s x (dn++[y]) (out.set y.1.toNat y.2) q'∧BE out≤BE (out.set y.1.toNat y.2)∧y.2<3000000+10000*n:=by
 obtain⟨y1,y2⟩:=hn.node _ _ _ PG
 obtain⟨y3,y4⟩:=hn.up _ _ _ PG
 have hr:mQ nx s y.1 y.2:=.step hx PG
 have hl:=h.len
 have hfl:=Ht out
 have hyi:y.2<inf:=by have:=h.top y.1 y1 y2;omega
 obtain⟨f1,f2⟩:=Jd out y.1.toNat y.2 (by omega) hyi
 have e:∀v,0≤v→gt (out.set y.1.toNat y.2) v=if v=y.1 then y.2 else gt out v:=fun v hv=>NB (by omega) hv
 have FI:BE out≤BE (out.set y.1.toNat y.2)∧y.2≤BE (out.set y.1.toNat y.2):=by
  by_cases hf:gt out y.1<inf
  ·have:=h.bd y.1 y1 y2 hf
   simp only[BE,f1 hf] at this ⊢
   omega
  ·have hf':=f2 hf
   simp only[BE] at S4 ⊢
   rw[hf']
   omega
 have hle:∀v,0≤v→gt (out.set y.1.toNat y.2) v≤gt out v:=by
  intro v hv
  rw[e v hv]
  split
  ·rename_i h0;subst h0;omega
  ·omega
 refine⟨⟨by rw[List.length_set];exact hl,fun v h0 h1 h2=>?_,fun v h0 h1=>Int.le_trans (hle v h0) (h.top v h0 h1),fun z hz=>?_,Int.le_trans (hle _ hs0) h.st,fun v h0 h1 h2=>?_,fun v h0 h1 h2=>?_,fun z hz=>(B0p.1 hz).elim (h.UZ z) fun hz=>(by simp only[List.mem_singleton] at hz;rw[hz];exact y1)⟩,FI.1,?_⟩
 ·rw[e v h0] at h2 ⊢
  split
  ·rename_i g;subst g;exact hr
  ·rename_i g
   rw[if_neg g] at h2
   exact h.Sl v h0 h1 h2
 ·rcases(hq z).1 hz with hz | rfl
  ·obtain⟨g1,g2,g3,g4,g5⟩:=h.qs z hz
   exact⟨g1,g2,g3,Int.le_trans (hle _ g1) g4,Int.le_trans g5 FI.1⟩
  ·exact⟨y1,y2,hr,by rw[e _ y1,if_pos rfl];exact Int.le_refl _,FI.2⟩
 ·by_cases g:v=y.1
  ·subst g
   rw[e _ h0,if_pos rfl]
   exact .inl ((hq _).2 (.inr rfl))
  ·have e1:gt (out.set y.1.toNat y.2) v=gt out v:=by rw[e v h0,if_neg g]
   rw[e1] at h2 ⊢
   rcases h.cl v h0 h1 h2 with h3 | ⟨h3,h4⟩ | h3
   ·exact .inl ((hq _).2 (.inl h3))
   ·refine .inr (.inl ⟨h3,fun z hz=>?_⟩)
    rcases B0p.1 hz with hz | hz
    ·exact Int.le_trans (hle _ (h.UZ z hz)) (h4 z hz)
    ·simp only[List.mem_singleton] at hz
     subst hz
     rw[e _ y1,if_pos rfl]
     exact Int.le_refl _
   ·exact .inr (.inr fun z hz=>Int.le_trans (hle _ (hn.node _ _ _ hz).1) (h3 z hz))
 ·by_cases g:v=y.1
  ·subst g
   rw[e _ h0,if_pos rfl]
   exact FI.2
  ·rw[e v h0,if_neg g] at h2 ⊢
   exact Int.le_trans (h.bd v h0 h1 h2) FI.1
 ·simp only[BE] at S4
  omega

def Lst (nx:Int→Int→List (Int×Int))(s:Int×Int)(v a:Int):Prop:=(a=inf∧∀b,¬mQ nx s v b)∨(a≤4000000∧mQ nx s v a∧∀b,mQ nx s v b→a≤b)

theorem SI.found (hn:Ie n nx)(hs:0≤s.1∧s.1<n)(jH:s.2≤100000)(h:SQ n nx s out [])(hn2:n≤200){v:Int}(h0:0≤v)(h1:v<n):Lst nx s v (gt out v):=by
 have Tr:inf=9223372036854775807:=rfl
 have hfl:=Ht out
 have hl:=h.len
 have hle:∀v b,mQ nx s v b→(0≤v∧v<n)∧gt out v≤b∧gt out v<inf:=by
  intro v b hv
  induction hv with
  | base=>exact⟨hs,h.st,by have:=h.st;omega⟩
  | @step u a y hu hy ih=>
   refine⟨hn.node _ _ _ hy,?_⟩
   obtain⟨y',g1,g2,g3⟩:=hn.mono _ _ _ _ ih.2.1 hy
   have hb:=h.bd u ih.1.1 ih.1.2 ih.2.2
   have IZ:=(hn.up _ _ _ g1).2
   simp only[BE] at hb
   rcases h.cl u ih.1.1 ih.1.2 ih.2.2 with h3 | h3 | h3
   ·cases h3
   ·have:=congrArg Prod.fst h3.1
    simp only at this
    have:=ih.1.1
    omega
   ·have:=h3 y' g1
    rw[g2] at this
    omega
 by_cases hf:gt out v<inf
 ·have hb:=h.bd v h0 h1 hf
  simp only[BE] at hb
  exact .inr ⟨by omega,h.Sl v h0 h1 hf,fun b hv=>(hle v b hv).2.1⟩
 ·have ht:=h.top v h0 h1
  exact .inl ⟨by omega,fun b hv=>hf (hle v b hv).2.2⟩

end
end Go.Am.To

/-
 Plans and cards,as Lean structures,and which aL are as defined.
-/
namespace Go.Am.Sc

structure Item where
 kind:Int
 FB:Int
 target:Int
 free:Bool
deriving Inhabited,DecidableEq

structure fU where
 items:List Item
 oR:Int
 late:Int
 early:Int
 wP:Int
 wQ:Int
 jumps:List Int
 ret:Bool
 Cb:Int
 pP:Int
 wK:Int
 power:Int
 points:List Int
 extra:List Int

structure wC where
 minute:Int
 time:Int
 jump:Bool
 mark:Int
deriving Inhabited,DecidableEq

structure nJ where
 cls:Int
 BS:List Int
 lines:List wC
deriving Inhabited

def gY (x lo hi:Int):Bool:=decide (lo≤x)&&decide (x≤hi)

def vn (l:List Int)(least most lo hi:Int):Bool:=l.all (fun x=>gY x lo hi)&&gY l.length least most

namespace fU
variable (p:fU)
def it (i:Nat):Item:=p.items.getD i default
def n:Nat:=p.items.length
def J0 (i:Nat):Bool:=(i==0||gY ((p.it i).FB-(p.it (i-1)).FB) 0 1)&&(decide ((p.it i).FB<6)&&((p.it i).kind==1&&gY (p.it i).target 0 1440||(p.it i).kind==2&&((p.it i).target==0&&!(p.it i).free)))
def CI:Bool:=gY p.n 1 100&&(gY p.oR 1 20&&(p.it 0).FB==0)
def oH:Bool:=(List.range p.n).all p.J0
def Iy:Bool:=gY p.late 0 36000000&&(gY p.early 0 36000000&&(gY p.Cb 0 36000000&&(gY p.wP 0 1440&&(gY p.wQ 0 1440&&vn p.jumps 1 10 0 36000000))))
def Mb:Bool:=(decide (1≤p.pP)&&decide (p.pP≤4))&&(gY p.wK 100 1000&&(gY p.power (-1) (p.n-1)&&(decide (p.power<0)||(p.it p.power.toNat).kind==2)))
def QU:Bool:=vn p.points 0 60 0 1000&&vn p.extra 0 60 0 1000
def ok:Bool:=p.CI&&(p.oH&&(p.Iy&&(p.Mb&&p.QU)))
end fU

def nJ.ln (c:nJ)(i:Nat):wC:=c.lines.getD i default

variable {p:fU} {c:nJ}

end Go.Am.Sc

/-
 Plans and cards as data.
-/
namespace Go.Am.Sc

abbrev I (n:Int):D:=.v (.int .i64 n)
abbrev B (b:Bool):D:=.v (.bool b)
abbrev Is (l:List Int):D:=.a_ (l.map I)
abbrev In (i:Nat):D:=I (i:Int)
abbrev Ix (l:List Nat):D:=.a_ (l.map In)

def i64 (n:Int):Prop:=-9223372036854775808≤n∧n<9223372036854775808

theorem ofI {ds:List D}(h:eW (.int .i64) ds):∃n,ds=[I n]∧i64 n:=by
 simp only[eW] at h
 obtain⟨n,h,h1,h2⟩:=h
 refine⟨n,h,?_⟩
 simp[IntKind.min,IntKind.max,IntKind.bits,IntKind.signed] at h1 h2
 exact⟨h1,by omega⟩

def Fz (l:List Int):Prop:=(∀x,x∈l→i64 x)∧l.length≤maxLen

def Item.cs (x:Item):List D:=[I x.kind,I x.FB,I x.target,B x.free]
def Item.d (x:Item):D:=.agg x.cs
def fU.cs (p:fU):List D:=[.a_ (p.items.map Item.d),I p.oR,I p.late,I p.early,I p.wP,I p.wQ,Is p.jumps,B p.ret,I p.Cb,I p.pP,I p.wK,I p.power,Is p.points,Is p.extra]
def fU.d (p:fU):D:=.agg p.cs
def wC.cs (l:wC):List D:=[I l.minute,I l.time,B l.jump,I l.mark]
def wC.d (l:wC):D:=.agg l.cs
def nJ.cs (c:nJ):List D:=[I c.cls,Is c.BS,.a_ (c.lines.map wC.d)]
def nJ.d (c:nJ):D:=.agg c.cs
abbrev Z3 (l:List nJ):D:=.a_ (l.map nJ.d)

structure Item.Ok (x:Item):Prop where
 kind:i64 x.kind
 FB:i64 x.FB
 target:i64 x.target

structure fU.Ok (p:fU):Prop where
 items:∀x,x∈p.items→x.Ok
 adk:p.items.length≤maxLen
 oR:i64 p.oR
 late:i64 p.late
 early:i64 p.early
 wP:i64 p.wP
 wQ:i64 p.wQ
 jumps:Fz p.jumps
 Cb:i64 p.Cb
 pP:i64 p.pP
 wK:i64 p.wK
 power:i64 p.power
 points:Fz p.points
 extra:Fz p.extra

structure wC.Ok (l:wC):Prop where
 minute:i64 l.minute
 time:i64 l.time
 mark:i64 l.mark

structure nJ.Ok (c:nJ):Prop where
 cls:i64 c.cls
 BS:Fz c.BS
 lines:∀x,x∈c.lines→x.Ok
 acN:c.lines.length≤maxLen

theorem cv {ds:List D}(h:∃n:Int,ds=[.v (.int .i64 n)]∧IntKind.i64.min≤n∧n≤IntKind.i64.max):∃n,ds=[I n]∧i64 n:=ofI (by simpa only[eW] using h)

theorem vB {α:Type}{d:α→D}{sh:Sh}{ok:α→Prop}(hd:∀{cs:List D},eW sh cs→∃a:α,.agg cs=d a∧ok a):∀{es:List D},(∀x,x∈es→∃cs,x=.agg cs∧eW sh cs)→∃xs:List α,es=xs.map d∧∀a,a∈xs→ok a
 | [],_=>⟨[],rfl,by simp⟩
 | e :: es,h=>by
  obtain⟨cs,rfl,h1⟩:=h e (by simp)
  obtain⟨a,ha,ho⟩:=hd h1
  obtain⟨xs,rfl,hx⟩:=vB hd (es:=es) fun x hx=>h x (by simp[hx])
  exact⟨a :: xs,by rw[ha];rfl,by simpa using⟨ho,hx⟩⟩

end Go.Am.Sc
