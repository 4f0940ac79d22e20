/-
  Several texts, one behind the other.
-/
import Derived.Test.YtcofohnmkmknbaaGreatDoorAmFntoAmTabK
import Derived.Test.YtcofohnmkmknbaaGreatDoorProg
set_option linter.unusedSimpArgs false
set_option linter.unusedVariables false
/-
 How Qiw functions of Qiw rally are read;Qiw library's table aiY every store Qqx with.
-/
namespace Go.Am.Rb
open Go.Proofs

abbrev y0 : E := .sym 0
abbrev y1 : E := .sym 1
abbrev y2 : E := .sym 2
abbrev y3 : E := .sym 3
abbrev y4 : E := .sym 4
abbrev y5 : E := .sym 5
abbrev y6 : E := .sym 6
abbrev y7 : E := .sym 7
abbrev y8 : E := .sym 8
abbrev y9 : E := .sym 9
abbrev y10 : E := .sym 10
abbrev y11 : E := .sym 11
abbrev y12 : E := .sym 12
abbrev y13 : E := .sym 13
abbrev y14 : E := .sym 14
abbrev y15 : E := .sym 15
abbrev y16 : E := .sym 16
abbrev y17 : E := .sym 17
abbrev y18 : E := .sym 18
abbrev y19 : E := .sym 19
abbrev y20 : E := .sym 20
abbrev y21 : E := .sym 21
abbrev y22 : E := .sym 22
abbrev y23 : E := .sym 23
abbrev y24 : E := .sym 24
abbrev y25 : E := .sym 25
abbrev y26 : E := .sym 26
abbrev y27 : E := .sym 27
abbrev y28 : E := .sym 28
abbrev y29 : E := .sym 29
abbrev y30 : E := .sym 30
abbrev y31 : E := .sym 31
abbrev y32 : E := .sym 32
abbrev y33 : E := .sym 33
abbrev y34 : E := .sym 34
abbrev y35 : E := .sym 35
abbrev y36 : E := .sym 36
abbrev y37 : E := .sym 37
abbrev y38 : E := .sym 38
abbrev y39 : E := .sym 39
abbrev y40 : E := .sym 40
abbrev y41 : E := .sym 41
abbrev y42 : E := .sym 42
abbrev y43 : E := .sym 43
abbrev y44 : E := .sym 44
abbrev y45 : E := .sym 45
abbrev y46 : E := .sym 46
abbrev y47 : E := .sym 47
abbrev y48 : E := .sym 48
abbrev y49 : E := .sym 49
abbrev y50 : E := .sym 50
abbrev y51 : E := .sym 51
abbrev y52 : E := .sym 52
abbrev y53 : E := .sym 53
abbrev y54 : E := .sym 54
abbrev y55 : E := .sym 55
abbrev y56 : E := .sym 56
abbrev y57 : E := .sym 57
abbrev y58 : E := .sym 58
abbrev y59 : E := .sym 59
abbrev y60 : E := .sym 60
abbrev y61 : E := .sym 61
abbrev y62 : E := .sym 62
abbrev y63 : E := .sym 63
abbrev y64 : E := .sym 64
abbrev y65 : E := .sym 65
abbrev y66 : E := .sym 66
abbrev y67 : E := .sym 67
abbrev y68 : E := .sym 68
abbrev y69 : E := .sym 69
abbrev y70 : E := .sym 70
abbrev y71 : E := .sym 71
abbrev y72 : E := .sym 72
abbrev y73 : E := .sym 73
abbrev y74 : E := .sym 74
abbrev y75 : E := .sym 75
abbrev y76 : E := .sym 76
abbrev y77 : E := .sym 77
abbrev y78 : E := .sym 78
abbrev y79 : E := .sym 79
abbrev y80 : E := .sym 80
abbrev y81 : E := .sym 81
abbrev y82 : E := .sym 82
abbrev y83 : E := .sym 83
abbrev y84 : E := .sym 84
abbrev y85 : E := .sym 85
abbrev y86 : E := .sym 86
abbrev y87 : E := .sym 87
abbrev y88 : E := .sym 88
abbrev y89 : E := .sym 89
abbrev y90 : E := .sym 90
abbrev y91 : E := .sym 91
abbrev y92 : E := .sym 92
abbrev y93 : E := .sym 93
abbrev y94 : E := .sym 94
abbrev y95 : E := .sym 95
abbrev y96 : E := .sym 96
abbrev y97 : E := .sym 97
abbrev y98 : E := .sym 98
abbrev y99 : E := .sym 99
def Qgy:List Nat:=[6,35,59,73,86,87,88,89,90,91,92,93,94,95,96,97,98,99,100,117,118,114,116,124,123,162,121,122,125,166,150,149,15,34,55,172,135,193,218,164,157,163]
def Qhq:List Nat:=[112,113,115,86,87,88,89,90,91,92,93,94,95,96,97,98,99,100,118,121,122,125,1000038]
abbrev l' (a b : E) : E := .ld false 1 a b
abbrev g' (a b : E) : Bind := .ev (.guard a true b)
abbrev f' (a b : E) : Bind := .ev (.guard a false b)
abbrev G' (a b : E) : E := .guard a true b
abbrev F' (a b : E) : E := .guard a false b
abbrev v' (a : E) : Bind := .ev a
abbrev t' (a : E) : E := .Qrx 1 a
abbrev s' (a : E) : E := .Qrx 0 a
abbrev p' (n : Nat) (a : E) : E := .ay n a
abbrev q' (n : Nat) (a : E) : E := .cell n a
abbrev C' (a b : E) : E := .aa a (.aa b .ax)
abbrev D' (a b c : E) : E := .aa a (.aa b (.aa c .ax))
abbrev R' (a b : E) : T := .ret (C' a b)
abbrev X' (o : BinOp) (a b : E) : E := .bin o .int a b
abbrev P' (a b : E) : E := .bin .add .int a b
abbrev M' (a b : E) : E := .bin .sub .int a b
abbrev Q' (a b : E) : E := .bin .eql .int a b
abbrev c' (f : Nat) (h : E) (l : List E) (r : List Bool) : Bind := .call [] f h l r
abbrev w' (f : Nat) (h : E) (l : List E) (r : List Bool) : Bind := .bQ [] f h l r
abbrev W' (l : List Bind) (t : T) : T := Qrz l t
abbrev Z' (a : Array UInt8) : E := .const (.v (.string ⟨a⟩))
abbrev k' (n : Int) : E := .const (.v (.int .u64 n))
abbrev K' (n : Int) : E := .const (.v (.int .u8 n))
abbrev m' (o : MOp) (a : E) : E := .m4 o a .nil .nil .nil
abbrev n' (o : MOp) (a b : E) : E := .m4 o a b .nil .nil
abbrev o' (o : MOp) (a b c : E) : E := .m4 o a b c .nil
abbrev z' (a : E) : E := .bt a
abbrev j' (a b : E) : E := .cons a b
abbrev i' (a b c : E) : E := .ite a b c
abbrev J' (n : Nat) (l : List E) : T := .jump n l
abbrev I' (a : E) (b c : T) : T := .ite a b c
abbrev N' (a : E) : E := .un .not a
abbrev E' (g : Func) (r : Bool) (w m : List Nat) (z : List (Nat × Nat)) : cz := { (Js r (w ++ Qgy) Qhq m z g) with FB := true, bC := true }
abbrev e' (f : Nat) (g : Func) (r o : Bool) (w m : List Nat) (z : List (Nat × Nat)) (l : List Bool) (t : T) : Entry := { f := f, kn := .plain, cf := { (Js r (w ++ Qgy) Qhq m z g) with FB := true, bC := true }, own := o, bX := l, t := t }
theorem O' {P : Program} {f : FuncId} {cf : cz} {own : Bool} {bX : List Bool} {t : T} {fn : Func} (hf : P.funcs[f]? = some fn) (h1 : bR P fn = bX := by kernel_rfl) (h2 : kO P cf fn = some t := by kernel_rfl) : aV P { f := f, kn := .plain, cf := cf, own := own, bX := bX, t := t } := aV.bw hf h1 h2
theorem o1' {P : Program} {e : Entry} {l : Pc} (h : aV P e) (k : ∀ x, x ∈ l → aV P x) : ∀ x, x ∈ e :: l → aV P x := fun x hx => by
  rcases List.mem_cons.1 hx with rfl | hx
  · exact h
  · exact k x hx
theorem o0' {P : Program} : ∀ x, x ∈ ([] : Pc) → aV P x := fun x hx => by cases hx
abbrev ki (n:Int):E:=.const (.v (.int .i64 n))
abbrev kb (b:Bool):E:=.const (.v (.bool b))
def QF (x:E):Nat→Nat→E
 | _,0=>.nil
 | k,n+1=>.cons (.cell k x) (QF x (k+1) n)
def fN (n:Nat)(x:E):E:=QF x 0 n
abbrev i (n:Int):D:=.v (.int .i64 n)
abbrev b (x:Bool):D:=.v (.bool x)
def b0:List D:=[.ju 7 303 [.int .u8 0,.int .u8 1,.int .u8 56,.int .u8 2,.int .u8 57,.int .u8 49,.int .u8 28,.int .u8 3,.int .u8 61,.int .u8 58,.int .u8 42,.int .u8 50,.int .u8 38,.int .u8 29,.int .u8 17,.int .u8 4,.int .u8 62,.int .u8 47,.int .u8 59,.int .u8 36,.int .u8 45,.int .u8 43,.int .u8 51,.int .u8 22,.int .u8 53,.int .u8 39,.int .u8 33,.int .u8 30,.int .u8 24,.int .u8 18,.int .u8 12,.int .u8 5,.int .u8 63,.int .u8 55,.int .u8 48,.int .u8 27,.int .u8 60,.int .u8 41,.int .u8 37,.int .u8 16,.int .u8 46,.int .u8 35,.int .u8 44,.int .u8 21,.int .u8 52,.int .u8 32,.int .u8 23,.int .u8 11,.int .u8 54,.int .u8 26,.int .u8 40,.int .u8 15,.int .u8 34,.int .u8 20,.int .u8 31,.int .u8 10,.int .u8 25,.int .u8 14,.int .u8 19,.int .u8 9,.int .u8 13,.int .u8 8,.int .u8 7,.int .u8 6]]
theorem ayv {P:Program}{e:Entry}(h:aV P { e with nd:=false }):aV P e:=h
theorem cj:lf b0=true:=rfl

end Go.Am.Rb

/-
 aCj: FJ functions as texts.
-/
namespace Go.Am.Rb
open Go.Proofs
theorem U' {P : Program} {f : FuncId} {cf : cz} {bX : List Bool} {u : U} {fn : Func} (hf : P.funcs[f]? = some fn) (h1 : bR P fn = bX := by kernel_rfl) (h2 : (kO P cf fn).bind (sI (bX.length + 1)) = some u := by kernel_rfl) : cm P f .plain cf bX u := cm.plain hf h1 h2


noncomputable def u3:U:=aI [.aY (.bB 30 y0),.call 4 y1 [fN 30 y0] [true],.ev (N' y2)] (.ite y3 (aI [.call 5 y1 [] [true]] (.ret (C' y4 y1))) (aI [.bQ 6 y1 [fN 30 y0] [true,true],.call 7 y5 [fN 30 y0] [true],.ev (N' y6)] (.ite y7 (aI [.call 8 y5 [fN 30 y0] [true],.ev (Q' y8 (ki 2)),.chain false y9 (aI [.aY (t' y4),.ev (Q' (t' y4) (ki 2))] (.ret y10)),.chain false y10 (aI [.aY (s' y4),.ev (.bin .eql .ptr (s' y4) (.const (.v (.pointer none))))] (.ret y11)),.chain false y11 (aI [.call 5 y5 [] [true]] (.ret y12))] (.ret (C' y12 y5))) (aI [.call 8 y5 [fN 30 y0] [true],.ev (Q' y8 (ki 0)),.chain false y9 (aI [.aY (t' y4),.ev (Q' (t' y4) (ki 0))] (.ret y10)),.chain false y10 (aI [.aY (s' y4),.ev (.bin .neq .ptr (s' y4) (.const (.v (.pointer none))))] (.ret y11)),.chain false y11 (aI [.aY (s' y4),.call 9 y5 [s' y4] [true],.ev (.aR y12),.ev (Q' y13 (ki 0))] (.ret y14)),.chain false y12 (aI [.aY (s' y4),.call 11 y5 [s' y4] [true],.call 12 y5 [fN 30 y0] [true],.aY (.nn y14),.aY (p' 33 y14),.ev (l' y5 (p' 33 y14)),.call 10 y5 [y13,y15] [true]] (.ret y16)),.chain false y13 (aI [.call 5 y5 [] [true]] (.ret y14))] (.ret (C' y14 y5))))))
theorem ku3:cm Tryz.prog 3 .plain (E' Tryz.f3 false [] [] []) [false] u3:=U' Tryz.func3

noncomputable def u4:U:=aI [.aY (.bB 30 y0),.ev (.aR (q' 10 y0)),.ev (X' .leq y2 (ki 10)),.chain false y3 (aI [.aY (q' 16 y0),.ev (.aR (q' 16 y0)),.ev (X' .leq y4 (ki 20))] (.ret y5)),.chain false y4 (aI [.aY (q' 22 y0),.ev (.aR (q' 22 y0)),.ev (X' .leq y5 (ki 80))] (.ret y6)),.chain false y5 (aI [.aY (q' 23 y0),.ev (.aR (q' 23 y0)),.ev (X' .leq y6 (ki 80))] (.ret y7)),.chain false y6 (aI [.aY (q' 8 y0),.ev (.aR (q' 8 y0)),.ev (X' .leq y7 (ki 40))] (.ret y8)),.chain false y7 (aI [.aY (q' 9 y0),.ev (.aR (q' 9 y0)),.ev (X' .leq y8 (ki 60))] (.ret y9)),.chain false y8 (aI [.aY (q' 25 y0),.ev (.aR (q' 25 y0)),.ev (X' .leq y9 (ki 20))] (.ret y10)),.chain false y9 (aI [.aY (q' 6 y0),.ev (X' .leq (q' 6 y0) (ki 6)),.chain true y10 (aI [.aY (q' 6 y0),.ev (X' .gtr (q' 6 y0) (ki 200))] (.ret y11))] (.ret y11))] (.ret (C' y10 y1))
theorem ku4:cm Tryz.prog 4 .plain (E' Tryz.f4 true [] [] []) [false] u4:=U' Tryz.func4

noncomputable def u6:U:=aI [.aY (.bB 30 y0),.call 8 y1 [fN 30 y0] [true],.ev (X' .neq y2 (ki 0))] (.ite y3 (.ret (C' (C' (.const (.v (.pointer none))) y2) y1)) (aI [.call 16 y1 [fN 30 y0] [false],.ev (j' (.bB 30 y4) (j' (.const (.agg [.v (.pointer none)])) (j' (.const (.agg [.v (.pointer none)])) (j' (.const (.agg [.v (.pointer none)])) (j' (.const (.agg [.cq])) (j' (.const (.agg [.cq])) .nil)))))),.ev (.cI 75 35 y1 (.bB 35 y5)),.ev (.nn (.aU y1)),.aY (p' 0 y7),.aY (p' 0 (p' 0 y7)),.ev (.ld true 6 y6 (p' 0 (p' 0 y7))),.bQ 17 y6 [y8] [true,true],.ev (.nn (.aU y1)),.aY (p' 30 y11),.ev (.gQ 1 y10 (p' 30 y11) (s' y9)),.ev (.nn (.aU y1)),.aY (p' 0 y13),.aY (p' 6 (p' 0 y13)),.ev (.ld true 3 y12 (p' 6 (p' 0 y13))),.ev (.nn (.aU y1)),.aY (p' 0 y15),.aY (p' 9 (p' 0 y15)),.ev (l' y12 (p' 9 (p' 0 y15))),.bQ 18 y12 [y14,y16] [true,true],.ev (.nn (.aU y1)),.aY (p' 31 y19),.ev (.gQ 1 y18 (p' 31 y19) (s' y17)),.ev (.nn (.aU y1)),.aY (p' 0 y21),.aY (p' 24 (p' 0 y21)),.ev (.ld true 6 y20 (p' 24 (p' 0 y21))),.bQ 19 y20 [y22] [true,true],.ev (.nn (.aU y1)),.aY (p' 32 y25),.ev (.gQ 1 y24 (p' 32 y25) (s' y23)),.ev (.nn (.aU y1)),.aY (p' 0 y27),.aY (p' 10 (p' 0 y27)),.aY (p' 0 (p' 10 (p' 0 y27))),.ev (l' y26 (p' 0 (p' 10 (p' 0 y27)))),.ev (.aR y28),.ev (.nn (.aU y1)),.aY (p' 0 y30),.aY (p' 6 (p' 0 y30)),.aY (p' 0 (p' 6 (p' 0 y30))),.ev (l' y26 (p' 0 (p' 6 (p' 0 y30)))),.join 0 1 (.loop 1 [ki 0,y26] (aI [.ev (X' .lss y32 y31)] (.ite y34 (aI [.join 2 1 (aI [.ev (.nn (.aU y1)),.aY (p' 0 y35),.aY (p' 10 (p' 0 y35)),.aY (p' 0 (p' 10 (p' 0 y35))),.ev (l' y33 (p' 0 (p' 10 (p' 0 y35)))),.ev (M' y29 (ki 1)),.ev (.aj 4 y36 y37),.aY (p' 1 y38),.ev (l' y33 (p' 1 y38)),.ev (P' y39 (ki 1)),.ev (.rep 8 y40 (.v (.int .i64 0))),.ev (.rep 32 y29 (.agg [.v (.int .i64 0),.v (.int .i64 0),.v (.bool false),.v (.int .i64 0)])),.ev (.aR y42),.join 3 3 (.loop 4 [ki 0,y42] (aI [.ev (X' .lss y44 y43)] (.ite y46 (aI [.join 5 1 (aI [.ev (.idx y45 y44),.ev (.set y45 y44 3 (ki 2))] (.jump 5 [y48] [])),.ev (P' y44 (ki 1))] (.jump 4 [y48,y47] [])) (.jump 3 [y44,y46,y45] [])))),.ev (.nn (.aU y1)),.aY (p' 33 y47),.ev (l' (.a_ 1000000000 4 (.a_ 1000000000 1 y33 y41) y46) (p' 33 y47)),.ev (.bz (.bB 3 (j' (ki 0) (j' (.bO y33 y41) (j' (.bO (.a_ 1000000000 1 y33 y41) y46) .nil)))) (.const (.bq []))),.ev (.fU 66 3 56 (.a_ 1000000000 4 (.a_ 1000000000 1 y33 y41) y46) y48 y49),.ev (.nn (.aU y1)),.aY (p' 33 y51),.ev (.gQ 1 y50 (p' 33 y51) (.apps (.a_ 1000000000 4 (.a_ 1000000000 1 y33 y41) y46) y48 y49))] (.jump 2 [y52] [.bO y33 y41,.bO (.a_ 1000000000 1 y33 y41) y46,.bO (.a_ 1000000000 1 y33 y41) y46,j' (ki 0) (j' (.bO y33 y41) (j' (.bO (.a_ 1000000000 1 y33 y41) y46) .nil)),.apps (.a_ 1000000000 4 (.a_ 1000000000 1 y33 y41) y46) y48 y49,.bO y33 y41,.bO (.a_ 1000000000 1 y33 y41) y46])),.ev (P' y32 (ki 1))] (.jump 1 [y36,y35] [])) (.jump 0 [y33] []))))] (.ret (C' (C' (.aU y1) (ki 0)) y32))))
theorem ku6:cm Tryz.prog 6 .plain (E' Tryz.f6 false [17,18,19] [17] [(17,1000086),(17,1000088)]) [false] u6:=U' Tryz.func6

noncomputable def u7:U:=aI [.aY (.bB 30 y0),.call 20 y1 [fN 6 y0] [true],.ev (N' y2),.chain true y3 (aI [.aY (q' 9 y0),.call 21 y1 [j' (q' 6 y0) (j' (q' 7 y0) (j' (q' 8 y0) .nil)),q' 9 y0] [true],.ev (N' y4)] (.ret y5)),.chain true y4 (aI [.call 22 y1 [j' (q' 10 y0) (j' (q' 11 y0) (j' (q' 12 y0) (j' (q' 13 y0) (j' (q' 14 y0) (j' (q' 15 y0) (j' (q' 16 y0) (j' (q' 17 y0) (j' (q' 18 y0) (j' (q' 19 y0) (j' (q' 20 y0) (j' (q' 21 y0) (j' (q' 22 y0) (j' (q' 23 y0) .nil)))))))))))))] [true],.ev (N' y5)] (.ret y6)),.chain true y5 (aI [.call 23 y1 [j' (q' 24 y0) (j' (q' 25 y0) (j' (q' 26 y0) (j' (q' 27 y0) (j' (q' 28 y0) (j' (q' 29 y0) .nil)))))] [true],.ev (N' y6)] (.ret y7))] (.ite y6 (.ret (C' (kb false) y1)) (aI [.join 0 1 (.loop 1 [kb false,ki 0] (aI [.ev (.aR (q' 10 y0)),.ev (X' .lss y8 y9)] (.ite y10 (aI [.join 2 1 (aI [.chain true y7 (aI [.aY (q' 10 y0),.ev (.aj 4 (q' 10 y0) y8),.aY (p' 0 y11),.ev (l' y1 (p' 0 y11)),.ev (Q' y12 (ki 2))] (.ret y13))] (.jump 2 [y11] [])),.ev (P' y8 (ki 1))] (.jump 1 [y11,y12] [])) (.jump 0 [y7] [])))),.chain false y7 (aI [.aY (q' 5 y0),.aY (q' 6 y0),.ev (Q' (q' 5 y0) (q' 6 y0))] (.ret y8)),.chain false y8 (aI [.aY (q' 24 y0),.aY (q' 6 y0),.ev (Q' (q' 24 y0) (q' 6 y0))] (.ret y9)),.chain false y9 (aI [.aY (q' 0 y0),.aY (q' 7 y0),.ev (Q' (q' 0 y0) (q' 7 y0))] (.ret y10))] (.ret (C' y10 y1))))
theorem ku7:cm Tryz.prog 7 .plain (E' Tryz.f7 true [] [] []) [false] u7:=U' Tryz.func7

noncomputable def u8:U:=aI [.aY (.bB 30 y0),.bQ 17 y1 [fN 6 y0] [true,true],.ev (X' .neq (t' y2) (ki 0))] (.ite y4 (.ret (C' (ki 2) y3)) (aI [.bQ 18 y3 [j' (q' 6 y0) (j' (q' 7 y0) (j' (q' 8 y0) .nil)),q' 9 y0] [true,true],.ev (X' .neq (t' y5) (ki 0))] (.ite y7 (.ret (C' (ki 2) y6)) (aI [.call 24 y6 [j' (q' 10 y0) (j' (q' 11 y0) (j' (q' 12 y0) (j' (q' 13 y0) (j' (q' 14 y0) (j' (q' 15 y0) (j' (q' 16 y0) (j' (q' 17 y0) (j' (q' 18 y0) (j' (q' 19 y0) (j' (q' 20 y0) (j' (q' 21 y0) (j' (q' 22 y0) (j' (q' 23 y0) .nil)))))))))))))] [true],.ev (X' .neq y8 (ki 0)),.chain true y9 (aI [.call 25 y6 [j' (q' 24 y0) (j' (q' 25 y0) (j' (q' 26 y0) (j' (q' 27 y0) (j' (q' 28 y0) (j' (q' 29 y0) .nil)))))] [true],.ev (X' .neq y10 (ki 0))] (.ret y11))] (.ite y10 (.ret (C' (ki 2) y6)) (aI [.ev (X' .neq (q' 5 y0) (q' 6 y0)),.chain true y11 (aI [.aY (q' 24 y0),.aY (q' 6 y0),.ev (X' .neq (q' 24 y0) (q' 6 y0))] (.ret y12)),.chain true y12 (aI [.aY (q' 0 y0),.aY (q' 7 y0),.ev (X' .neq (q' 0 y0) (q' 7 y0))] (.ret y13)),.chain true y13 (aI [.aY (q' 10 y0),.call 27 y6 [q' 10 y0,.const (.fn 26 [] [])] [true],.ev (N' y14)] (.ret y15))] (.ite y14 (.ret (C' (ki 2) y6)) (.ret (C' (ki 0) y6)))))))))
theorem ku8:cm Tryz.prog 8 .plain (E' Tryz.f8 false [17,18] [] []) [false] u8:=U' Tryz.func8

noncomputable def u9:U:=aI [.call 28 y1 [y0] [true],.ev (N' y2)] (.ite y3 (.ret (C' (.const (.bq [])) y1)) (aI [.aY (.nn y0),.aY (p' 34 y0),.ev (l' y1 (p' 34 y0)),.call 29 y1 [y4] [true]] (.ret (C' y5 y1))))
theorem ku9:cm Tryz.prog 9 .plain (E' Tryz.f9 true [] [] []) [true] u9:=U' Tryz.func9

noncomputable def u10:U:=aI [.ev (.aR y0),.ev (.aR y1),.ev (X' .neq y3 y4)] (.ite y5 (.ret (C' (kb false) y2)) (aI [.join 0 0 (.loop 1 [ki 0] (aI [.ev (.aR y0),.ev (X' .lss y6 y7)] (.ite y8 (aI [.join 2 0 (aI [.ev (.aj 3 y0 y6),.aY (p' 0 y9),.ev (l' y2 (p' 0 y9)),.ev (.aj 3 y1 y6),.aY (p' 0 y11),.ev (l' y2 (p' 0 y11)),.ev (X' .neq y10 y12),.chain true y13 (aI [.ev (.aj 3 y0 y6),.aY (p' 1 y14),.ev (l' y2 (p' 1 y14)),.ev (.aj 3 y1 y6),.aY (p' 1 y16),.ev (l' y2 (p' 1 y16)),.call 30 y2 [y15,y17] [true],.ev (N' y18)] (.ret y19)),.chain true y14 (aI [.ev (.aj 3 y0 y6),.aY (p' 2 y15),.ev (l' y2 (p' 2 y15)),.ev (.aR y16),.ev (.aj 3 y1 y6),.aY (p' 2 y18),.ev (l' y2 (p' 2 y18)),.ev (.aR y19),.ev (X' .neq y17 y20)] (.ret y21))] (.ite y15 (.ret (C' (kb false) y2)) (aI [.join 3 7 (.loop 4 [ki 0] (aI [.ev (.aj 3 y0 y6),.aY (p' 2 y17),.ev (l' y2 (p' 2 y17)),.ev (.aR y18),.ev (X' .lss y16 y19)] (.ite y20 (aI [.join 5 0 (aI [.ev (.aj 3 y0 y6),.aY (p' 2 y21),.ev (l' y2 (p' 2 y21)),.ev (.aj 4 y22 y16),.ev (.ld true 4 y2 y23),.ev (.aj 3 y1 y6),.aY (p' 2 y25),.ev (l' y2 (p' 2 y25)),.ev (.aj 4 y26 y16),.ev (.ld true 4 y2 y27),.ev (.bin .neq (.agg [0,0,1,0]) y24 y28)] (.ite y29 (.ret (C' (kb false) y2)) (.jump 5 [] []))),.ev (P' y16 (ki 1))] (.jump 4 [y21] [])) (.jump 3 [y16,y16,y17,p' 2 y17,y18,y19,y20] []))))] (.jump 2 [] [])))),.ev (P' y6 (ki 1))] (.jump 1 [y9] [])) (.jump 0 [] []))))] (.ret (C' (kb true) y2))))
theorem aaR:cm Tryz.prog 10 .plain (E' Tryz.f10 true [] [] []) [true,true] u10:=U' Tryz.func10

noncomputable def Y1:U:=aI [.call 28 y1 [y0] [true],.ev (N' y2)] (.ite y3 (.ret (C' (.const (.bq [])) y1)) (aI [.aY (.nn y0),.aY (p' 33 y0),.ev (l' y1 (p' 33 y0)),.ev (.aR y4),.join 0 1 (.loop 1 [.const (.bq []),ki 0] (aI [.ev (X' .lss y7 y5)] (.ite y8 (aI [.join 2 1 (aI [.ev (.aj 3 y4 y7),.ev (.ld true 3 y1 y9),.aY (.bB 3 y10),.call 31 y1 [fN 3 y10] [false],.ev (.bz (.bB 3 y11) (.const (.bq []))),.ev (.app 3 56 y6 y12)] (.jump 2 [y13] [fN 3 y10,q' 0 y10,q' 1 y10,q' 2 y10])),.ev (P' y7 (ki 1))] (.jump 1 [y9,y10] [])) (.jump 0 [y6] []))))] (.ret (C' y6 y1))))
theorem NS:cm Tryz.prog 11 .plain (E' Tryz.f11 true [] [] []) [true] Y1:=U' Tryz.func11

noncomputable def u12:U:=aI [.aY (.bB 30 y0),.bQ 32 y1 [fN 6 y0] [true],.ev (j' (.bB 30 (fN 30 y0)) (j' (z' y2) (j' (.const (.agg [.cq])) (j' (.const (.agg [.cq])) (j' (.const (.agg [.cq])) (j' (.const (.agg [.cq])) .nil)))))),.ev (.cI 56 35 y3 (.bB 35 y4)),.join 0 1 (.loop 1 [ki 0,y5] (aI [.ev (X' .lss y6 (q' 6 y0))] (.ite y8 (aI [.join 2 1 (aI [.call 33 y7 [j' (q' 10 y0) (j' (q' 11 y0) (j' (q' 12 y0) (j' (q' 13 y0) (j' (q' 14 y0) (j' (q' 15 y0) (j' (q' 16 y0) (j' (q' 17 y0) (j' (q' 18 y0) (j' (q' 19 y0) (j' (q' 20 y0) (j' (q' 21 y0) (j' (q' 22 y0) (j' (q' 23 y0) .nil)))))))))))))] [true],.ev (.rep 8 y9 (.v (.int .i64 0))),.ev (.aR (q' 10 y0)),.ev (.rep 32 y11 (.agg [.v (.int .i64 0),.v (.int .i64 0),.v (.bool false),.v (.int .i64 0)])),.join 3 5 (.loop 4 [ki 0,y12] (aI [.ev (.aR y14),.ev (X' .lss y13 y15)] (.ite y16 (aI [.join 5 1 (aI [.ev (.idx y14 y13),.ev (.set y14 y13 3 (ki 2))] (.jump 5 [y18] [])),.ev (P' y13 (ki 1))] (.jump 4 [y18,y17] [])) (.jump 3 [y13,y13,y15,y16,y14] [])))),.ev (.nn (.aU y3)),.aY (p' 33 y18),.ev (l' (.a_ 1000000000 4 (.a_ 1000000000 1 y7 y10) y17) (p' 33 y18)),.ev (.bz (.bB 3 (j' (ki 0) (j' (.bO y7 y10) (j' (.bO (.a_ 1000000000 1 y7 y10) y17) .nil)))) (.const (.bq []))),.ev (.fU 66 3 56 (.a_ 1000000000 4 (.a_ 1000000000 1 y7 y10) y17) y19 y20),.ev (.nn (.aU y3)),.aY (p' 33 y22),.ev (.gQ 1 y21 (p' 33 y22) (.apps (.a_ 1000000000 4 (.a_ 1000000000 1 y7 y10) y17) y19 y20))] (.jump 2 [y23] [.bO y7 y10,.bO (.a_ 1000000000 1 y7 y10) y17,.bO (.a_ 1000000000 1 y7 y10) y17,j' (ki 0) (j' (.bO y7 y10) (j' (.bO (.a_ 1000000000 1 y7 y10) y17) .nil)),.apps (.a_ 1000000000 4 (.a_ 1000000000 1 y7 y10) y17) y19 y20,.bO y7 y10,.bO (.a_ 1000000000 1 y7 y10) y17])),.ev (P' y6 (ki 1))] (.jump 1 [y10,y9] [])) (.jump 0 [y7] []))))] (.ret (C' (.aU y3) y6))
theorem apZ:cm Tryz.prog 12 .plain (E' Tryz.f12 false [32] [12] [(10,1000023),(10,1000028)]) [false] u12:=U' Tryz.func12

noncomputable def u16:U:=aI [.aY (.bB 30 y0),.call 36 y1 [q' 8 y0] [true],.call 37 y1 [q' 9 y0] [true],.call 38 y1 [q' 10 y0] [true],.call 36 y1 [q' 16 y0] [true],.call 36 y1 [q' 22 y0] [true],.call 36 y1 [q' 23 y0] [true],.call 39 y1 [q' 25 y0] [true]] (.ret (C' (j' (q' 0 y0) (j' (q' 1 y0) (j' (q' 2 y0) (j' (q' 3 y0) (j' (q' 4 y0) (j' (q' 5 y0) (j' (q' 6 y0) (j' (q' 7 y0) (j' y2 (j' y3 (j' y4 (j' (q' 11 y0) (j' (q' 12 y0) (j' (q' 13 y0) (j' (q' 14 y0) (j' (q' 15 y0) (j' y5 (j' (q' 17 y0) (j' (q' 18 y0) (j' (q' 19 y0) (j' (q' 20 y0) (j' (q' 21 y0) (j' y6 (j' y7 (j' (q' 24 y0) (j' y8 (j' (q' 26 y0) (j' (q' 27 y0) (j' (q' 28 y0) (j' (q' 29 y0) .nil)))))))))))))))))))))))))))))) y1))
theorem akR:cm Tryz.prog 16 .plain (E' Tryz.f16 true [] [] []) [false] u16:=U' Tryz.func16

noncomputable def u17:U:=aI [.aY (.bB 6 y0),.call 40 y1 [q' 0 y0,ki 1,ki 60] [true],.ev (N' y2),.chain true y3 (aI [.aY (q' 1 y0),.call 40 y1 [q' 1 y0,ki 1,ki 100000] [true],.ev (N' y4)] (.ret y5)),.chain true y4 (aI [.aY (q' 2 y0),.aY (q' 0 y0),.call 40 y1 [q' 2 y0,ki 1,q' 0 y0] [true],.ev (N' y5)] (.ret y6)),.chain true y5 (aI [.aY (q' 3 y0),.call 40 y1 [q' 3 y0,ki 0,ki 100000] [true],.ev (N' y6)] (.ret y7)),.chain true y6 (aI [.aY (q' 4 y0),.call 40 y1 [q' 4 y0,ki 1,ki 100000] [true],.ev (N' y7)] (.ret y8)),.chain true y7 (aI [.aY (q' 5 y0),.call 40 y1 [q' 5 y0,ki 1,ki 200] [true],.ev (N' y8)] (.ret y9))] (.ite y8 (.ret (C' (C' (.const (.v (.pointer none))) (ki 2)) y1)) (aI [.ev (.rep 24 (q' 0 y0) (.agg [.v (.bool false),.v (.int .i64 0),.v (.bool false)])),.ev (.rep 24 (q' 0 y0) (.agg [.v (.bool false),.v (.int .i64 0),.v (.bool false)])),.ev (.rep 32 (q' 5 y0) (.agg [.v (.bool false),.v (.int .i64 0),.v (.int .i64 0),.v (.bool false),.v (.bool false)])),.ev (j' (.bB 6 (fN 6 y0)) (j' (.const (.agg [.v (.bool false),.v (.int .i64 0),.v (.bool false),.v (.bool false),.v (.int .i64 0),.v (.bool false)])) (j' (kb false) (j' (kb false) (j' (kb false) .nil))))),.ev (.nn (.aU (.a_ 1000000000 5 (.a_ 1000000000 3 (.a_ 1000000000 3 y1 y9) y10) y11))),.aY (p' 14 y13),.ev (l' (.cI 1000000000 15 (.a_ 1000000000 5 (.a_ 1000000000 3 (.a_ 1000000000 3 y1 y9) y10) y11) (j' (q' 0 y12) (j' (q' 1 y12) (j' (q' 2 y12) (j' (q' 3 y12) (j' (q' 4 y12) (j' (q' 5 y12) (j' (q' 6 y12) (j' (q' 7 y12) (j' (q' 8 y12) (j' (q' 9 y12) (j' (q' 10 y12) (j' (q' 11 y12) (j' (.bO y1 y9) (j' (.bO (.a_ 1000000000 3 y1 y9) y10) (j' (.bO (.a_ 1000000000 3 (.a_ 1000000000 3 y1 y9) y10) y11) .nil)))))))))))))))) (p' 14 y13)),.ev (.aR y14),.join 0 1 (.loop 1 [ki 0,.cI 1000000000 15 (.a_ 1000000000 5 (.a_ 1000000000 3 (.a_ 1000000000 3 y1 y9) y10) y11) (j' (q' 0 y12) (j' (q' 1 y12) (j' (q' 2 y12) (j' (q' 3 y12) (j' (q' 4 y12) (j' (q' 5 y12) (j' (q' 6 y12) (j' (q' 7 y12) (j' (q' 8 y12) (j' (q' 9 y12) (j' (q' 10 y12) (j' (q' 11 y12) (j' (.bO y1 y9) (j' (.bO (.a_ 1000000000 3 y1 y9) y10) (j' (.bO (.a_ 1000000000 3 (.a_ 1000000000 3 y1 y9) y10) y11) .nil)))))))))))))))] (aI [.ev (X' .lss y16 y15)] (.ite y18 (aI [.join 2 1 (aI [.ev (.nn (.aU (.a_ 1000000000 5 (.a_ 1000000000 3 (.a_ 1000000000 3 y1 y9) y10) y11))),.aY (p' 14 y19),.ev (l' y17 (p' 14 y19)),.ev (.aj 5 y20 y16),.aY (p' 2 y21),.ev (.gQ 1 y17 (p' 2 y21) (ki (-1)))] (.jump 2 [y22] [])),.ev (P' y16 (ki 1))] (.jump 1 [y20,y19] [])) (.jump 0 [y17] []))))] (.ret (C' (C' (.aU (.a_ 1000000000 5 (.a_ 1000000000 3 (.a_ 1000000000 3 y1 y9) y10) y11)) (ki 0)) y16))))
theorem aE3:cm Tryz.prog 17 .plain (E' Tryz.f17 false [] [] [(4,1000045),(4,1000048),(4,1000051),(4,1000053)]) [false] u17:=U' Tryz.func17

noncomputable def u18:U:=aI [.aY (.bB 3 y0),.call 41 y2 [fN 3 y0,y1] [true],.ev (N' y3)] (.ite y4 (.ret (C' (C' (.const (.v (.pointer none))) (ki 2)) y2)) (aI [.call 36 y2 [q' 2 y0] [true],.call 37 (.const (.st [])) [m' .eG y1] [true],.ev (m' .aaA y2),.ev (j' (.bB 3 (j' (q' 0 y0) (j' (q' 1 y0) (j' y5 .nil)))) (j' (z' y6) (j' (z' (m' .abR y2)) .nil))),.ev (.cI 124 5 y7 (.bB 5 y8))] (.ret (C' (C' (.aU y7) (ki 0)) y9))))
theorem akQ:cm Tryz.prog 18 .plain { (Js false ([]++Qgy) Qhq [19] [] Tryz.f18) with FB:=true,bC:=true,aeA:=[37] } [false,true] u18:=cm.plain Tryz.func18 (by kernel_rfl) (by kernel_rfl)

noncomputable def u19:U:=aI [.aY (.bB 6 y0),.call 25 y1 [fN 6 y0] [true],.ev (X' .neq y2 (ki 0))] (.ite y3 (.ret (C' (C' (.const (.v (.pointer none))) y2) y1)) (aI [.call 39 y1 [q' 1 y0] [true],.ev (j' (.bB 6 (j' (q' 0 y0) (j' y4 (j' (q' 2 y0) (j' (q' 3 y0) (j' (q' 4 y0) (j' (q' 5 y0) .nil))))))) (j' (z' (kb true)) (j' (.const (.agg [.cq])) (j' (.const (.agg [.cq])) .nil)))),.ev (.cI 127 9 y1 (.bB 9 y5))] (.ret (C' (C' (.aU y1) (ki 0)) y6))))
theorem akP:cm Tryz.prog 19 .plain (E' Tryz.f19 false [] [16] []) [false] u19:=U' Tryz.func19

noncomputable def u20:U:=aI [.aY (.bB 6 y0),.call 42 y1 [q' 0 y0,ki 1,ki 60] [true],.chain false y2 (aI [.aY (q' 1 y0),.call 42 y1 [q' 1 y0,ki 1,ki 100000] [true]] (.ret y3)),.chain false y3 (aI [.aY (q' 2 y0),.aY (q' 0 y0),.call 42 y1 [q' 2 y0,ki 1,q' 0 y0] [true]] (.ret y4)),.chain false y4 (aI [.aY (q' 3 y0),.call 42 y1 [q' 3 y0,ki 0,ki 100000] [true]] (.ret y5)),.chain false y5 (aI [.aY (q' 4 y0),.call 42 y1 [q' 4 y0,ki 1,ki 100000] [true]] (.ret y6)),.chain false y6 (aI [.aY (q' 5 y0),.call 42 y1 [q' 5 y0,ki 1,ki 200] [true]] (.ret y7))] (.ret (C' y7 y1))
theorem akO:cm Tryz.prog 20 .plain (E' Tryz.f20 true [] [] []) [false] u20:=U' Tryz.func20

noncomputable def u21:U:=aI [.aY (.bB 3 y0),.call 43 y2 [q' 0 y0,ki 1,ki 200] [true],.ev (N' y3),.chain true y4 (aI [.aY (q' 1 y0),.call 43 y2 [q' 1 y0,ki 2,ki 30] [true],.ev (N' y5)] (.ret y6)),.chain true y5 (aI [.aY (q' 2 y0),.ev (.aR (q' 2 y0)),.aY (q' 1 y0),.ev (M' (q' 1 y0) (ki 1)),.ev (X' .neq y6 y7)] (.ret y8)),.chain true y6 (aI [.ev (.aR y1),.ev (X' .gtr y7 (ki 50))] (.ret y8))] (.ite y7 (.ret (C' (kb false) y2)) (aI [.join 0 0 (.loop 1 [ki 0] (aI [.ev (.aR (q' 2 y0)),.ev (X' .lss y8 y9)] (.ite y10 (aI [.join 2 0 (aI [.ev (.aj 1 (q' 2 y0) y8),.ev (l' y2 y11),.call 43 y2 [y12,ki 0,ki 100000000] [true],.ev (N' y13)] (.ite y14 (.ret (C' (kb false) y2)) (.jump 2 [] []))),.ev (P' y8 (ki 1))] (.jump 1 [y11] [])) (.jump 0 [] [])))),.join 0 0 (.loop 1 [ki 0] (aI [.ev (.aR y1),.ev (X' .lss y8 y9)] (.ite y10 (aI [.join 2 0 (aI [.ev (.aj 2 y1 y8),.aY (p' 0 y11),.ev (l' y2 (p' 0 y11)),.ev (X' .lss y12 (ki 1)),.chain true y13 (aI [.ev (.aj 2 y1 y8),.aY (p' 0 y14),.ev (l' y2 (p' 0 y14)),.ev (X' .gtr y15 (ki 3))] (.ret y16)),.chain true y14 (aI [.ev (.aj 2 y1 y8),.aY (p' 1 y15),.ev (l' y2 (p' 1 y15)),.call 43 y2 [y16,ki 0,ki 10000000] [true],.ev (N' y17)] (.ret y18))] (.ite y15 (.ret (C' (kb false) y2)) (.jump 2 [] []))),.ev (P' y8 (ki 1))] (.jump 1 [y11] [])) (.jump 0 [] []))))] (.ret (C' (kb true) y2))))
theorem akN:cm Tryz.prog 21 .plain (E' Tryz.f21 true [] [] []) [false,true] u21:=U' Tryz.func21

noncomputable def Y0:U:=aI [.aY (.bB 14 y0),.ev (.aR (q' 0 y0)),.call 44 y1 [y2,ki 1,ki 100] [true],.ev (N' y3),.chain true y4 (aI [.aY (q' 1 y0),.call 44 y1 [q' 1 y0,ki 1,ki 20] [true],.ev (N' y5)] (.ret y6)),.chain true y5 (aI [.aY (q' 0 y0),.ev (.aj 4 (q' 0 y0) (ki 0)),.aY (p' 1 y6),.ev (l' y1 (p' 1 y6)),.ev (X' .neq y7 (ki 0))] (.ret y8))] (.ite y6 (.ret (C' (kb false) y1)) (aI [.join 0 0 (.loop 1 [ki 0] (aI [.ev (.aR (q' 0 y0)),.ev (X' .lss y7 y8)] (.ite y9 (aI [.join 2 0 (aI [.ev (.aj 4 (q' 0 y0) y7),.ev (.ld true 4 y1 y10),.aY (.bB 4 y11),.ev (X' .gtr y7 (ki 0)),.chain false y12 (aI [.aY (q' 1 y11),.aY (q' 0 y0),.ev (M' y7 (ki 1)),.ev (.aj 4 (q' 0 y0) y13),.aY (p' 1 y14),.ev (l' y1 (p' 1 y14)),.ev (M' (q' 1 y11) y15),.call 44 y1 [y16,ki 0,ki 1] [true],.ev (N' y17)] (.ret y18)),.chain true y13 (aI [.aY (q' 1 y11),.ev (X' .geq (q' 1 y11) (ki 6))] (.ret y14))] (.ite y14 (.ret (C' (kb false) y1)) (aI [.ev (X' .neq (q' 0 y11) (ki 1)),.chain false y15 (aI [.aY (q' 0 y11),.ev (X' .neq (q' 0 y11) (ki 2))] (.ret y16)),.chain true y16 (aI [.aY (q' 0 y11),.ev (Q' (q' 0 y11) (ki 1)),.chain false y17 (aI [.aY (q' 2 y11),.call 44 y1 [q' 2 y11,ki 0,ki 1440] [true],.ev (N' y18)] (.ret y19))] (.ret y18)),.chain true y17 (aI [.aY (q' 0 y11),.ev (Q' (q' 0 y11) (ki 2)),.chain false y18 (aI [.aY (q' 2 y11),.ev (X' .neq (q' 2 y11) (ki 0)),.chain true y19 (aI [.aY (q' 3 y11)] (.ret (q' 3 y11)))] (.ret y20))] (.ret y19))] (.ite y18 (.ret (C' (kb false) y1)) (.jump 2 [] [q' 0 y11,q' 0 y11,q' 1 y11,q' 2 y11,q' 3 y11]))))),.ev (P' y7 (ki 1))] (.jump 1 [y10] [])) (.jump 0 [] [])))),.call 44 y1 [q' 2 y0,ki 0,ki 36000000] [true],.ev (N' y7),.chain true y8 (aI [.aY (q' 3 y0),.call 44 y1 [q' 3 y0,ki 0,ki 36000000] [true],.ev (N' y9)] (.ret y10)),.chain true y9 (aI [.aY (q' 8 y0),.call 44 y1 [q' 8 y0,ki 0,ki 36000000] [true],.ev (N' y10)] (.ret y11)),.chain true y10 (aI [.aY (q' 4 y0),.call 44 y1 [q' 4 y0,ki 0,ki 1440] [true],.ev (N' y11)] (.ret y12)),.chain true y11 (aI [.aY (q' 5 y0),.call 44 y1 [q' 5 y0,ki 0,ki 1440] [true],.ev (N' y12)] (.ret y13)),.chain true y12 (aI [.aY (q' 6 y0),.call 45 y1 [q' 6 y0,ki 1,ki 10,ki 0,ki 36000000] [true],.ev (N' y13)] (.ret y14))] (.ite y13 (.ret (C' (kb false) y1)) (aI [.ev (X' .lss (q' 9 y0) (ki 1)),.chain true y14 (aI [.aY (q' 9 y0),.ev (X' .gtr (q' 9 y0) (ki 4))] (.ret y15)),.chain true y15 (aI [.aY (q' 10 y0),.call 44 y1 [q' 10 y0,ki 100,ki 1000] [true],.ev (N' y16)] (.ret y17)),.chain true y16 (aI [.aY (q' 11 y0),.aY (q' 0 y0),.ev (.aR (q' 0 y0)),.ev (M' y17 (ki 1)),.call 44 y1 [q' 11 y0,ki (-1),y18] [true],.ev (N' y19)] (.ret y20)),.chain true y17 (aI [.aY (q' 11 y0),.ev (X' .geq (q' 11 y0) (ki 0)),.chain false y18 (aI [.aY (q' 0 y0),.aY (q' 11 y0),.ev (.aj 4 (q' 0 y0) (q' 11 y0)),.aY (p' 0 y19),.ev (l' y1 (p' 0 y19)),.ev (X' .neq y20 (ki 2))] (.ret y21))] (.ret y19))] (.ite y18 (.ret (C' (kb false) y1)) (aI [.call 45 y1 [q' 12 y0,ki 0,ki 60,ki 0,ki 1000] [true],.chain false y19 (aI [.aY (q' 13 y0),.call 45 y1 [q' 13 y0,ki 0,ki 60,ki 0,ki 1000] [true]] (.ret y20))] (.ret (C' y20 y1))))))))
theorem RF:cm Tryz.prog 22 .plain (E' Tryz.f22 true [] [] []) [false] Y0:=U' Tryz.func22

noncomputable def u23:U:=aI [.aY (.bB 6 y0),.call 46 y1 [q' 0 y0,ki 1,ki 200] [true],.ev (N' y2),.chain true y3 (aI [.aY (q' 1 y0),.ev (.aR (q' 1 y0)),.call 46 y1 [y4,ki 1,ki 500] [true],.ev (N' y5)] (.ret y6)),.chain true y4 (aI [.aY (q' 2 y0),.call 46 y1 [q' 2 y0,ki 0,ki 10000] [true],.ev (N' y5)] (.ret y6)),.chain true y5 (aI [.aY (q' 3 y0),.call 46 y1 [q' 3 y0,ki 0,ki 10000] [true],.ev (N' y6)] (.ret y7)),.chain true y6 (aI [.aY (q' 4 y0),.call 46 y1 [q' 4 y0,ki 0,ki 1000000000] [true],.ev (N' y7)] (.ret y8)),.chain true y7 (aI [.aY (q' 5 y0),.call 46 y1 [q' 5 y0,ki 0,ki 1000000000] [true],.ev (N' y8)] (.ret y9))] (.ite y8 (.ret (C' (kb false) y1)) (aI [.join 0 0 (.loop 1 [ki 0] (aI [.ev (.aR (q' 1 y0)),.ev (X' .lss y9 y10)] (.ite y11 (aI [.join 2 0 (aI [.ev (.aj 4 (q' 1 y0) y9),.ev (.ld true 4 y1 y12),.aY (.bB 4 y13),.call 46 y1 [q' 0 y13,ki 1,ki 10000] [true],.ev (N' y14),.chain true y15 (aI [.aY (q' 1 y13),.call 46 y1 [q' 1 y13,ki 0,ki 10000000] [true],.ev (N' y16)] (.ret y17)),.chain true y16 (aI [.aY (q' 2 y13),.aY (q' 3 y13),.call 46 y1 [q' 2 y13,ki 0,q' 3 y13] [true],.ev (N' y17)] (.ret y18)),.chain true y17 (aI [.aY (q' 3 y13),.ev (X' .gtr (q' 3 y13) (ki 36000000))] (.ret y18))] (.ite y18 (.ret (C' (kb false) y1)) (aI [.ev (X' .gtr y9 (ki 0)),.chain false y19 (aI [.aY (q' 0 y13),.aY (q' 1 y0),.ev (M' y9 (ki 1)),.ev (.aj 4 (q' 1 y0) y20),.aY (p' 0 y21),.ev (l' y1 (p' 0 y21)),.ev (X' .lss (q' 0 y13) y22),.chain true y23 (aI [.aY (q' 0 y13),.aY (q' 1 y0),.ev (M' y9 (ki 1)),.ev (.aj 4 (q' 1 y0) y24),.aY (p' 0 y25),.ev (l' y1 (p' 0 y25)),.ev (Q' (q' 0 y13) y26),.chain false y27 (aI [.aY (q' 1 y13),.aY (q' 1 y0),.ev (M' y9 (ki 1)),.ev (.aj 4 (q' 1 y0) y28),.aY (p' 1 y29),.ev (l' y1 (p' 1 y29)),.ev (X' .leq (q' 1 y13) y30)] (.ret y31))] (.ret y28))] (.ret y24))] (.ite y20 (.ret (C' (kb false) y1)) (.jump 2 [] [q' 0 y13,q' 0 y13,q' 1 y13,q' 2 y13,q' 3 y13]))))),.ev (P' y9 (ki 1))] (.jump 1 [y12] [])) (.jump 0 [] []))))] (.ret (C' (kb true) y1))))
theorem aaQ:cm Tryz.prog 23 .plain (E' Tryz.f23 true [] [] []) [false] u23:=U' Tryz.func23

noncomputable def u24:U:=aI [.aY (.bB 14 y0),.ev (.aR (q' 0 y0)),.call 47 y1 [y2,ki 1,ki 100] [true],.ev (N' y3),.chain true y4 (aI [.aY (q' 1 y0),.call 47 y1 [q' 1 y0,ki 1,ki 20] [true],.ev (N' y5)] (.ret y6)),.chain true y5 (aI [.aY (q' 0 y0),.ev (.aj 4 (q' 0 y0) (ki 0)),.aY (p' 1 y6),.ev (l' y1 (p' 1 y6)),.ev (X' .neq y7 (ki 0))] (.ret y8))] (.ite y6 (.ret (C' (ki 2) y1)) (aI [.ev (.aR (q' 0 y0)),.join 0 0 (.loop 1 [ki 0] (aI [.ev (X' .lss y8 y7)] (.ite y9 (aI [.join 2 0 (aI [.ev (.aj 4 (q' 0 y0) y8),.ev (.ld true 4 y1 y10),.aY (.bB 4 y11),.ev (X' .gtr y8 (ki 0)),.chain false y12 (aI [.aY (q' 1 y11),.aY (q' 0 y0),.ev (M' y8 (ki 1)),.ev (.aj 4 (q' 0 y0) y13),.aY (p' 1 y14),.ev (l' y1 (p' 1 y14)),.ev (M' (q' 1 y11) y15),.call 47 y1 [y16,ki 0,ki 1] [true],.ev (N' y17)] (.ret y18)),.chain true y13 (aI [.aY (q' 1 y11),.ev (X' .geq (q' 1 y11) (ki 6))] (.ret y14))] (.ite y14 (.ret (C' (ki 2) y1)) (aI [.join 3 2 (aI [.ev (Q' (q' 0 y11) (ki 1)),.join 4 0 (.ite y15 (aI [.call 47 y1 [q' 2 y11,ki 0,ki 1440] [true],.ev (N' y16)] (.ite y17 (.ret (C' (ki 2) y1)) (.jump 4 [] []))) (aI [.ev (Q' (q' 0 y11) (ki 2))] (.ite y16 (aI [.ev (X' .neq (q' 2 y11) (ki 0)),.chain true y17 (aI [.aY (q' 3 y11)] (.ret (q' 3 y11)))] (.ite y18 (.ret (C' (ki 2) y1)) (.jump 4 [] []))) (.ret (C' (ki 2) y1)))))] (.jump 3 [y15,y15] []))] (.jump 2 [] [q' 0 y11,q' 0 y11,q' 1 y11,q' 2 y11,q' 3 y11])))),.ev (P' y8 (ki 1))] (.jump 1 [y10] [])) (.jump 0 [] [])))),.ev (.bz (z' (q' 2 y0)) (.bz (z' (q' 3 y0)) (.bz (z' (q' 8 y0)) (.const (.bq []))))),.call 48 y1 [y8,ki 3,ki 3,ki 36000000] [true],.ev (N' y9),.chain true y10 (aI [.aY (q' 4 y0),.aY (q' 5 y0),.ev (.bz (z' (q' 4 y0)) (.bz (z' (q' 5 y0)) (.const (.bq [])))),.call 48 y1 [y11,ki 2,ki 2,ki 1440] [true],.ev (N' y12)] (.ret y13)),.chain true y11 (aI [.aY (q' 6 y0),.call 48 y1 [q' 6 y0,ki 1,ki 10,ki 36000000] [true],.ev (N' y12)] (.ret y13))] (.ite y12 (.ret (C' (ki 2) y1)) (aI [.ev (X' .lss (q' 9 y0) (ki 1)),.chain true y13 (aI [.aY (q' 9 y0),.ev (X' .gtr (q' 9 y0) (ki 4))] (.ret y14)),.chain true y14 (aI [.aY (q' 10 y0),.call 47 y1 [q' 10 y0,ki 100,ki 1000] [true],.ev (N' y15)] (.ret y16)),.chain true y15 (aI [.aY (q' 12 y0),.call 48 y1 [q' 12 y0,ki 0,ki 60,ki 1000] [true],.ev (N' y16)] (.ret y17)),.chain true y16 (aI [.aY (q' 13 y0),.call 48 y1 [q' 13 y0,ki 0,ki 60,ki 1000] [true],.ev (N' y17)] (.ret y18))] (.ite y17 (.ret (C' (ki 2) y1)) (aI [.ev (.aR (q' 0 y0)),.ev (M' y18 (ki 1)),.call 47 y1 [q' 11 y0,ki (-1),y19] [true],.ev (N' y20),.chain true y21 (aI [.aY (q' 11 y0),.ev (X' .geq (q' 11 y0) (ki 0)),.chain false y22 (aI [.aY (q' 0 y0),.aY (q' 11 y0),.ev (.aj 4 (q' 0 y0) (q' 11 y0)),.aY (p' 0 y23),.ev (l' y1 (p' 0 y23)),.ev (X' .neq y24 (ki 2))] (.ret y25))] (.ret y23))] (.ite y22 (.ret (C' (ki 2) y1)) (.ret (C' (ki 0) y1)))))))))
theorem akM:cm Tryz.prog 24 .plain (E' Tryz.f24 true [] [] []) [false] u24:=U' Tryz.func24

noncomputable def u25:U:=aI [.aY (.bB 6 y0),.call 49 y1 [q' 0 y0,ki 1,ki 200] [true],.ev (N' y2),.chain true y3 (aI [.aY (q' 1 y0),.ev (.aR (q' 1 y0)),.call 49 y1 [y4,ki 1,ki 500] [true],.ev (N' y5)] (.ret y6)),.chain true y4 (aI [.aY (q' 2 y0),.call 49 y1 [q' 2 y0,ki 0,ki 10000] [true],.ev (N' y5)] (.ret y6)),.chain true y5 (aI [.aY (q' 3 y0),.call 49 y1 [q' 3 y0,ki 0,ki 10000] [true],.ev (N' y6)] (.ret y7)),.chain true y6 (aI [.aY (q' 4 y0),.call 49 y1 [q' 4 y0,ki 0,ki 1000000000] [true],.ev (N' y7)] (.ret y8)),.chain true y7 (aI [.aY (q' 5 y0),.call 49 y1 [q' 5 y0,ki 0,ki 1000000000] [true],.ev (N' y8)] (.ret y9))] (.ite y8 (.ret (C' (ki 2) y1)) (aI [.ev (.aR (q' 1 y0)),.join 0 0 (.loop 1 [ki 0] (aI [.ev (X' .lss y10 y9)] (.ite y11 (aI [.join 2 0 (aI [.ev (.aj 4 (q' 1 y0) y10),.ev (.ld true 4 y1 y12),.aY (.bB 4 y13),.call 49 y1 [q' 0 y13,ki 1,ki 10000] [true],.ev (N' y14),.chain true y15 (aI [.aY (q' 1 y13),.call 49 y1 [q' 1 y13,ki 0,ki 10000000] [true],.ev (N' y16)] (.ret y17)),.chain true y16 (aI [.aY (q' 2 y13),.aY (q' 3 y13),.call 49 y1 [q' 2 y13,ki 0,q' 3 y13] [true],.ev (N' y17)] (.ret y18)),.chain true y17 (aI [.aY (q' 3 y13),.ev (X' .gtr (q' 3 y13) (ki 36000000))] (.ret y18))] (.ite y18 (.ret (C' (ki 2) y1)) (aI [.ev (X' .gtr y10 (ki 0)),.join 3 0 (.ite y19 (aI [.ev (M' y10 (ki 1)),.ev (.aj 4 (q' 1 y0) y20),.ev (.ld true 4 y1 y21),.aY (.bB 4 y22),.call 51 y1 [q' 0 y22,q' 0 y13] [true],.call 51 y1 [q' 1 y22,q' 1 y13] [true],.ev (.bz (z' y23) (.bz (z' y24) (.const (.bq [])))),.call 50 y1 [y25] [true],.ev (X' .geq y26 (ki 0))] (.ite y27 (.ret (C' (ki 2) y1)) (.jump 3 [] []))) (.jump 3 [] []))] (.jump 2 [] [q' 0 y13,q' 0 y13,q' 1 y13,q' 2 y13,q' 3 y13])))),.ev (P' y10 (ki 1))] (.jump 1 [y12] [])) (.jump 0 [] []))))] (.ret (C' (ki 0) y1))))
theorem akL:cm Tryz.prog 25 .plain (E' Tryz.f25 true [] [] []) [false] u25:=U' Tryz.func25

noncomputable def u26:U:=aI [.aY (.bB 4 y0),.ev (Q' (q' 0 y0) (ki 2))] (.ret (C' y2 y1))
theorem akK:cm Tryz.prog 26 .plain (E' Tryz.f26 true [] [] []) [false] u26:=U' Tryz.func26

noncomputable def u27:U:=aI [.call 52 y2 [y0,y1] [true],.ev (X' .geq y3 (ki 0))] (.ret (C' y4 y2))
theorem akJ:cm Tryz.prog 27 .plain (E' Tryz.f27 true [] [] []) [true,true] u27:=U' Tryz.func27

noncomputable def u28:U:=aI [.ev (.bin .neq .ptr y0 (.const (.v (.pointer none)))),.chain false y2 (aI [.aY (.nn y0),.aY (p' 30 y0),.ev (l' y1 (p' 30 y0)),.ev (.bin .neq .ptr y3 (.const (.v (.pointer none))))] (.ret y4))] (.ret (C' y3 y1))
theorem akI:cm Tryz.prog 28 .plain (E' Tryz.f28 true [] [] []) [true] u28:=U' Tryz.func28

noncomputable def u30:U:=aI [.ev (.aR y0),.ev (.aR y1),.ev (X' .neq y3 y4)] (.ite y5 (.ret (C' (kb false) y2)) (aI [.join 0 0 (.loop 1 [ki 0] (aI [.ev (.aR y0),.ev (X' .lss y6 y7)] (.ite y8 (aI [.join 2 0 (aI [.ev (.aj 1 y0 y6),.ev (l' y2 y9),.ev (.aj 1 y1 y6),.ev (l' y2 y11),.ev (X' .neq y10 y12)] (.ite y13 (.ret (C' (kb false) y2)) (.jump 2 [] []))),.ev (P' y6 (ki 1))] (.jump 1 [y9] [])) (.jump 0 [] []))))] (.ret (C' (kb true) y2))))
theorem akH:cm Tryz.prog 30 .plain (E' Tryz.f30 true [] [] []) [true,true] u30:=U' Tryz.func30

noncomputable def u31:U:=aI [.aY (.bB 3 y0),.call 36 y1 [q' 1 y0] [true],.call 53 y1 [q' 2 y0] [true]] (.ret (C' (j' (q' 0 y0) (j' y2 (j' y3 .nil))) y1))
theorem aeN:cm Tryz.prog 31 .plain (E' Tryz.f31 true [] [] []) [false] u31:=U' Tryz.func31

noncomputable def u32:U:=aI [.aY (.bB 6 y0),.ev (.rep 32 (q' 5 y0) (.agg [.v (.bool false),.v (.int .i64 0),.v (.int .i64 0),.v (.bool false),.v (.bool false)])),.ev (j' (.bB 6 (fN 6 y0)) (j' (.const (.agg [.cq])) (j' (kb false) .nil))),.join 0 1 (.loop 1 [ki 0,.cI 1000000000 8 (.a_ 1000000000 5 y1 y2) (j' (q' 0 y3) (j' (q' 1 y3) (j' (q' 2 y3) (j' (q' 3 y3) (j' (q' 4 y3) (j' (q' 5 y3) (j' (q' 6 y3) (j' (.bO y1 y2) .nil))))))))] (aI [.ev (X' .lss y4 (q' 5 y0))] (.ite y6 (aI [.join 2 1 (aI [.ev (.nn (.aU (.a_ 1000000000 5 y1 y2))),.aY (p' 7 y7),.ev (l' y5 (p' 7 y7)),.ev (.aj 5 y8 y4),.aY (p' 2 y9),.ev (.gQ 1 y5 (p' 2 y9) (ki (-1)))] (.jump 2 [y10] [])),.ev (P' y4 (ki 1))] (.jump 1 [y8,y7] [])) (.jump 0 [y5] []))))] (.ret (C' (.aU (.a_ 1000000000 5 y1 y2)) y4))
theorem akG:cm Tryz.prog 32 .plain (E' Tryz.f32 false [] [] [(2,1000008),(2,1000010)]) [false] u32:=U' Tryz.func32

noncomputable def u33:U:=aI [.aY (.bB 14 y0),.ev (.aR (q' 0 y0)),.ev (M' y2 (ki 1)),.ev (.aj 4 (q' 0 y0) y3),.aY (p' 1 y4),.ev (l' y1 (p' 1 y4)),.ev (P' y5 (ki 1))] (.ret (C' y6 y1))
theorem akF:cm Tryz.prog 33 .plain (E' Tryz.f33 true [] [] []) [false] u33:=U' Tryz.func33

noncomputable def u36:U:=aI [.nk y0 false] (.ite y2 (.ret (C' (.const (.bq [])) y1)) (aI [.ev (.app 1 8 (.const (.bq [])) y0)] (.ret (C' y3 y1))))
theorem akC:cm Tryz.prog 36 .plain (E' Tryz.f36 true [] [] []) [true] u36:=U' Tryz.func36

noncomputable def u37:U:=aI [.nk y0 false] (.ite y2 (.ret (C' (.const (.bq [])) y1)) (aI [.ev (.app 2 16 (.const (.bq [])) y0)] (.ret (C' y3 y1))))
theorem akB:cm Tryz.prog 37 .plain (E' Tryz.f37 true [] [] []) [true] u37:=U' Tryz.func37

noncomputable def u38:U:=aI [.nk y0 false] (.ite y2 (.ret (C' (.const (.bq [])) y1)) (aI [.ev (.app 4 32 (.const (.bq [])) y0)] (.ret (C' y3 y1))))
theorem aaP:cm Tryz.prog 38 .plain (E' Tryz.f38 true [] [] []) [true] u38:=U' Tryz.func38

noncomputable def u39:U:=aI [.nk y0 false] (.ite y2 (.ret (C' (.const (.bq [])) y1)) (aI [.ev (.app 4 32 (.const (.bq [])) y0)] (.ret (C' y3 y1))))
theorem alx:cm Tryz.prog 39 .plain (E' Tryz.f39 true [] [] []) [true] u39:=U' Tryz.func39

noncomputable def u40:U:=aI [.ev (X' .geq y0 y1),.chain false y4 (aI [.ev (X' .leq y0 y2)] (.ret y5))] (.ret (C' y5 y3))
theorem apX:cm Tryz.prog 40 .plain (E' Tryz.f40 true [] [] []) [true,true,true] u40:=U' Tryz.func40

noncomputable def u41:U:=aI [.aY (.bB 3 y0),.call 61 y2 [q' 0 y0,ki 1,ki 200] [true],.ev (N' y3),.chain true y4 (aI [.aY (q' 1 y0),.call 61 y2 [q' 1 y0,ki 2,ki 30] [true],.ev (N' y5)] (.ret y6)),.chain true y5 (aI [.aY (q' 2 y0),.ev (.aR (q' 2 y0)),.aY (q' 1 y0),.ev (M' (q' 1 y0) (ki 1)),.ev (X' .neq y6 y7)] (.ret y8)),.chain true y6 (aI [.ev (.aR y1),.ev (X' .gtr y7 (ki 50))] (.ret y8))] (.ite y7 (.ret (C' (kb false) y2)) (aI [.call 62 y2 [q' 2 y0,.const (.fn 63 [] [])] [true],.ev (N' y8),.chain false y9 (aI [.call 64 y2 [y1,.const (.fn 65 [] [])] [true],.ev (N' y10)] (.ret y11))] (.ret (C' y10 y2))))
theorem au8:cm Tryz.prog 41 .plain (E' Tryz.f41 true [] [] []) [false,true] u41:=U' Tryz.func41

noncomputable def u42:U:=aI [.ev (X' .geq y0 y1),.chain false y4 (aI [.ev (X' .leq y0 y2)] (.ret y5))] (.ret (C' y5 y3))
theorem au7:cm Tryz.prog 42 .plain (E' Tryz.f42 true [] [] []) [true,true,true] u42:=U' Tryz.func42

noncomputable def u43:U:=aI [.ev (X' .geq y0 y1),.chain false y4 (aI [.ev (X' .leq y0 y2)] (.ret y5))] (.ret (C' y5 y3))
theorem au6:cm Tryz.prog 43 .plain (E' Tryz.f43 true [] [] []) [true,true,true] u43:=U' Tryz.func43

noncomputable def u44:U:=aI [.ev (X' .geq y0 y1),.chain false y4 (aI [.ev (X' .leq y0 y2)] (.ret y5))] (.ret (C' y5 y3))
theorem aHP:cm Tryz.prog 44 .plain (E' Tryz.f44 true [] [] []) [true,true,true] u44:=U' Tryz.func44

noncomputable def u45:U:=aI [.join 0 0 (.loop 1 [ki 0] (aI [.ev (.aR y0),.ev (X' .lss y6 y7)] (.ite y8 (aI [.join 2 0 (aI [.ev (.aj 1 y0 y6),.ev (l' y5 y9),.call 44 y5 [y10,y3,y4] [true],.ev (N' y11)] (.ite y12 (.ret (C' (kb false) y5)) (.jump 2 [] []))),.ev (P' y6 (ki 1))] (.jump 1 [y9] [])) (.jump 0 [] [])))),.ev (.aR y0),.call 44 y5 [y6,y1,y2] [true]] (.ret (C' y7 y5))
theorem aHO:cm Tryz.prog 45 .plain (E' Tryz.f45 true [] [] []) [true,true,true,true,true] u45:=U' Tryz.func45

noncomputable def u46:U:=aI [.ev (X' .geq y0 y1),.chain false y4 (aI [.ev (X' .leq y0 y2)] (.ret y5))] (.ret (C' y5 y3))
theorem akA:cm Tryz.prog 46 .plain (E' Tryz.f46 true [] [] []) [true,true,true] u46:=U' Tryz.func46

noncomputable def u47:U:=aI [.ev (X' .geq y0 y1),.chain false y4 (aI [.ev (X' .leq y0 y2)] (.ret y5))] (.ret (C' y5 y3))
theorem akz:cm Tryz.prog 47 .plain (E' Tryz.f47 true [] [] []) [true,true,true] u47:=U' Tryz.func47

noncomputable def u48:U:=aI [.ev (.gE (j' (z' y3) .nil)),.ev (.aR y0),.call 47 y4 [y6,y1,y2] [true],.chain false y7 (aI [.ev (.gV 66 .ax (.aa y5 .ax)),.call 62 y4 [y0,y8] [true],.ev (N' y9)] (.ret y10))] (.ret (C' y8 y4))
theorem aky:cm Tryz.prog 48 .plain (E' Tryz.f48 true [] [] []) [true,true,true,true] u48:=U' Tryz.func48

noncomputable def u49:U:=aI [.ev (X' .geq y0 y1),.chain false y4 (aI [.ev (X' .leq y0 y2)] (.ret y5))] (.ret (C' y5 y3))
theorem akx:cm Tryz.prog 49 .plain (E' Tryz.f49 true [] [] []) [true,true,true] u49:=U' Tryz.func49

noncomputable def u50:U:=aI [.ev (.aR y0),.join 0 0 (.loop 1 [ki 0] (aI [.ev (X' .lss y3 y2)] (.ite y4 (aI [.join 2 0 (aI [.ev (.aj 1 y0 y3),.ev (l' y1 y5),.ev (X' .neq y6 (ki 0))] (.ite y7 (.ret (C' y6 y1)) (.jump 2 [] []))),.ev (P' y3 (ki 1))] (.jump 1 [y5] [])) (.jump 0 [] []))))] (.ret (C' (ki 0) y1))
theorem akw:cm Tryz.prog 50 .plain (E' Tryz.f50 true [] [] []) [true] u50:=U' Tryz.func50

noncomputable def u51:U:=aI [.call 67 y2 [y0] [true],.call 67 y2 [y1] [true]] (.ite y3 (.ite y4 (.ret (C' (ki 0) y2)) (.ret (C' (ki (-1)) y2))) (.ite y4 (.ret (C' (ki 1) y2)) (aI [.ev (X' .lss y0 y1)] (.ite y5 (.ret (C' (ki (-1)) y2)) (aI [.ev (X' .gtr y0 y1)] (.ite y6 (.ret (C' (ki 1) y2)) (.ret (C' (ki 0) y2))))))))
theorem akv:cm Tryz.prog 51 .plain (E' Tryz.f51 true [] [] []) [true,true] u51:=U' Tryz.func51

noncomputable def u52:U:=aI [.ev (.aR y0),.join 0 0 (.loop 1 [ki 0] (aI [.ev (X' .lss y4 y3)] (.ite y5 (aI [.join 2 0 (aI [.ev (.aj 4 y0 y4),.ev (.ld true 4 y2 y6),.fu y1 y2 [y7] [true]] (.ite y8 (.ret (C' y4 y2)) (.jump 2 [] []))),.ev (P' y4 (ki 1))] (.jump 1 [y6] [])) (.jump 0 [] []))))] (.ret (C' (ki (-1)) y2))
theorem aku:cm Tryz.prog 52 .plain (E' Tryz.f52 true [] [] []) [true,true] u52:=U' Tryz.func52

noncomputable def u61:U:=aI [.ev (X' .geq y0 y1),.chain false y4 (aI [.ev (X' .leq y0 y2)] (.ret y5))] (.ret (C' y5 y3))
theorem UB:cm Tryz.prog 61 .plain (E' Tryz.f61 true [] [] []) [true,true,true] u61:=U' Tryz.func61

noncomputable def u62:U:=aI [.call 77 y2 [y0,y1] [true],.ev (X' .geq y3 (ki 0))] (.ret (C' y4 y2))
theorem akn:cm Tryz.prog 62 .plain (E' Tryz.f62 true [] [] []) [true,true] u62:=U' Tryz.func62

noncomputable def u63:U:=aI [.call 61 y1 [y0,ki 0,ki 100000000] [true],.ev (N' y2)] (.ret (C' y3 y1))
theorem akm:cm Tryz.prog 63 .plain (E' Tryz.f63 true [] [] []) [true] u63:=U' Tryz.func63

noncomputable def u64:U:=aI [.call 78 y2 [y0,y1] [true],.ev (X' .geq y3 (ki 0))] (.ret (C' y4 y2))
theorem akl:cm Tryz.prog 64 .plain (E' Tryz.f64 true [] [] []) [true,true] u64:=U' Tryz.func64

noncomputable def u65:U:=aI [.aY (.bB 2 y0),.ev (X' .lss (q' 0 y0) (ki 1)),.chain true y2 (aI [.aY (q' 0 y0),.ev (X' .gtr (q' 0 y0) (ki 3))] (.ret y3)),.chain true y3 (aI [.aY (q' 1 y0),.call 61 y1 [q' 1 y0,ki 0,ki 10000000] [true],.ev (N' y4)] (.ret y5))] (.ret (C' y4 y1))
theorem akk:cm Tryz.prog 65 .plain (E' Tryz.f65 true [] [] []) [false] u65:=U' Tryz.func65

noncomputable def u66:U:=aI [.ev (l' y2 y1),.call 47 y2 [y0,ki 0,y3] [true],.ev (N' y4)] (.ret (C' y5 y2))
theorem akj:cm Tryz.prog 66 .plain (E' Tryz.f66 true [] [] []) [true,true] u66:=U' Tryz.func66

noncomputable def u67:U:=aI [.ev (X' .neq y0 y0)] (.ret (C' y2 y1))
theorem aki:cm Tryz.prog 67 .plain (E' Tryz.f67 true [] [] []) [true] u67:=U' Tryz.func67

noncomputable def u77:U:=aI [.ev (.aR y0),.join 0 0 (.loop 1 [ki 0] (aI [.ev (X' .lss y4 y3)] (.ite y5 (aI [.join 2 0 (aI [.ev (.aj 1 y0 y4),.ev (l' y2 y6),.fu y1 y2 [y7] [true]] (.ite y8 (.ret (C' y4 y2)) (.jump 2 [] []))),.ev (P' y4 (ki 1))] (.jump 1 [y6] [])) (.jump 0 [] []))))] (.ret (C' (ki (-1)) y2))
theorem aka:cm Tryz.prog 77 .plain (E' Tryz.f77 true [] [] []) [true,true] u77:=U' Tryz.func77

noncomputable def u78:U:=aI [.ev (.aR y0),.join 0 0 (.loop 1 [ki 0] (aI [.ev (X' .lss y4 y3)] (.ite y5 (aI [.join 2 0 (aI [.ev (.aj 2 y0 y4),.ev (.ld true 2 y2 y6),.fu y1 y2 [y7] [true]] (.ite y8 (.ret (C' y4 y2)) (.jump 2 [] []))),.ev (P' y4 (ki 1))] (.jump 1 [y6] [])) (.jump 0 [] []))))] (.ret (C' (ki (-1)) y2))
theorem aeK:cm Tryz.prog 78 .plain (E' Tryz.f78 true [] [] []) [true,true] u78:=U' Tryz.func78

end Go.Am.Rb

/-
 Plans and cards,as Lean structures,and which bX are as defined.
-/
namespace Go.Am.Sc

structure Item where
 kind:Int
 iy:Int
 target:Int
 free:Bool
deriving Inhabited,DecidableEq

structure aL where
 items:List Item
 dW:Int
 late:Int
 early:Int
 jW:Int
 jX:Int
 jumps:List Int
 ret:Bool
 mG:Int
 ez:Int
 jV:Int
 power:Int
 points:List Int
 extra:List Int

structure gL where
 minute:Int
 time:Int
 jump:Bool
 mark:Int
deriving Inhabited,DecidableEq

structure aS where
 cls:Int
 dH:List Int
 lines:List gL
deriving Inhabited

def Qrk (x lo hi:Int):Bool:=decide (lo≤x)&&decide (x≤hi)

theorem iG {x lo hi:Int}(h:Qrk x lo hi=true):lo≤x∧x≤hi:=by simpa[Qrk] using h
theorem uQ {x lo hi:Int}(h:lo≤x∧x≤hi):Qrk x lo hi=true:=by simpa[Qrk] using h
theorem aoz {x lo hi:Int}(h:Qrk x lo hi=false):x<lo∨hi<x:=by
 simp only[Qrk,Bool.and_eq_false_iff,decide_eq_false_iff_not] at h
 omega
theorem Ej {x lo hi:Int}(h:x<lo∨hi<x):Qrk x lo hi=false:=by
 simp only[Qrk,Bool.and_eq_false_iff,decide_eq_false_iff_not]
 omega

def fV (l:List Int)(least most lo hi:Int):Bool:=l.all (fun x=>Qrk x lo hi)&&Qrk l.length least most

namespace aL
variable (p:aL)
def it (i:Nat):Item:=p.items.getD i default
def n:Nat:=p.items.length
def yY (i:Nat):Bool:=(i==0||Qrk ((p.it i).iy-(p.it (i-1)).iy) 0 1)&&(decide ((p.it i).iy<6)&&((p.it i).kind==1&&Qrk (p.it i).target 0 1440||(p.it i).kind==2&&((p.it i).target==0&&!(p.it i).free)))
def og:Bool:=Qrk p.n 1 100&&(Qrk p.dW 1 20&&(p.it 0).iy==0)
def oN:Bool:=(List.range p.n).all p.yY
def iZ:Bool:=Qrk p.late 0 36000000&&(Qrk p.early 0 36000000&&(Qrk p.mG 0 36000000&&(Qrk p.jW 0 1440&&(Qrk p.jX 0 1440&&fV p.jumps 1 10 0 36000000))))
def kg:Bool:=(decide (1≤p.ez)&&decide (p.ez≤4))&&(Qrk p.jV 100 1000&&(Qrk p.power (-1) (p.n-1)&&(decide (p.power<0)||(p.it p.power.toNat).kind==2)))
def uA:Bool:=fV p.points 0 60 0 1000&&fV p.extra 0 60 0 1000
def ok:Bool:=p.og&&(p.oN&&(p.iZ&&(p.kg&&p.uA)))
end aL

def aS.ln (c:aS)(i:Nat):gL:=c.lines.getD i default

def aL.js (p:aL):Int:=(p.it (p.n-1)).iy+1

variable {p:aL} {c:aS}

theorem aL.H6 (h:p.oN=true){i:Nat}(hi:i<p.n):p.yY i=true:=(List.all_eq_true.1 h) i (List.mem_range.2 hi)

theorem aL.vO {i:Nat}(hi:i<p.n)(h:p.yY i=false):p.oN=false:=by
 rw[aL.oN,List.all_eq_false]
 exact⟨i,List.mem_range.2 hi,by simp[h]⟩

theorem aL.K9 (h:∀i,i<p.n→p.yY i=true):p.oN=true:=List.all_eq_true.2 fun i hi=>h i (List.mem_range.1 hi)

theorem aL.Im (h0:(p.it 0).iy=0):∀{i:Nat},(∀k,k≤i→p.yY k=true)→0≤(p.it i).iy∧(p.it i).iy≤5
 | 0,h=>by omega
 | i+1,h=>by
  have ih:=aL.Im h0 (i:=i) fun k hk=>h k (by omega)
  have hs:=h (i+1) (Nat.le_refl _)
  simp only[aL.yY,Bool.and_eq_true,decide_eq_true_eq,Nat.add_sub_cancel,Bool.or_eq_true,beq_iff_eq] at hs
  obtain⟨h1,h2,_⟩:=hs
  rcases h1 with h1 | h1
  ·omega
  ·have:=iG h1
   omega

theorem aL.s6 {i:Nat}(h:i<p.n):p.items[i]? = some (p.it i):=by
 have h':i<p.items.length:=h
 simp[aL.it,List.getD,h']

theorem ahy (a b lo hi:Int):fV [a,b] 2 2 lo hi=(Qrk a lo hi&&Qrk b lo hi):=by
 simp[fV,Qrk]
theorem ahx (a b c lo hi:Int):fV [a,b,c] 3 3 lo hi=(Qrk a lo hi&&(Qrk b lo hi&&Qrk c lo hi)):=by
 simp[fV,Qrk]

theorem aL.nV (h:p.ok=true):p.og=true∧p.oN=true∧p.iZ=true∧p.kg=true∧p.uA=true:=by simpa[aL.ok] using h

theorem aL.gi (h:p.ok=true):(1≤p.n∧p.n≤100)∧(1≤p.dW∧p.dW≤20)∧(p.it 0).iy=0:=by
 have h:=(aL.nV h).1
 simp only[aL.og,Bool.and_eq_true,beq_iff_eq] at h
 have h1:=iG h.1
 exact⟨by omega,iG h.2.1,h.2.2⟩

theorem aL.qR (h:p.ok=true){i:Nat}(hi:i<p.n):0≤(p.it i).iy∧(p.it i).iy≤5:=aL.Im (aL.gi h).2.2 fun k hk=>aL.H6 (aL.nV h).2.1 (by omega)

theorem aL.yK (h:p.ok=true):1≤p.js∧p.js≤6:=by
 have:=aL.gi h
 have:=aL.qR h (i:=p.n-1) (by omega)
 unfold aL.js
 omega

theorem aL.aot (h:p.og=false):p.ok=false:=by simp[aL.ok,h]
theorem aL.PX (h:p.oN=false):p.ok=false:=by simp[aL.ok,h]

end Go.Am.Sc

/-
 Plans and cards as data.
-/
namespace Go.Am.Sc

abbrev I (n:Int):D:=.v (.int .i64 n)
abbrev B (b:Bool):D:=.v (.bool b)
abbrev Is (l:List Int):D:=.bq (l.map I)
abbrev In (i:Nat):D:=I (i:Int)
abbrev Ix (l:List Nat):D:=.bq (l.map In)

def i64 (n:Int):Prop:=-9223372036854775808≤n∧n<9223372036854775808

theorem ofI {ds:List D}(h:jN (.int .i64) ds):∃n,ds=[I n]∧i64 n:=by
 simp only[jN] at h
 obtain⟨n,h,h1,h2⟩:=h
 refine⟨n,h,?_⟩
 simp[IntKind.min,IntKind.max,IntKind.bits,IntKind.signed] at h1 h2
 exact⟨h1,by omega⟩

theorem aex:∀{es:List D},(∀x,x∈es→jN (.int .i64) [x])→∃xs:List Int,es=xs.map I∧∀x,x∈xs→i64 x
 | [],_=>⟨[],rfl,by simp⟩
 | e :: es,h=>by
  obtain⟨n,hn,hb⟩:=ofI (h e (by simp))
  cases hn
  obtain⟨xs,rfl,hx⟩:=aex (es:=es) fun x hx=>h x (by simp[hx])
  exact⟨n :: xs,rfl,by simpa using⟨hb,hx⟩⟩

def Mu (l:List Int):Prop:=(∀x,x∈l→i64 x)∧l.length≤maxLen

theorem Rm {ds:List D}(h:jN (.sl (.int .i64)) ds):∃xs:List Int,ds=[Is xs]∧Mu xs:=by
 simp only[jN] at h
 obtain⟨es,rfl,hl,nL⟩:=h
 obtain⟨xs,rfl,hx⟩:=aex fun x hx=>by
  have:=(nL x hx).2 rfl
  simpa only[jN] using this
 exact⟨xs,rfl,hx,by simpa using hl⟩

def Item.cs (x:Item):List D:=[I x.kind,I x.iy,I x.target,B x.free]
def Item.d (x:Item):D:=.agg x.cs
def aL.cs (p:aL):List D:=[.bq (p.items.map Item.d),I p.dW,I p.late,I p.early,I p.jW,I p.jX,Is p.jumps,B p.ret,I p.mG,I p.ez,I p.jV,I p.power,Is p.points,Is p.extra]
def aL.d (p:aL):D:=.agg p.cs
def gL.cs (l:gL):List D:=[I l.minute,I l.time,B l.jump,I l.mark]
def gL.d (l:gL):D:=.agg l.cs
def aS.cs (c:aS):List D:=[I c.cls,Is c.dH,.bq (c.lines.map gL.d)]
def aS.d (c:aS):D:=.agg c.cs
abbrev dM (l:List aS):D:=.bq (l.map aS.d)

structure Item.Ok (x:Item):Prop where
 kind:i64 x.kind
 iy:i64 x.iy
 target:i64 x.target

structure aL.Ok (p:aL):Prop where
 items:∀x,x∈p.items→x.Ok
 UH:p.items.length≤maxLen
 dW:i64 p.dW
 late:i64 p.late
 early:i64 p.early
 jW:i64 p.jW
 jX:i64 p.jX
 jumps:Mu p.jumps
 mG:i64 p.mG
 ez:i64 p.ez
 jV:i64 p.jV
 power:i64 p.power
 points:Mu p.points
 extra:Mu p.extra

structure gL.Ok (l:gL):Prop where
 minute:i64 l.minute
 time:i64 l.time
 mark:i64 l.mark

structure aS.Ok (c:aS):Prop where
 cls:i64 c.cls
 dH:Mu c.dH
 lines:∀x,x∈c.lines→x.Ok
 Ux:c.lines.length≤maxLen

def M5:Sh:=.st [.int .i64,.int .i64,.int .i64,.bool]
def PJ:Sh:=.st [.int .i64,.int .i64,.int .i64,.int .i64,.sl (.int .i64),.bool,.int .i64,.int .i64,.int .i64,.int .i64,.sl (.int .i64),.sl (.int .i64)]
def jA:Sh:=.st [.sl M5,.int .i64,PJ]
def M4:Sh:=.st [.int .i64,.int .i64,.bool,.int .i64]
def jb:Sh:=.st [.int .i64,.sl (.int .i64),.sl M4]

theorem cv {ds:List D}(h:∃n:Int,ds=[.v (.int .i64 n)]∧IntKind.i64.min≤n∧n≤IntKind.i64.max):∃n,ds=[I n]∧i64 n:=ofI (by simpa only[jN] using h)

theorem aax {cs:List D}(h:jN M5 cs):∃r:Item,.agg cs=r.d∧r.Ok:=by
 simp only[M5,jN,qb] at h
 obtain⟨_,_,rfl,h1,_,_,rfl,h2,_,_,rfl,h3,_,_,rfl,⟨b4,rfl⟩,rfl⟩:=h
 obtain⟨n1,rfl,b1⟩:=cv h1
 obtain⟨n2,rfl,b2⟩:=cv h2
 obtain⟨n3,rfl,b3⟩:=cv h3
 exact⟨⟨n1,n2,n3,b4⟩,rfl,⟨b1,b2,b3⟩⟩

theorem PY {α:Type}{d:α→D}{sh:Sh}{ok:α→Prop}(hd:∀{cs:List D},jN sh cs→∃a:α,.agg cs=d a∧ok a):∀{es:List D},(∀x,x∈es→∃cs,x=.agg cs∧jN sh cs)→∃xs:List α,es=xs.map d∧∀a,a∈xs→ok a
 | [],_=>⟨[],rfl,by simp⟩
 | e :: es,h=>by
  obtain⟨cs,rfl,h1⟩:=h e (by simp)
  obtain⟨a,ha,ho⟩:=hd h1
  obtain⟨xs,rfl,hx⟩:=PY hd (es:=es) fun x hx=>h x (by simp[hx])
  exact⟨a :: xs,by rw[ha];rfl,by simpa using⟨ho,hx⟩⟩

theorem aav {cs:List D}(h:jN jA cs):∃r:aL,.agg cs=r.d∧r.Ok:=by
 simp only[jA,PJ,jN,qb] at h
 obtain⟨_,_,rfl,⟨e1,rfl,l1,h1⟩,_,_,rfl,h2,_,_,rfl,⟨_,_,rfl,h3,_,_,rfl,h4,_,_,rfl,h5,_,_,rfl,h6,_,_,rfl,h7,_,_,rfl,⟨b8,rfl⟩,_,_,rfl,h9,_,_,rfl,h10,_,_,rfl,h11,_,_,rfl,h12,_,_,rfl,h13,_,_,rfl,VK,rfl⟩,rfl⟩:=h
 obtain⟨xs,rfl,o1⟩:=PY (d:=Item.d) aax fun x hx=>(h1 x hx).1 rfl
 obtain⟨n2,rfl,b2⟩:=cv h2
 obtain⟨n3,rfl,b3⟩:=cv h3
 obtain⟨n4,rfl,b4⟩:=cv h4
 obtain⟨n5,rfl,b5⟩:=cv h5
 obtain⟨n6,rfl,b6⟩:=cv h6
 obtain⟨x7,rfl,b7⟩:=Rm (by simpa only[jN] using h7)
 obtain⟨n9,rfl,b9⟩:=cv h9
 obtain⟨n10,rfl,b10⟩:=cv h10
 obtain⟨n11,rfl,b11⟩:=cv h11
 obtain⟨n12,rfl,b12⟩:=cv h12
 obtain⟨x13,rfl,b13⟩:=Rm (by simpa only[jN] using h13)
 obtain⟨x14,rfl,b14⟩:=Rm (by simpa only[jN] using VK)
 exact⟨⟨xs,n2,n3,n4,n5,n6,x7,b8,n9,n10,n11,n12,x13,x14⟩,rfl,⟨o1,by simpa using l1,b2,b3,b4,b5,b6,b7,b9,b10,b11,b12,b13,b14⟩⟩

end Go.Am.Sc

/-
 Setups of events,as Lean structures and as data;which bX are valid.
-/
namespace Go.Am.Rb
open Go.Am.Sc

structure Src where
 kind:Int
 error:Int
structure Art where
 n:Int
 f:Int
 l:Int
 m:Int
structure Grd where
 Qtj:Int
 ak1:Int
 clear:Int
 interval:Int
 missing:Int
 Qtq:Int
structure Fld where
 Qtq:Int
 places:Int
 least:List Int
structure Cod where
 Qtq:Int
 Qtk:List Art
 asZ:Int
 second:Int
 fee:Int
 auG:Int
structure Setup where
 g:Grd
 f:Fld
 s:List Src
 p:aL
 c:Cod

def Src.cs (s:Src):List D:=[I s.kind,I s.error]
def Src.d (s:Src):D:=.agg s.cs
def Art.d (a:Art):D:=.agg [I a.n,I a.f,I a.l,I a.m]
def Grd.cs (g:Grd):List D:=[I g.Qtj,I g.ak1,I g.clear,I g.interval,I g.missing,I g.Qtq]
def Grd.d (g:Grd):D:=.agg g.cs
def Fld.d (f:Fld):D:=.agg [I f.Qtq,I f.places,Is f.least]
def Cod.cs (c:Cod):List D:=[I c.Qtq,.bq (c.Qtk.map Art.d),I c.asZ,I c.second,I c.fee,I c.auG]
def Cod.d (c:Cod):D:=.agg c.cs
abbrev axV (l:List Src):D:=.bq (l.map Src.d)
def Setup.cs (s:Setup):List D:=[I s.g.Qtj,I s.g.ak1,I s.g.clear,I s.g.interval,I s.g.missing,I s.g.Qtq,I s.f.Qtq,I s.f.places,Is s.f.least,axV s.s,.bq (s.p.items.map Sc.Item.d),I s.p.dW,I s.p.late,I s.p.early,I s.p.jW,I s.p.jX,Is s.p.jumps,B s.p.ret,I s.p.mG,I s.p.ez,I s.p.jV,I s.p.power,Is s.p.points,Is s.p.extra,I s.c.Qtq,.bq (s.c.Qtk.map Art.d),I s.c.asZ,I s.c.second,I s.c.fee,I s.c.auG]
def Setup.d (s:Setup):D:=.agg s.cs

def aq1 (g:Grd):Bool:=Qrk g.Qtj 1 60&&(Qrk g.ak1 1 100000&&(Qrk g.clear 1 g.Qtj&&(Qrk g.interval 0 100000&&(Qrk g.missing 1 100000&&Qrk g.Qtq 1 200))))
def ara (s:Src):Bool:=decide (s.kind<1)||(decide (3<s.kind)||!Qrk s.error 0 10000000)
def Qty (f:Fld)(ss:List Src):Bool:=
 Qrk f.Qtq 1 200&&(Qrk f.places 2 30&&(decide ((f.least.length:Int)=f.places-1)&&(decide ((ss.length:Int)≤50)&&(!(f.least.any fun x=>!Qrk x 0 100000000)&&!(ss.any ara)))))
def atv (a:Art):Bool:=!(Qrk a.n 1 10000)||!(Qrk a.f 0 10000000)||!(Qrk a.l 0 a.m)||decide (36000000<a.m)
def aqR (b a:Art):Bool:=decide (a.n<b.n)||(decide (a.n=b.n)&&decide (a.f≤b.f))
def av0 (xs:List Art)(i:Nat):Bool:=match xs[i]? with
 | some a=>!atv a&&(match i with | 0=>true | j+1=>match xs[j]? with | some b=>!aqR b a | none=>true)
 | none=>true
def ao_ (c:Cod):Bool:=!(Qrk c.Qtq 1 200)||!(Qrk c.Qtk.length 1 500)||!(Qrk c.asZ 0 10000)||!(Qrk c.second 0 10000)||!(Qrk c.fee 0 1000000000)||!(Qrk c.auG 0 1000000000)
def aoF (c:Cod):Bool:=!ao_ c&&(List.range c.Qtk.length).all (av0 c.Qtk)
def AM (x:Sc.Item):Bool:=x.kind==2
def Setup.ok (s:Setup):Bool:=aq1 s.g&&(Qty s.f s.s&&(s.p.ok&&(aoF s.c&&(s.g.Qtq==s.f.Qtq&&(s.c.Qtq==s.f.Qtq&&(s.g.Qtj==s.f.places&&s.p.items.any AM))))))

structure Setup.Ok (s:Setup):Prop where
 places:i64 s.f.places
 least:s.f.least.length≤maxLen
 src:s.s.length≤maxLen
 aA6:s.p.Ok
 Qtk:s.c.Qtk.length≤maxLen

theorem asi {c:Cod}{i:Nat}(h:i<c.Qtk.length)(hb:av0 c.Qtk i=false):aoF c=false:=by
 have:(List.range c.Qtk.length).all (av0 c.Qtk)=false:=by
  rw[List.all_eq_false]
  exact⟨i,List.mem_range.2 h,by simp[hb]⟩
 simp[aoF,this]

theorem auI {c:Cod}(hh:ao_ c=false)(h:∀j,j<c.Qtk.length→av0 c.Qtk j=true):aoF c=true:=by
 have:(List.range c.Qtk.length).all (av0 c.Qtk)=true:=List.all_eq_true.2 fun x hx=>h x (List.mem_range.1 hx)
 simp[aoF,hh,this]

theorem asc {c:Cod}(h:ao_ c=true):aoF c=false:=by simp[aoF,h]

theorem aqS {xs:List Art}{i:Nat}(h:i<xs.length):av0 xs i=(!atv xs[i]&&(match i,h with | 0,_=>true | j+1,h=>!aqR xs[j] xs[j+1])):=by
 unfold av0
 rw[List.getElem?_eq_getElem h]
 cases i with
 | zero=>rfl
 | succ j=>simp only[List.getElem?_eq_getElem (show j<xs.length by omega)]

theorem apL {f:Fld}{ss:List Src}:Qty f ss=true↔(Qrk f.Qtq 1 200=true∧Qrk f.places 2 30=true∧(f.least.length:Int)=f.places-1∧(ss.length:Int)≤50)∧(∀x,x∈f.least→Qrk x 0 100000000=true)∧∀s,s∈ss→ara s=false:=by
 unfold Qty
 simp only[Bool.and_eq_true,decide_eq_true_eq,Bool.not_eq_true',List.any_eq_false]
 constructor
 ·rintro⟨h1,h2,h3,h4,h5,h6⟩
  exact⟨⟨h1,h2,h3,h4⟩,fun x hx=>by have:=h5 x hx;simpa using this,fun s hs=>by have:=h6 s hs;simpa using this⟩
 ·rintro⟨⟨h1,h2,h3,h4⟩,h5,h6⟩
  exact⟨h1,h2,h3,h4,fun x hx=>by simp[h5 x hx],fun s hs=>by simp[h6 s hs]⟩

end Go.Am.Rb
