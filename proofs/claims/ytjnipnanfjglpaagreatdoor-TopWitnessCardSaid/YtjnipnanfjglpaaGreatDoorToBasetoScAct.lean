/- Texts. -/
import Derived.Test.YtjnipnanfjglpaaGreatDoorAmUtoAmTabK
import Derived.Test.YtjnipnanfjglpaaGreatDoorAmSoundtoAmUT
import Derived.Test.YtjnipnanfjglpaaGreatDoorProg
set_option linter.unusedSimpArgs false
set_option linter.unusedVariables false
namespace Go.Am.To
open Go.Proofs
abbrev y0 : E := .sym 0
abbrev y1 : E := .sym 1
abbrev y2 : E := .sym 2
abbrev y3 : E := .sym 3
abbrev y4 : E := .sym 4
abbrev y5 : E := .sym 5
abbrev y6 : E := .sym 6
abbrev y7 : E := .sym 7
abbrev y8 : E := .sym 8
abbrev y9 : E := .sym 9
abbrev y10 : E := .sym 10
abbrev y11 : E := .sym 11
abbrev y12 : E := .sym 12
abbrev y13 : E := .sym 13
abbrev y14 : E := .sym 14
abbrev y15 : E := .sym 15
abbrev y16 : E := .sym 16
abbrev y17 : E := .sym 17
abbrev y18 : E := .sym 18
abbrev y19 : E := .sym 19
abbrev y20 : E := .sym 20
abbrev y21 : E := .sym 21
abbrev y22 : E := .sym 22
abbrev y23 : E := .sym 23
abbrev y24 : E := .sym 24
abbrev y25 : E := .sym 25
abbrev y26 : E := .sym 26
abbrev y27 : E := .sym 27
abbrev y28 : E := .sym 28
abbrev y29 : E := .sym 29
abbrev y30 : E := .sym 30
abbrev y31 : E := .sym 31
abbrev y32 : E := .sym 32
abbrev y33 : E := .sym 33
abbrev y34 : E := .sym 34
abbrev y35 : E := .sym 35
abbrev y36 : E := .sym 36
abbrev y37 : E := .sym 37
abbrev y38 : E := .sym 38
abbrev y39 : E := .sym 39
abbrev y40 : E := .sym 40
abbrev y41 : E := .sym 41
abbrev y42 : E := .sym 42
abbrev y43 : E := .sym 43
abbrev y44 : E := .sym 44
abbrev y45 : E := .sym 45
abbrev y46 : E := .sym 46
abbrev y47 : E := .sym 47
abbrev y48 : E := .sym 48
abbrev y49 : E := .sym 49
abbrev y50 : E := .sym 50
abbrev y51 : E := .sym 51
abbrev y52 : E := .sym 52
abbrev y53 : E := .sym 53
abbrev y54 : E := .sym 54
abbrev y55 : E := .sym 55
abbrev y56 : E := .sym 56
abbrev y57 : E := .sym 57
abbrev y58 : E := .sym 58
abbrev y59 : E := .sym 59
abbrev y60 : E := .sym 60
abbrev y61 : E := .sym 61
abbrev y62 : E := .sym 62
abbrev y63 : E := .sym 63
abbrev y64 : E := .sym 64
abbrev y65 : E := .sym 65
abbrev y66 : E := .sym 66
abbrev y67 : E := .sym 67
abbrev y68 : E := .sym 68
abbrev y69 : E := .sym 69
abbrev y70 : E := .sym 70
abbrev y71 : E := .sym 71
abbrev y72 : E := .sym 72
abbrev y73 : E := .sym 73
abbrev y74 : E := .sym 74
abbrev y75 : E := .sym 75
abbrev y76 : E := .sym 76
abbrev y77 : E := .sym 77
abbrev y78 : E := .sym 78
abbrev y79 : E := .sym 79
abbrev y80 : E := .sym 80
abbrev y81 : E := .sym 81
abbrev y82 : E := .sym 82
abbrev y83 : E := .sym 83
abbrev y84 : E := .sym 84
abbrev y85 : E := .sym 85
abbrev y86 : E := .sym 86
abbrev y87 : E := .sym 87
abbrev y88 : E := .sym 88
abbrev y89 : E := .sym 89
abbrev y90 : E := .sym 90
abbrev y91 : E := .sym 91
abbrev y92 : E := .sym 92
abbrev y93 : E := .sym 93
abbrev y94 : E := .sym 94
abbrev y95 : E := .sym 95
abbrev y96 : E := .sym 96
abbrev y97 : E := .sym 97
abbrev y98 : E := .sym 98
abbrev y99 : E := .sym 99
def ct:List Nat:=[6,9,31,59,103,104,105,106,107,108,109,110,111,112,113,114,115,116,117,161,162,158,160,121,167,62,165,166,168,210,200,199,29,150,195,149,214,248,175,204,209]
def cu:List Nat:=[156,157,159,103,104,105,106,107,108,109,110,111,112,113,114,115,116,117,162,165,166,168,1000038]
abbrev l' (a b : E) : E := .ld false 1 a b
abbrev g' (a b : E) : Bind := .ev (.guard a true b)
abbrev f' (a b : E) : Bind := .ev (.guard a false b)
abbrev G' (a b : E) : E := .guard a true b
abbrev F' (a b : E) : E := .guard a false b
abbrev v' (a : E) : Bind := .ev a
abbrev t' (a : E) : E := .av 1 a
abbrev s' (a : E) : E := .av 0 a
abbrev p' (n : Nat) (a : E) : E := .aj n a
abbrev q' (n : Nat) (a : E) : E := .cell n a
abbrev C' (a b : E) : E := .aa a (.aa b .ai)
abbrev D' (a b c : E) : E := .aa a (.aa b (.aa c .ai))
abbrev R' (a b : E) : T := .ret (C' a b)
abbrev X' (o : BinOp) (a b : E) : E := .bin o .int a b
abbrev P' (a b : E) : E := .bin .add .int a b
abbrev M' (a b : E) : E := .bin .sub .int a b
abbrev Q' (a b : E) : E := .bin .eql .int a b
abbrev c' (f : Nat) (h : E) (l : List E) (r : List Bool) : Bind := .call [] f h l r
abbrev w' (f : Nat) (h : E) (l : List E) (r : List Bool) : Bind := .bw [] f h l r
abbrev W' (l : List Bind) (t : T) : T := af l t
abbrev Z' (a : Array UInt8) : E := .const (.v (.string ⟨a⟩))
abbrev k' (n : Int) : E := .const (.v (.int .u64 n))
abbrev K' (n : Int) : E := .const (.v (.int .u8 n))
abbrev m' (o : MOp) (a : E) : E := .m4 o a .nil .nil .nil
abbrev n' (o : MOp) (a b : E) : E := .m4 o a b .nil .nil
abbrev o' (o : MOp) (a b c : E) : E := .m4 o a b c .nil
abbrev z' (a : E) : E := .aV a
abbrev j' (a b : E) : E := .cons a b
abbrev i' (a b c : E) : E := .ite a b c
abbrev J' (n : Nat) (l : List E) : T := .jump n l
abbrev I' (a : E) (b c : T) : T := .ite a b c
abbrev N' (a : E) : E := .un .not a
abbrev E' (g : Func) (r : Bool) (w m : List Nat) (z : List (Nat × Nat)) : cF := { (aq r (w ++ ct) cu m z g) with aS := true, cn := true }
abbrev e' (f : Nat) (g : Func) (r o : Bool) (w m : List Nat) (z : List (Nat × Nat)) (l : List Bool) (t : T) : Entry := { f := f, kn := .plain, cf := { (aq r (w ++ ct) cu m z g) with aS := true, cn := true }, own := o, bn := l, t := t }
abbrev ki (n:Int):E:=.const (.v (.int .i64 n))
abbrev kb (b:Bool):E:=.const (.v (.bool b))
def yc (x:E):Nat→Nat→E
 | _,0=>.nil
 | k,n+1=>.cons (.cell k x) (yc x (k+1) n)
def r6 (n:Nat)(x:E):E:=yc x 0 n
abbrev i (n:Int):D:=.v (.int .i64 n)
abbrev b (x:Bool):D:=.v (.bool x)
def b0:List D:=[.qF 5 395 [.int .u8 0,.int .u8 1,.int .u8 56,.int .u8 2,.int .u8 57,.int .u8 49,.int .u8 28,.int .u8 3,.int .u8 61,.int .u8 58,.int .u8 42,.int .u8 50,.int .u8 38,.int .u8 29,.int .u8 17,.int .u8 4,.int .u8 62,.int .u8 47,.int .u8 59,.int .u8 36,.int .u8 45,.int .u8 43,.int .u8 51,.int .u8 22,.int .u8 53,.int .u8 39,.int .u8 33,.int .u8 30,.int .u8 24,.int .u8 18,.int .u8 12,.int .u8 5,.int .u8 63,.int .u8 55,.int .u8 48,.int .u8 27,.int .u8 60,.int .u8 41,.int .u8 37,.int .u8 16,.int .u8 46,.int .u8 35,.int .u8 44,.int .u8 21,.int .u8 52,.int .u8 32,.int .u8 23,.int .u8 11,.int .u8 54,.int .u8 26,.int .u8 40,.int .u8 15,.int .u8 34,.int .u8 20,.int .u8 31,.int .u8 10,.int .u8 25,.int .u8 14,.int .u8 19,.int .u8 9,.int .u8 13,.int .u8 8,.int .u8 7,.int .u8 6]]
theorem FX:rD b0=true:=rfl
end Go.Am.To
namespace Go.Am.To
open Go.Proofs
theorem U' {P : Program} {f : FuncId} {cf : cF} {bn : List Bool} {u : U} {fn : Func} (hf : P.funcs[f]? = some fn) (h1 : bK P fn = bn := by kernel_rfl) (h2 : (jE P cf fn).bind (qO (bn.length + 1)) = some u := by kernel_rfl) : bP P f .plain cf bn u := bP.plain hf h1 h2
noncomputable def u9:U:=aD [.call 28 y2 [y0] [true],.ev (N' y3)] (.ite y4 (.ret (C' (ki 1) y2)) (aD [.aR (.nn y0),.aR (p' 34 y0),.ev (l' y2 (p' 34 y0)),.ev (.bI y5),.ev (X' .geq y6 (ki 5000))] (.ite y7 (aD [.aR (.nn y0),.aR (p' 0 y0),.ev (.ld true 30 y2 (p' 0 y0)),.aR (.nn y0),.aR (p' 34 y0),.ev (l' y2 (p' 34 y0)),.call 30 y2 [y9] [true],.bw 29 y2 [y8,y10] [true,true,true],.bw 31 y12 [s' y11,y1] [true],.ev (X' .neq y13 (ki 0))] (.ite y15 (.ret (C' y13 y14)) (.ret (C' (ki 4) y14)))) (aD [.bw 31 y2 [y0,y1] [true],.ev (X' .neq y8 (ki 0))] (.ite y10 (.ret (C' y8 y9)) (aD [.aR (.nn y0),.aR (p' 34 y0),.ev (l' y9 (p' 34 y0)),.aR (.nn y0),.aR (p' 34 y0),.ev (l' y9 (p' 34 y0)),.call 32 y9 [y12,y1] [true],.ev (j' (z' y1) (j' (z' y13) .nil)),.ev (.bz (.bE 2 y14) (.const (.bk []))),.ev (.gM 117 2 32 y9 y11 y15),.aR (.nn y0),.aR (p' 34 y0),.ev (.eL 1 y16 (p' 34 y0) (.apps y9 y11 y15))] (.ret (C' (ki 0) y17))))))))
theorem ku9:bP Tryz.prog 9 .plain (E' Tryz.f9 false [] [] []) [true,true] u9:=U' Tryz.func9
noncomputable def u28:U:=aD [.ev (.bin .neq .ptr y0 (.const (.v (.pointer none)))),.chain false y2 (aD [.aR (.nn y0),.aR (p' 30 y0),.ev (l' y1 (p' 30 y0)),.ev (.bin .neq .ptr y3 (.const (.v (.pointer none))))] (.ret y4))] (.ret (C' y3 y1))
theorem agr:bP Tryz.prog 28 .plain (E' Tryz.f28 true [] [] []) [true] u28:=U' Tryz.func28
noncomputable def u32:U:=aD [.ev (.bI y0),.ev (X' .gtr y3 (ki 0)),.join 0 1 (.ite y4 (aD [.ev (M' y3 (ki 1)),.ev (.ax 2 y0 y5),.aR (p' 1 y6),.ev (l' y2 (p' 1 y6)),.call 60 y2 [y7,ki 16,ki 64] [true,true]] (.jump 0 [s' y8] [])) (.jump 0 [k' 14695981039346656037] [])),.call 46 y2 [y5,y1] [true],.call 47 y2 [y6] [true]] (.ret (C' y7 y2))
theorem TG:bP Tryz.prog 32 .plain (E' Tryz.f32 true [] [] []) [true,true] u32:=U' Tryz.func32
noncomputable def u46:U:=aD [.ev (.gy y1),.join 0 1 (.loop 1 [y0,ki 0] (aD [.ev (X' .lss y5 y3)] (.ite y6 (aD [.join 2 1 (aD [.ev (n' .kN y1 y5),.ev (.conv .u64 y7),.ev (X' .xor y4 y8),.ev (X' .mul y9 (k' 1099511628211))] (.jump 2 [y10] [])),.ev (P' y5 (ki 1))] (.jump 1 [y7,y8] [])) (.jump 0 [y4] [])))),.ev (X' .mul y4 (k' 1099511628211))] (.ret (C' y5 y2))
theorem am8:bP Tryz.prog 46 .plain (E' Tryz.f46 true [] [] []) [true,true] u46:=U' Tryz.func46
noncomputable def u47:U:=aD [.call 91 y1 [y0,ki 16] [true],.ev (.gy y2),.ev (M' (ki 16) y3),.call 92 y1 [Z' #[48],y4] [true],.ev (.bin .add .str y5 y2)] (.ret (C' y6 y1))
theorem am7:bP Tryz.prog 47 .plain (E' Tryz.f47 true [] [] []) [true] u47:=U' Tryz.func47
noncomputable def u60:U:=aD [.call 118 y3 [y0,y1,y2] [true,true],.ev (m' (.JG true) (t' y4))] (.ite y5 (aD [.call 119 y3 [Z' #[80,97,114,115,101,85,105,110,116],y0,y1,y2,t' y4] [true]] (.ret (C' (C' (s' y4) y6) y3))) (.ret (C' (C' (s' y4) (.const (.v .nilIface))) y3)))
theorem am4:bP Tryz.prog 60 .plain (E' Tryz.f60 true [] [] []) [true,true,true] u60:=U' Tryz.func60
noncomputable def u91:U:=aD [.call 146 y2 [y0,y1] [true]] (.ret (C' y3 y2))
theorem amM:bP Tryz.prog 91 .plain (E' Tryz.f91 true [] [] []) [true,true] u91:=U' Tryz.func91
noncomputable def afd:U:=aD [.ev (.bin .eql .str y0 (Z' #[]))] (.ite y4 (.ret (C' (C' (k' 0) (.iW 292 (ki 2))) y3)) (aD [.ev (Q' y1 (ki 0)),.join 0 2 (aD [.ev (X' .leq (ki 2) y1),.chain false y6 (aD [.ev (X' .leq y1 (ki 36))] (.ret y7)),.join 1 2 (.ite y7 (.jump 1 [y0,y1] []) (aD [.ev (Q' y1 (ki 0))] (.ite y8 (aD [.ev (n' .kN y0 (ki 0)),.ev (Q' y9 (K' 48)),.join 2 2 (.ite y10 (aD [.join 3 2 (aD [.ev (.gy y0),.ev (X' .geq y11 (ki 3)),.chain false y12 (aD [.ev (n' .kN y0 (ki 1)),.call 169 y3 [y13] [true],.ev (Q' y14 (K' 98))] (.ret y15)),.join 4 2 (.ite y13 (aD [.ev (o' .kM y0 (ki 2) (.gy y0))] (.jump 4 [y14,ki 2] [])) (aD [.ev (.gy y0),.ev (X' .geq y14 (ki 3)),.chain false y15 (aD [.ev (n' .kN y0 (ki 1)),.call 169 y3 [y16] [true],.ev (Q' y17 (K' 111))] (.ret y18)),.join 5 2 (.ite y16 (aD [.ev (o' .kM y0 (ki 2) (.gy y0))] (.jump 5 [y17,ki 8] [])) (aD [.ev (.gy y0),.ev (X' .geq y17 (ki 3)),.chain false y18 (aD [.ev (n' .kN y0 (ki 1)),.call 169 y3 [y19] [true],.ev (Q' y20 (K' 120))] (.ret y21)),.join 6 2 (.ite y19 (aD [.ev (o' .kM y0 (ki 2) (.gy y0))] (.jump 6 [y20,ki 16] [])) (aD [.ev (o' .kM y0 (ki 1) (.gy y0))] (.jump 6 [y20,ki 8] [])))] (.jump 5 [y20,y21] [])))] (.jump 4 [y17,y18] [])))] (.jump 3 [y14,y15] []))] (.jump 2 [y11,y12] [])) (.jump 2 [y0,ki 10] []))] (.jump 1 [y11,y12] [])) (.ret (C' (C' (k' 0) (.iW 292 (ki 3))) y3)))))] (.jump 0 [y8,y9] [])),.ev (Q' y2 (ki 0)),.join 0 1 (.ite y8 (.jump 0 [ki 64] []) (aD [.ev (X' .lss y2 (ki 0)),.chain true y9 (aD [.ev (X' .gtr y2 (ki 64))] (.ret y10))] (.ite y10 (.ret (C' (C' (k' 0) (.iW 292 (ki 4))) y3)) (.jump 0 [y2] [])))),.join 0 1 (aD [.ev (Q' y7 (ki 10)),.join 1 1 (.ite y10 (.jump 1 [k' 1844674407370955162] []) (aD [.ev (Q' y7 (ki 16)),.join 2 1 (.ite y11 (.jump 2 [k' 1152921504606846976] []) (aD [.ev (.conv .u64 y7),.ev (X' .quo (k' 18446744073709551615) y12),.ev (P' y13 (k' 1))] (.jump 2 [y14] [])))] (.jump 1 [y12] [])))] (.jump 0 [y11] [])),.ev (.conv .u64 y9),.ev (X' .shl (k' 1) y11),.ev (M' y12 (k' 1)),.ev (m' .jO y6),.ev (.bI y14),.join 0 2 (.loop 1 [kb false,k' 0,ki 0] (aD [.ev (X' .lss y18 y15)] (.ite y19 (aD [.join 2 2 (aD [.ev (.ax 1 y14 y18),.ev (l' y3 y20),.join 3 5 (aD [.ev (Q' y21 (K' 95)),.ev (.ite y22 y5 (kb false))] (.ite y23 (.jump 2 [kb true,y17] []) (aD [.ev (X' .leq (K' 48) y21),.chain false y24 (aD [.ev (X' .leq y21 (K' 57))] (.ret y25)),.join 4 1 (.ite y25 (aD [.ev (M' y21 (K' 48))] (.jump 4 [y26] [])) (aD [.call 169 y3 [y21] [true],.ev (X' .leq (K' 97) y26),.chain false y27 (aD [.call 169 y3 [y21] [true],.ev (X' .leq y28 (K' 122))] (.ret y29))] (.ite y28 (aD [.call 169 y3 [y21] [true],.ev (M' y29 (K' 97)),.ev (P' y30 (K' 10))] (.jump 4 [y31] [])) (.ret (C' (C' (k' 0) (.iW 292 (ki 2))) y3)))))] (.jump 3 [y26,y23,y22,y22,y23] [])))),.ev (.conv .u8 y7),.ev (X' .geq y22 y27)] (.ite y28 (.ret (C' (C' (k' 0) (.iW 292 (ki 2))) y3)) (aD [.ev (X' .geq y17 y10)] (.ite y29 (.ret (C' (C' y13 (.iW 292 (ki 1))) y3)) (aD [.ev (.conv .u64 y7),.ev (X' .mul y17 y30),.ev (.conv .u64 y22),.ev (P' y31 y32),.ev (X' .lss y33 y31),.chain true y34 (aD [.ev (X' .gtr y33 y13)] (.ret y35))] (.ite y35 (.ret (C' (C' y13 (.iW 292 (ki 1))) y3)) (.jump 2 [y16,y33] []))))))),.ev (P' y18 (ki 1))] (.jump 1 [y20,y21,y22] [])) (.jump 0 [y16,y17] [])))),.chain false y16 (aD [.call 170 y3 [y0] [true],.ev (N' y18)] (.ret y19))] (.ite y18 (.ret (C' (C' (k' 0) (.iW 292 (ki 2))) y3)) (.ret (C' (C' y17 (.const (.v .nilIface))) y3)))))
theorem ag6:bP Tryz.prog 118 .plain (E' Tryz.f118 true [] [] []) [true,true,true] afd:=U' Tryz.func118
noncomputable def aeY:U:=aD [.ev (Q' y1 (ki 10))] (.ite y3 (aD [.ev (X' .lss y0 (k' 100))] (.ite y4 (aD [.ev (.conv .i64 y0),.call 187 y2 [y5] [true]] (.ret (C' y6 y2))) (aD [.call 188 y2 [y0] [true]] (.ret (.deref .nil))))) (aD [.call 190 y2 [.const (.bk []),y0,y1,kb false,kb false] [true,true]] (.ret (C' (t' y4) y2))))
theorem agQ:bP Tryz.prog 146 .plain (E' Tryz.f146 true [] [] []) [true,true] aeY:=U' Tryz.func146
noncomputable def aeU:U:=aD [.ev (X' .or y0 (K' 32))] (.ret (C' y2 y1))
theorem agM:bP Tryz.prog 169 .plain (E' Tryz.f169 true [] [] []) [true] aeU:=U' Tryz.func169
noncomputable def aeN:U:=aD [.ev (X' .lss y2 (ki 2)),.chain true y6 (aD [.ev (Q' y2 (ki 10))] (.ret y7)),.chain true y7 (aD [.ev (X' .gtr y2 (ki 36))] (.ret y8)),.join 0 0 (.ite y8 (.ee (m' .s8 (.iW 9 (Z' #[115,116,114,99,111,110,118,58,32,105,108,108,101,103,97,108,32,65,112,112,101,110,100,73,110,116,47,70,111,114,109,97,116,73,110,116,32,98,97,115,101]))) y5 [] []) (.jump 0 [] [])),.ev (.fO 346 65 y5 (.const (.agg [.v (.int .u8 0),.v (.int .u8 0),.v (.int .u8 0),.v (.int .u8 0),.v (.int .u8 0),.v (.int .u8 0),.v (.int .u8 0),.v (.int .u8 0),.v (.int .u8 0),.v (.int .u8 0),.v (.int .u8 0),.v (.int .u8 0),.v (.int .u8 0),.v (.int .u8 0),.v (.int .u8 0),.v (.int .u8 0),.v (.int .u8 0),.v (.int .u8 0),.v (.int .u8 0),.v (.int .u8 0),.v (.int .u8 0),.v (.int .u8 0),.v (.int .u8 0),.v (.int .u8 0),.v (.int .u8 0),.v (.int .u8 0),.v (.int .u8 0),.v (.int .u8 0),.v (.int .u8 0),.v (.int .u8 0),.v (.int .u8 0),.v (.int .u8 0),.v (.int .u8 0),.v (.int .u8 0),.v (.int .u8 0),.v (.int .u8 0),.v (.int .u8 0),.v (.int .u8 0),.v (.int .u8 0),.v (.int .u8 0),.v (.int .u8 0),.v (.int .u8 0),.v (.int .u8 0),.v (.int .u8 0),.v (.int .u8 0),.v (.int .u8 0),.v (.int .u8 0),.v (.int .u8 0),.v (.int .u8 0),.v (.int .u8 0),.v (.int .u8 0),.v (.int .u8 0),.v (.int .u8 0),.v (.int .u8 0),.v (.int .u8 0),.v (.int .u8 0),.v (.int .u8 0),.v (.int .u8 0),.v (.int .u8 0),.v (.int .u8 0),.v (.int .u8 0),.v (.int .u8 0),.v (.int .u8 0),.v (.int .u8 0),.v (.int .u8 0)]))),.join 0 1 (.ite y3 (aD [.ev (.un .neg y1)] (.jump 0 [y10] [])) (.jump 0 [y1] [])),.call 223 y9 [y2] [true],.join 0 2 (.ite y11 (aD [.ev (.conv .u64 y2),.call 224 y9 [y12] [true],.ev (.conv .u64 y13),.ev (.conv .u64 y2),.ev (.conv .u64 y2),.ev (M' y16 (k' 1)),.join 1 3 (.loop 2 [y10,ki 65,y9] (aD [.ev (X' .geq y18 y15)] (.ite y21 (aD [.join 3 3 (aD [.ev (M' y19 (ki 1)),.ev (X' .and y18 y17),.ev (n' .kN (Z' #[48,49,50,51,52,53,54,55,56,57,97,98,99,100,101,102,103,104,105,106,107,108,109,110,111,112,113,114,115,116,117,118,119,120,121,122]) y23),.ev (n' (.iJ 65 1) (.aJ y5) y22),.ev (.eL 1 y20 y25 y24),.ev (X' .shr y18 y14)] (.jump 3 [y27,y22,y26] []))] (.jump 2 [y22,y23,y24] [])) (.jump 1 [y18,y19,y20] [])))),.ev (M' y19 (ki 1)),.ev (n' .kN (Z' #[48,49,50,51,52,53,54,55,56,57,97,98,99,100,101,102,103,104,105,106,107,108,109,110,111,112,113,114,115,116,117,118,119,120,121,122]) y18),.ev (n' (.iJ 65 1) (.aJ y5) y21),.ev (.eL 1 y20 y23 y22)] (.jump 0 [y21,y24] [])) (aD [.ev (.conv .u64 y2),.join 1 3 (.loop 2 [y10,ki 65,y9] (aD [.ev (X' .geq y13 y12)] (.ite y16 (aD [.join 3 3 (aD [.ev (M' y14 (ki 1)),.ev (X' .quo y13 y12),.ev (X' .mul y18 y12),.ev (M' y13 y19),.ev (n' .kN (Z' #[48,49,50,51,52,53,54,55,56,57,97,98,99,100,101,102,103,104,105,106,107,108,109,110,111,112,113,114,115,116,117,118,119,120,121,122]) y20),.ev (n' (.iJ 65 1) (.aJ y5) y17),.ev (.eL 1 y15 y22 y21)] (.jump 3 [y18,y17,y23] []))] (.jump 2 [y17,y18,y19] [])) (.jump 1 [y13,y14,y15] [])))),.ev (M' y14 (ki 1)),.ev (n' .kN (Z' #[48,49,50,51,52,53,54,55,56,57,97,98,99,100,101,102,103,104,105,106,107,108,109,110,111,112,113,114,115,116,117,118,119,120,121,122]) y13),.ev (n' (.iJ 65 1) (.aJ y5) y16),.ev (.eL 1 y15 y18 y17)] (.jump 0 [y16,y19] []))),.join 0 2 (.ite y3 (aD [.ev (M' y12 (ki 1)),.ev (n' (.iJ 65 1) (.aJ y5) y14),.ev (.eL 1 y13 y15 (K' 45))] (.jump 0 [y14,y16] [])) (.jump 0 [y12,y13] []))] (.ite y4 (aD [.ev (n' (.V8 65 1) (.aJ y5) y14),.ev (.gM 5 1 1 y15 y0 y16)] (.ret (C' (C' (.apps y15 y0 y16) (Z' #[])) y17))) (aD [.ev (n' (.V8 65 1) (.aJ y5) y14),.ev (n' .uZ y15 y16)] (.ret (C' (C' (.const (.bk [])) y17) y15))))
theorem agF:bP Tryz.prog 190 .plain (E' Tryz.f190 false [] [12,101] []) [true,true,true,true,true] aeN:=U' Tryz.func190
end Go.Am.To
namespace Go.Am.To
open Go.Proofs
noncomputable def aeW:U:=aD [.ev (.cw (j' (z' y0) .nil)),.ev (.cw (.bE 4 y1)),.ev (l' y2 y3),.call 66 y2 [y5] [true],.ev (N' y6)] (.ite y7 (.ret (C' (ki 1) y2)) (aD [.ev (l' y2 y3),.ev (.ld true 4 y2 y4),.call 198 y2 [y8,y9] [true],.ev (N' y10)] (.ite y11 (.ret (C' (ki 2) y2)) (aD [.ev (l' y2 y3),.aR (.nn y12),.aR (p' 14 y12),.ev (l' y2 (p' 14 y12)),.aR (p' 3 y4),.ev (l' y2 (p' 3 y4)),.ev (.ax 5 y13 y14),.ev (.b_ 199 .ai (C' y3 y4)),.aR (p' 0 y4),.ev (l' y2 (p' 0 y4)),.join 0 1 (aD [.ev (Q' y17 (ki 1)),.join 1 1 (.ite y18 (.jump 1 [y18] []) (aD [.ev (Q' y17 (ki 2))] (.jump 1 [y19] []))),.join 1 1 (.ite y19 (aD [.ev (l' y2 y3),.aR (.nn y20),.aR (p' 6 y20),.ev (n' (.iJ 2 3) (p' 6 y20) (ki 0)),.aR (p' 0 y4),.ev (l' y2 (p' 0 y4)),.ev (Q' y22 (ki 1)),.aR (p' 1 y4),.ev (l' y2 (p' 1 y4)),.bw 200 y2 [y21,y23,y24,kb false] []] (.jump 1 [y26] [])) (aD [.ev (Q' y17 (ki 6)),.join 2 1 (.ite y20 (.jump 2 [y20] []) (aD [.ev (Q' y17 (ki 7))] (.jump 2 [y21] []))),.join 2 1 (.ite y21 (aD [.ev (l' y2 y3),.aR (.nn y22),.aR (p' 6 y22),.ev (n' (.iJ 2 3) (p' 6 y22) (ki 1)),.aR (p' 0 y4),.ev (l' y2 (p' 0 y4)),.ev (Q' y24 (ki 6)),.aR (p' 1 y4),.ev (l' y2 (p' 1 y4)),.bw 200 y2 [y23,y25,y26,kb false] []] (.jump 2 [y28] [])) (aD [.ev (Q' y17 (ki 3)),.join 3 1 (.ite y22 (aD [.gen (.dG [] y16 y2 [] [])] (.jump 3 [t' y23] [])) (aD [.ev (Q' y17 (ki 4)),.join 4 1 (.ite y23 (.jump 4 [y23] []) (aD [.ev (Q' y17 (ki 5))] (.jump 4 [y24] []))),.join 4 1 (.ite y24 (aD [.ev (l' y2 y3),.aR (.nn y25),.aR (p' 12 y25),.ev (l' y2 (p' 12 y25)),.aR (p' 2 y4),.ev (l' y2 (p' 2 y4)),.ev (.ax 3 y26 y27),.aR (p' 0 y4),.ev (l' y2 (p' 0 y4)),.ev (Q' y29 (ki 4)),.aR (p' 1 y4),.ev (l' y2 (p' 1 y4)),.bw 200 y2 [y28,y30,y31,kb true] [],.gen (.dG [] y16 y33 [] [])] (.jump 4 [t' y34] [])) (aD [.ev (Q' y17 (ki 8)),.join 5 1 (.ite y25 (aD [.aR (.nn y15),.aR (p' 0 y15),.ev (l' y2 (p' 0 y15)),.join 6 1 (.ite y26 (aD [.aR (.nn y15),.aR (p' 2 y15),.ev (l' y2 (p' 2 y15)),.aR (p' 2 y4),.ev (l' y2 (p' 2 y4)),.ev (.mm true y27 y28),.aR (.nn y15),.aR (p' 2 y15),.ev (.eL 1 y2 (p' 2 y15) y29)] (.jump 6 [y30] [])) (.jump 6 [y2] [])),.gen (.dG [] y16 y27 [] [])] (.jump 5 [t' y28] [])) (aD [.ev (Q' y17 (ki 9)),.join 6 1 (.ite y26 (aD [.aR (.nn y15),.aR (p' 3 y15),.ev (l' y2 (p' 3 y15)),.chain true y27 (aD [.aR (.nn y15),.aR (p' 0 y15),.ev (l' y2 (p' 0 y15))] (.ret y28)),.aR (.nn y15),.aR (p' 3 y15),.ev (.eL 1 y2 (p' 3 y15) y28)] (.jump 6 [y29] [])) (aD [.ev (Q' y17 (ki 10)),.join 7 1 (.ite y27 (aD [.aR (.nn y15),.aR (p' 4 y15),.ev (l' y2 (p' 4 y15)),.chain true y28 (aD [.aR (.nn y15),.aR (p' 0 y15),.ev (l' y2 (p' 0 y15))] (.ret y29)),.aR (.nn y15),.aR (p' 4 y15),.ev (.eL 1 y2 (p' 4 y15) y29)] (.jump 7 [y30] [])) (.jump 7 [y2] []))] (.jump 6 [y28] [])))] (.jump 5 [y27] [])))] (.jump 4 [y26] [])))] (.jump 3 [y25] [])))] (.jump 2 [y23] [])))] (.jump 1 [y22] [])))] (.jump 0 [y20] []))] (.ret (C' (ki 0) y18))))))
theorem agO:bP Tryz.prog 158 .plain (E' Tryz.f158 false [1000053,1000071,1000089] [] []) [true,false] aeW:=U' Tryz.func158
noncomputable def aeK:U:=aD [.aR (.bE 4 y1),.ev (Q' (q' 0 y1) (ki 3)),.chain true y3 (aD [.aR (q' 0 y1),.ev (Q' (q' 0 y1) (ki 4))] (.ret y4)),.chain true y4 (aD [.aR (q' 0 y1),.ev (Q' (q' 0 y1) (ki 5))] (.ret y5)),.chain true y5 (aD [.aR (q' 0 y1),.ev (Q' (q' 0 y1) (ki 8))] (.ret y6)),.ev (Q' (q' 0 y1) (ki 8)),.chain true y7 (aD [.aR (q' 0 y1),.ev (Q' (q' 0 y1) (ki 9))] (.ret y8)),.chain true y8 (aD [.aR (q' 0 y1),.ev (Q' (q' 0 y1) (ki 10))] (.ret y9)),.ev (X' .lss (q' 0 y1) (ki 1)),.chain true y10 (aD [.aR (q' 0 y1),.ev (X' .gtr (q' 0 y1) (ki 10))] (.ret y11)),.chain true y11 (aD [.aR (q' 1 y1),.call 41 y2 [q' 1 y1,ki 0,ki 100000] [true],.ev (N' y12)] (.ret y13)),.chain true y12 (aD [.ev (N' y6),.chain false y13 (aD [.aR (q' 2 y1),.ev (X' .neq (q' 2 y1) (ki 0))] (.ret y14))] (.ret y14)),.chain true y13 (aD [.ev (N' y9),.chain false y14 (aD [.aR (q' 3 y1),.ev (X' .neq (q' 3 y1) (ki 0))] (.ret y15))] (.ret y15))] (.ite y14 (.ret (C' (kb false) y2)) (aD [.aR (.nn y0),.aR (p' 0 y0),.aR (p' 0 (p' 0 y0)),.ev (l' y2 (p' 0 (p' 0 y0))),.ev (M' y15 (ki 1)),.call 41 y2 [q' 2 y1,ki 0,y16] [true],.chain false y17 (aD [.aR (q' 3 y1),.aR (.nn y0),.aR (p' 0 y0),.aR (p' 5 (p' 0 y0)),.ev (l' y2 (p' 5 (p' 0 y0))),.ev (M' y18 (ki 1)),.call 41 y2 [q' 3 y1,ki 0,y19] [true]] (.ret y20))] (.ret (C' y18 y2))))
theorem agC:bP Tryz.prog 198 .plain (E' Tryz.f198 true [] [] []) [true,false] aeK:=U' Tryz.func198
noncomputable def aeJ:U:=aD [.ev (l' y2 y0),.aR (.nn y3),.aR (p' 13 y3),.ev (l' y2 (p' 13 y3)),.aR (p' 2 y1),.ev (l' y2 (p' 2 y1)),.ev (.ax 3 y4 y5),.aR (p' 1 y1),.ev (l' y2 (p' 1 y1)),.bw 200 y2 [y6,kb true,y7,kb true] []] (.ret (C' .ai y9))
theorem agB:bP Tryz.prog 199 .plain (E' Tryz.f199 false [] [] []) [true,true] aeJ:=U' Tryz.func199
noncomputable def aeI:U:=aD [.aR (.nn y0),.aR (p' 2 y0),.ev (l' y4 (p' 2 y0)),.ev (N' y5),.chain true y6 (aD [.aR (.nn y0),.aR (p' 1 y0),.ev (l' y4 (p' 1 y0)),.ev (X' .gtr y2 y7)] (.ret y8)),.chain true y7 (aD [.aR (.nn y0),.aR (p' 1 y0),.ev (l' y4 (p' 1 y0)),.ev (Q' y2 y8),.chain false y9 (aD [.ev (.bin .eql .bool y1 y3)] (.ret y10))] (.ret y10)),.join 0 1 (.ite y8 (aD [.aR (.nn y0),.aR (p' 0 y0),.ev (.eL 1 y4 (p' 0 y0) y1)] (.jump 0 [y9] [])) (.jump 0 [y4] [])),.aR (.nn y0),.aR (p' 1 y0),.ev (l' y9 (p' 1 y0)),.ev (.mm true y10 y2),.aR (.nn y0),.aR (p' 1 y0),.ev (.eL 1 y9 (p' 1 y0) y11),.aR (.nn y0),.aR (p' 2 y0),.ev (.eL 1 y12 (p' 2 y0) (kb true))] (.ret (C' .ai y13))
theorem agA:bP Tryz.prog 200 .plain (E' Tryz.f200 false [] [] []) [true,true,true,true] aeI:=U' Tryz.func200
noncomputable def aaR:U:=aD [.call 35 y3 [y0,y1,y2] [true,true],.ev (X' .neq (t' y4) (ki 0))] (.ite y5 (.ret (C' (t' y4) y3)) (aD [.ev (.bI (s' y4)),.ev (X' .gtr y6 (ki 0))] (.ite y7 (.ret (C' (ki 7) y3)) (aD [.aR (.nn y0),.aR (p' 14 y0),.ev (l' y3 (p' 14 y0)),.aR (.nn y0),.aR (p' 14 y0),.ev (l' y3 (p' 14 y0)),.ev (.ax 5 y8 y1),.aR (p' 0 y10),.ev (.eL 1 y3 (p' 0 y10) (kb true)),.ev (.ax 5 y9 y1),.aR (p' 1 y12),.ev (.eL 1 y11 (p' 1 y12) y2)] (.ret (C' (ki 0) y13))))))
theorem ZQ:bP Tryz.prog 160 .plain (E' Tryz.f160 false [] [] []) [true,true,true] aaR:=U' Tryz.func160
noncomputable def u35:U:=aD [.call 66 y3 [y0] [true],.ev (N' y4)] (.ite y5 (.ret (C' (C' (.const (.bk [])) (ki 1)) y3)) (aD [.aR (.nn y0),.aR (p' 0 y0),.aR (p' 5 (p' 0 y0)),.ev (l' y3 (p' 5 (p' 0 y0))),.ev (M' y6 (ki 1)),.call 41 y3 [y1,ki 0,y7] [true],.ev (N' y8),.chain true y9 (aD [.call 41 y3 [y2,ki 0,ki 100000] [true],.ev (N' y10)] (.ret y11))] (.ite y10 (.ret (C' (C' (.const (.bk [])) (ki 2)) y3)) (aD [.ev (.b_ 67 (.aa y0 .ai) .ai),.ev (.b_ 68 (.aa y0 .ai) .ai),.ev (.b_ 69 (.aa y0 .ai) .ai),.ev (.b_ 70 (.aa y0 .ai) .ai),.ev (.b_ 71 (.aa y0 .ai) .ai),.ev (.b_ 72 (.aa y0 .ai) .ai),.ev (.b_ 73 (.aa y0 .ai) .ai),.ev (.b_ 74 (.aa y0 .ai) .ai),.ev (.bz (z' y11) (.bz (z' y12) (.bz (z' y13) (.bz (z' y14) (.bz (z' y15) (.bz (z' y16) (.bz (z' y17) (.bz (z' y18) (.const (.bk [])))))))))),.ev (.bI y19),.join 0 1 (.loop 1 [.const (.bk []),ki 0] (aD [.ev (X' .lss y22 y20)] (.ite y23 (aD [.join 2 1 (aD [.ev (.ax 1 y19 y22),.ev (l' y3 y24),.ei y25 y3 [y1,y2] [true],.join 3 1 (.ite y26 (aD [.ev (P' (ki 1) y22),.ev (.bz (z' y27) (.const (.bk []))),.ev (.app 1 8 y21 y28)] (.jump 3 [y29] [])) (.jump 3 [y21] []))] (.jump 2 [y27] [])),.ev (P' y22 (ki 1))] (.jump 1 [y24,y25] [])) (.jump 0 [y21] []))))] (.ret (C' (C' y21 (ki 0)) y3))))))
theorem anb:bP Tryz.prog 35 .plain (E' Tryz.f35 true [] [] []) [true,true,true] u35:=U' Tryz.func35
noncomputable def u66:U:=aD [.ev (.bin .neq .ptr y0 (.const (.v (.pointer none)))),.chain false y2 (aD [.aR (.nn y0),.aR (p' 14 y0),.ev (l' y1 (p' 14 y0)),.ev (.bI y3),.ev (X' .gtr y4 (ki 0))] (.ret y5))] (.ret (C' y3 y1))
theorem amY:bP Tryz.prog 66 .plain (E' Tryz.f66 true [] [] []) [true] u66:=U' Tryz.func66
noncomputable def u67:U:=aD [.aR (.nn y0),.aR (p' 6 y0),.ev (n' (.iJ 2 3) (p' 6 y0) (ki 0)),.aR (p' 0 y4),.ev (l' y3 (p' 0 y4)),.ev (N' y5)] (.ret (C' y6 y3))
theorem amX:bP Tryz.prog 67 .plain (E' Tryz.f67 true [] [] []) [true,true,true] u67:=U' Tryz.func67
noncomputable def u68:U:=aD [.aR (.nn y0),.aR (p' 12 y0),.ev (l' y3 (p' 12 y0)),.call 128 y3 [y4,.const (.fn 129 [] [])] [true]] (.ret (C' y5 y3))
theorem amW:bP Tryz.prog 68 .plain (E' Tryz.f68 true [] [] []) [true,true,true] u68:=U' Tryz.func68
noncomputable def u69:U:=aD [.ev (.cw (j' (z' y0) .nil)),.ev (.cw (j' (z' y2) .nil)),.ev (l' y3 y4),.aR (.nn y6),.aR (p' 13 y6),.ev (l' y3 (p' 13 y6)),.ev (.b_ 130 .ai (C' y5 y4)),.call 128 y3 [y7,y8] [true]] (.ret (C' y9 y3))
theorem amV:bP Tryz.prog 69 .plain (E' Tryz.f69 true [] [] []) [true,true,true] u69:=U' Tryz.func69
noncomputable def u70:U:=aD [.aR (.nn y0),.aR (p' 6 y0),.ev (n' (.iJ 2 3) (p' 6 y0) (ki 1)),.aR (p' 0 y4),.ev (l' y3 (p' 0 y4)),.ev (N' y5)] (.ret (C' y6 y3))
theorem amU:bP Tryz.prog 70 .plain (E' Tryz.f70 true [] [] []) [true,true,true] u70:=U' Tryz.func70
noncomputable def u71:U:=aD [.ev (.cw (j' (z' y0) .nil)),.ev (l' y3 y4),.ev (.b_ 132 .ai (.aa y4 .ai)),.call 131 y3 [y5,y6] [true]] (.ret (C' y7 y3))
theorem amT:bP Tryz.prog 71 .plain (E' Tryz.f71 true [] [] []) [true,true,true] u71:=U' Tryz.func71
noncomputable def u72:U:=aD [.ev (.cw (j' (z' y0) .nil)),.ev (.cw (j' (z' y2) .nil)),.ev (l' y3 y4),.ev (.b_ 133 .ai (C' y4 y5)),.call 131 y3 [y6,y7] [true]] (.ret (C' y8 y3))
theorem amS:bP Tryz.prog 72 .plain (E' Tryz.f72 true [] [] []) [true,true,true] u72:=U' Tryz.func72
noncomputable def u73:U:=aD [.ev (.cw (j' (z' y0) .nil)),.ev (.cw (j' (z' y2) .nil)),.ev (l' y3 y4),.ev (.b_ 134 .ai (C' y5 y4)),.call 131 y3 [y6,y7] [true]] (.ret (C' y8 y3))
theorem amR:bP Tryz.prog 73 .plain (E' Tryz.f73 true [] [] []) [true,true,true] u73:=U' Tryz.func73
noncomputable def u74:U:=aD [.aR (.nn y0),.aR (p' 14 y0),.ev (l' y3 (p' 14 y0)),.ev (.sub 5 y4 y1 (.bI y4)),.call 135 y3 [y5,.const (.fn 136 [] [])] [true]] (.ret (C' y6 y3))
theorem amQ:bP Tryz.prog 74 .plain (E' Tryz.f74 true [] [] []) [true,true,true] u74:=U' Tryz.func74
noncomputable def ae8:U:=aD [.call 179 y2 [y0,y1] [true],.ev (X' .geq y3 (ki 0))] (.ret (C' y4 y2))
theorem ag0:bP Tryz.prog 128 .plain (E' Tryz.f128 true [] [] []) [true,true] ae8:=U' Tryz.func128
noncomputable def ae7:U:=aD [.aR (.bE 3 y0)] (.ret (C' (q' 0 y0) y1))
theorem agZ:bP Tryz.prog 129 .plain (E' Tryz.f129 true [] [] []) [false] ae7:=U' Tryz.func129
noncomputable def ae6:U:=aD [.aR (.bE 3 y0),.ev (N' (q' 2 y0)),.chain true y4 (aD [.ev (l' y3 y1),.aR (q' 1 y0),.ev (M' y5 (q' 1 y0)),.ev (l' y3 y2),.aR (.nn y7),.aR (p' 0 y7),.aR (p' 1 (p' 0 y7)),.ev (l' y3 (p' 1 (p' 0 y7))),.ev (X' .gtr y6 y8)] (.ret y9))] (.ret (C' y5 y3))
theorem agY:bP Tryz.prog 130 .plain (E' Tryz.f130 true [] [] []) [false,true,true] ae6:=U' Tryz.func130
noncomputable def ae5:U:=aD [.ev (.cw (j' (z' y1) .nil)),.aR (.nn y0),.aR (p' 14 y0),.ev (l' y2 (p' 14 y0)),.ev (.b_ 180 .ai (.aa y3 .ai)),.call 135 y2 [y4,y5] [true]] (.ret (C' y6 y2))
theorem agX:bP Tryz.prog 131 .plain (E' Tryz.f131 true [] [] []) [true,true] ae5:=U' Tryz.func131
noncomputable def ae4:U:=aD [.aR (.bE 5 y0),.ev (N' (q' 3 y0)),.chain false y3 (aD [.aR (q' 2 y0),.ev (l' y2 y1),.aR (.nn y4),.aR (p' 0 y4),.aR (p' 2 (p' 0 y4)),.ev (l' y2 (p' 2 (p' 0 y4))),.ev (M' y5 (ki 1)),.ev (X' .lss (q' 2 y0) y6)] (.ret y7))] (.ret (C' y4 y2))
theorem agW:bP Tryz.prog 132 .plain (E' Tryz.f132 true [] [] []) [false,true] ae4:=U' Tryz.func132
noncomputable def ae3:U:=aD [.aR (.bE 5 y0),.ev (N' (q' 3 y0)),.chain false y4 (aD [.aR (q' 4 y0),.ev (N' (q' 4 y0))] (.ret y5)),.chain false y5 (aD [.aR (q' 2 y0),.ev (l' y3 y1),.aR (.nn y6),.aR (p' 0 y6),.aR (p' 0 (p' 0 y6)),.ev (l' y3 (p' 0 (p' 0 y6))),.ev (M' y7 (ki 1)),.ev (X' .lss (q' 2 y0) y8)] (.ret y9)),.chain false y6 (aD [.ev (l' y3 y2),.aR (q' 1 y0),.ev (M' y7 (q' 1 y0)),.ev (l' y3 y1),.aR (.nn y9),.aR (p' 0 y9),.aR (p' 4 (p' 0 y9)),.ev (l' y3 (p' 4 (p' 0 y9))),.ev (X' .gtr y8 y10)] (.ret y11))] (.ret (C' y7 y3))
theorem agV:bP Tryz.prog 133 .plain (E' Tryz.f133 true [] [] []) [false,true,true] ae3:=U' Tryz.func133
noncomputable def ae2:U:=aD [.aR (.bE 5 y0),.ev (l' y3 y1),.ev (l' y3 y2),.aR (.nn y5),.aR (p' 0 y5),.aR (p' 3 (p' 0 y5)),.ev (l' y3 (p' 3 (p' 0 y5))),.ev (M' y4 y6),.ev (X' .gtr (q' 1 y0) y7)] (.ret (C' y8 y3))
theorem agU:bP Tryz.prog 134 .plain (E' Tryz.f134 true [] [] []) [false,true,true] ae2:=U' Tryz.func134
noncomputable def ae1:U:=aD [.call 181 y2 [y0,y1] [true],.ev (X' .geq y3 (ki 0))] (.ret (C' y4 y2))
theorem agT:bP Tryz.prog 135 .plain (E' Tryz.f135 true [] [] []) [true,true] ae1:=U' Tryz.func135
noncomputable def ae0:U:=aD [.aR (.bE 5 y0)] (.ret (C' (q' 0 y0) y1))
theorem agS:bP Tryz.prog 136 .plain (E' Tryz.f136 true [] [] []) [false] ae0:=U' Tryz.func136
noncomputable def aeQ:U:=aD [.ev (.bI y0),.join 0 0 (.loop 1 [ki 0] (aD [.ev (X' .lss y4 y3)] (.ite y5 (aD [.join 2 0 (aD [.ev (.ax 3 y0 y4),.ev (.ld true 3 y2 y6),.ei y1 y2 [y7] [true]] (.ite y8 (.ret (C' y4 y2)) (.jump 2 [] []))),.ev (P' y4 (ki 1))] (.jump 1 [y6] [])) (.jump 0 [] []))))] (.ret (C' (ki (-1)) y2))
theorem agI:bP Tryz.prog 179 .plain (E' Tryz.f179 true [] [] []) [true,true] aeQ:=U' Tryz.func179
noncomputable def aeP:U:=aD [.aR (.bE 5 y0),.chain false (q' 0 y0) (aD [.ev (l' y2 y1),.ei y3 y2 [r6 5 y0] [true]] (.ret y4))] (.ret (C' y3 y2))
theorem agH:bP Tryz.prog 180 .plain (E' Tryz.f180 true [] [] []) [false,true] aeP:=U' Tryz.func180
noncomputable def aeO:U:=aD [.ev (.bI y0),.join 0 0 (.loop 1 [ki 0] (aD [.ev (X' .lss y4 y3)] (.ite y5 (aD [.join 2 0 (aD [.ev (.ax 5 y0 y4),.ev (.ld true 5 y2 y6),.ei y1 y2 [y7] [true]] (.ite y8 (.ret (C' y4 y2)) (.jump 2 [] []))),.ev (P' y4 (ki 1))] (.jump 1 [y6] [])) (.jump 0 [] []))))] (.ret (C' (ki (-1)) y2))
theorem agG:bP Tryz.prog 181 .plain (E' Tryz.f181 true [] [] []) [true,true] aeO:=U' Tryz.func181
noncomputable def u11:U:=aD [.join 0 0 (aD [.call 28 y3 [y0] [true],.ev (N' y4)] (.ite y5 (.ret (C' (C' (.const (.bk [])) (ki 1)) y3)) (aD [.aR (.nn y0),.aR (p' 0 y0),.aR (p' 6 (p' 0 y0)),.aR (p' 0 (p' 6 (p' 0 y0))),.ev (l' y3 (p' 0 (p' 6 (p' 0 y0)))),.call 34 y3 [y1,ki 1,y6] [true],.ev (N' y7)] (.ite y8 (.ret (C' (C' (.const (.bk [])) (ki 2)) y3)) (.jump 0 [] []))))),.aR (.nn y0),.aR (p' 30 y0),.ev (l' y3 (p' 30 y0)),.ev (M' y1 (ki 1)),.call 35 y3 [y4,y5,y2] [true,true]] (.ret (C' (C' (s' y6) (t' y6)) y3))
theorem ang:bP Tryz.prog 11 .plain (E' Tryz.f11 true [] [] []) [true,true,true] u11:=U' Tryz.func11
noncomputable def u10:U:=aD [.call 28 y4 [y0] [true],.ev (N' y5)] (.ite y6 (.ret (C' (C' (.const (.bk [])) (ki 1)) y4)) (aD [.aR (.nn y0),.aR (p' 31 y0),.ev (l' y4 (p' 31 y0)),.bw 33 y4 [y7,y1,y2,y3] [true,true]] (.ret (C' (C' (s' y8) (t' y8)) y9))))
theorem anh:bP Tryz.prog 10 .plain (E' Tryz.f10 false [33] [] []) [true,true,true,true] u10:=U' Tryz.func10
end Go.Am.To
namespace Go.Am.To
open Go.Proofs
noncomputable def u41:U:=aD [.ev (X' .geq y0 y1),.chain false y4 (aD [.ev (X' .leq y0 y2)] (.ret y5))] (.ret (C' y5 y3))
theorem am9:bP Tryz.prog 41 .plain (E' Tryz.f41 true [] [] []) [true,true,true] u41:=U' Tryz.func41
end Go.Am.To
namespace Go.Am.To
structure Rd where
 src:Int
 dst:Int
 secs:Int
 cls:List (Int×Int)
 deriving DecidableEq,Inhabited
section
variable {n:Nat} {r:Rd}
end
end Go.Am.To
namespace Go.Am.Sc
structure Item where
 kind:Int
 Ld:Int
 target:Int
 free:Bool
deriving Inhabited,DecidableEq
structure iq where
 items:List Item
 rQ:Int
 late:Int
 early:Int
 Bg:Int
 Bk:Int
 jumps:List Int
 ret:Bool
 GJ:Int
 sR:Int
 Ba:Int
 power:Int
 points:List Int
 extra:List Int
structure AZ where
 minute:Int
 time:Int
 jump:Bool
 mark:Int
deriving Inhabited,DecidableEq
structure qA where
 cls:Int
 Gg:List Int
 lines:List AZ
deriving Inhabited
def fK (x lo hi:Int):Bool:=decide (lo≤x)&&decide (x≤hi)
namespace iq
variable (p:iq)
def it (i:Nat):Item:=p.items.getD i default
def n:Nat:=p.items.length
end iq
variable {p:iq} {c:qA}
end Go.Am.Sc
namespace Go.Am.Sc
abbrev I (n:Int):D:=.v (.int .i64 n)
abbrev B (b:Bool):D:=.v (.bool b)
abbrev Is (l:List Int):D:=.bk (l.map I)
abbrev In (i:Nat):D:=I (i:Int)
def i64 (n:Int):Prop:=-9223372036854775808≤n∧n<9223372036854775808
theorem S_ {ds:List D}(h:fM (.int .i64) ds):∃n,ds=[I n]∧i64 n:=by simp only[fM] at h;obtain⟨n,h,h1,h2⟩:=h;refine⟨n,h,?_⟩;simp[IntKind.min,IntKind.max,IntKind.bits,IntKind.signed] at h1 h2;exact⟨h1,by omega⟩
theorem S9:∀{es:List D},(∀x,x∈es→fM (.int .i64) [x])→∃xs:List Int,es=xs.map I∧∀x,x∈xs→i64 x
 | [],_=>⟨[],rfl,by simp⟩
 | e :: es,h=>by obtain⟨n,hn,hb⟩:=S_ (h e (by simp));cases hn;obtain⟨xs,rfl,hx⟩:=S9 (es:=es) fun x hx=>h x (by simp[hx]);exact⟨n :: xs,rfl,by simpa using⟨hb,hx⟩⟩
def HS (l:List Int):Prop:=(∀x,x∈l→i64 x)∧l.length≤maxLen
theorem GD {ds:List D}(h:fM (.sl (.int .i64)) ds):∃xs:List Int,ds=[Is xs]∧HS xs:=by
 simp only[fM] at h;obtain⟨es,rfl,hl,kS⟩:=h;obtain⟨xs,rfl,hx⟩:=S9 fun x hx=>by have:=(kS x hx).2 rfl;simpa only[fM] using this
 exact⟨xs,rfl,hx,by simpa using hl⟩
theorem cv {ds:List D}(h:∃n:Int,ds=[.v (.int .i64 n)]∧IntKind.i64.min≤n∧n≤IntKind.i64.max):∃n,ds=[I n]∧i64 n:=S_ (by simpa only[fM] using h)
end Go.Am.Sc
