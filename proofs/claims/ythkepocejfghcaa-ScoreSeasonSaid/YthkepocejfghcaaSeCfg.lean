/-
 How the functions of the score are read.
-/
import Derived.Test.YthkepocejfghcaaAmFntoAmSt2
set_option linter.unusedSimpArgs false
set_option linter.unusedVariables false
namespace Go.Am.Sc
abbrev y0 : E := .sym 0
abbrev y1 : E := .sym 1
abbrev y2 : E := .sym 2
abbrev y3 : E := .sym 3
abbrev y4 : E := .sym 4
abbrev y5 : E := .sym 5
abbrev y6 : E := .sym 6
abbrev y7 : E := .sym 7
abbrev y8 : E := .sym 8
abbrev y9 : E := .sym 9
abbrev y10 : E := .sym 10
abbrev y11 : E := .sym 11
abbrev y12 : E := .sym 12
abbrev y13 : E := .sym 13
abbrev y14 : E := .sym 14
abbrev y15 : E := .sym 15
abbrev y16 : E := .sym 16
abbrev y17 : E := .sym 17
abbrev y18 : E := .sym 18
abbrev y19 : E := .sym 19
abbrev y20 : E := .sym 20
abbrev y21 : E := .sym 21
abbrev y22 : E := .sym 22
abbrev y23 : E := .sym 23
abbrev y24 : E := .sym 24
abbrev y25 : E := .sym 25
abbrev y26 : E := .sym 26
abbrev y27 : E := .sym 27
abbrev y28 : E := .sym 28
abbrev y29 : E := .sym 29
abbrev y30 : E := .sym 30
abbrev y31 : E := .sym 31
abbrev y32 : E := .sym 32
abbrev y33 : E := .sym 33
abbrev y34 : E := .sym 34
abbrev y35 : E := .sym 35
abbrev y36 : E := .sym 36
abbrev y37 : E := .sym 37
abbrev y38 : E := .sym 38
abbrev y39 : E := .sym 39
abbrev y40 : E := .sym 40
abbrev y41 : E := .sym 41
abbrev y42 : E := .sym 42
abbrev y43 : E := .sym 43
abbrev y44 : E := .sym 44
abbrev y45 : E := .sym 45
abbrev y46 : E := .sym 46
abbrev y47 : E := .sym 47
abbrev y48 : E := .sym 48
abbrev y49 : E := .sym 49
abbrev y50 : E := .sym 50
abbrev y51 : E := .sym 51
abbrev y52 : E := .sym 52
abbrev y53 : E := .sym 53
abbrev y54 : E := .sym 54
abbrev y55 : E := .sym 55
abbrev y56 : E := .sym 56
abbrev y57 : E := .sym 57
abbrev y58 : E := .sym 58
abbrev y59 : E := .sym 59
abbrev y60 : E := .sym 60
abbrev y61 : E := .sym 61
abbrev y62 : E := .sym 62
abbrev y63 : E := .sym 63
abbrev y64 : E := .sym 64
abbrev y65 : E := .sym 65
abbrev y66 : E := .sym 66
abbrev y67 : E := .sym 67
abbrev y68 : E := .sym 68
abbrev y69 : E := .sym 69
abbrev y70 : E := .sym 70
abbrev y71 : E := .sym 71
abbrev y72 : E := .sym 72
abbrev y73 : E := .sym 73
abbrev y74 : E := .sym 74
abbrev y75 : E := .sym 75
abbrev y76 : E := .sym 76
abbrev y77 : E := .sym 77
abbrev y78 : E := .sym 78
abbrev y79 : E := .sym 79
abbrev y80 : E := .sym 80
abbrev y81 : E := .sym 81
abbrev y82 : E := .sym 82
abbrev y83 : E := .sym 83
abbrev y84 : E := .sym 84
abbrev y85 : E := .sym 85
abbrev y86 : E := .sym 86
abbrev y87 : E := .sym 87
abbrev y88 : E := .sym 88
abbrev y89 : E := .sym 89
abbrev y90 : E := .sym 90
abbrev y91 : E := .sym 91
abbrev y92 : E := .sym 92
abbrev y93 : E := .sym 93
abbrev y94 : E := .sym 94
abbrev y95 : E := .sym 95
abbrev y96 : E := .sym 96
abbrev y97 : E := .sym 97
abbrev y98 : E := .sym 98
abbrev y99 : E := .sym 99
def WRS:List Nat:=[17,19,63,16,46,48,66,67,68,69,70,71,72,73,76,82,85,86,87,98,99,81,89,90,91,92,93,94,96,97,100,101,102,103]
def scf (ro:Bool)(wr more:List Nat)(fn:Func):StCfg:=autoCfg ro (wr++WRS) [] more [] fn
def scg (wr pubs:List Nat)(nils:Bool)(frzs:List (Nat×Nat))(fn:Func):StCfg:={ autoCfg false (wr++WRS) [] [] frzs fn with pubs:=pubs,nils:=nils }


end Go.Am.Sc
