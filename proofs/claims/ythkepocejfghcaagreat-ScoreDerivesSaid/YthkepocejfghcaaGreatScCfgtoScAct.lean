/-
  Several texts, one behind the other.
-/
import Derived.Test.YthkepocejfghcaaGreatAmFntoAmTabK
import Derived.Shelf.Small.Bits
import Derived.Shelf.Strconv.Itoa0
import Derived.Ground.Names2Prog
import Derived.Test.YthkepocejfghcaaGreatProg
import Derived.KernelRfl
set_option linter.unusedSimpArgs false
set_option linter.unusedVariables false
/-
 How the functions of the score are read.
-/
namespace Go.Am.Sc
abbrev y0 : E := .sym 0
abbrev y1 : E := .sym 1
abbrev y2 : E := .sym 2
abbrev y3 : E := .sym 3
abbrev y4 : E := .sym 4
abbrev y5 : E := .sym 5
abbrev y6 : E := .sym 6
abbrev y7 : E := .sym 7
abbrev y8 : E := .sym 8
abbrev y9 : E := .sym 9
abbrev y10 : E := .sym 10
abbrev y11 : E := .sym 11
abbrev y12 : E := .sym 12
abbrev y13 : E := .sym 13
abbrev y14 : E := .sym 14
abbrev y15 : E := .sym 15
abbrev y16 : E := .sym 16
abbrev y17 : E := .sym 17
abbrev y18 : E := .sym 18
abbrev y19 : E := .sym 19
abbrev y20 : E := .sym 20
abbrev y21 : E := .sym 21
abbrev y22 : E := .sym 22
abbrev y23 : E := .sym 23
abbrev y24 : E := .sym 24
abbrev y25 : E := .sym 25
abbrev y26 : E := .sym 26
abbrev y27 : E := .sym 27
abbrev y28 : E := .sym 28
abbrev y29 : E := .sym 29
abbrev y30 : E := .sym 30
abbrev y31 : E := .sym 31
abbrev y32 : E := .sym 32
abbrev y33 : E := .sym 33
abbrev y34 : E := .sym 34
abbrev y35 : E := .sym 35
abbrev y36 : E := .sym 36
abbrev y37 : E := .sym 37
abbrev y38 : E := .sym 38
abbrev y39 : E := .sym 39
abbrev y40 : E := .sym 40
abbrev y41 : E := .sym 41
abbrev y42 : E := .sym 42
abbrev y43 : E := .sym 43
abbrev y44 : E := .sym 44
abbrev y45 : E := .sym 45
abbrev y46 : E := .sym 46
abbrev y47 : E := .sym 47
abbrev y48 : E := .sym 48
abbrev y49 : E := .sym 49
abbrev y50 : E := .sym 50
abbrev y51 : E := .sym 51
abbrev y52 : E := .sym 52
abbrev y53 : E := .sym 53
abbrev y54 : E := .sym 54
abbrev y55 : E := .sym 55
abbrev y56 : E := .sym 56
abbrev y57 : E := .sym 57
abbrev y58 : E := .sym 58
abbrev y59 : E := .sym 59
abbrev y60 : E := .sym 60
abbrev y61 : E := .sym 61
abbrev y62 : E := .sym 62
abbrev y63 : E := .sym 63
abbrev y64 : E := .sym 64
abbrev y65 : E := .sym 65
abbrev y66 : E := .sym 66
abbrev y67 : E := .sym 67
abbrev y68 : E := .sym 68
abbrev y69 : E := .sym 69
abbrev y70 : E := .sym 70
abbrev y71 : E := .sym 71
abbrev y72 : E := .sym 72
abbrev y73 : E := .sym 73
abbrev y74 : E := .sym 74
abbrev y75 : E := .sym 75
abbrev y76 : E := .sym 76
abbrev y77 : E := .sym 77
abbrev y78 : E := .sym 78
abbrev y79 : E := .sym 79
abbrev y80 : E := .sym 80
abbrev y81 : E := .sym 81
abbrev y82 : E := .sym 82
abbrev y83 : E := .sym 83
abbrev y84 : E := .sym 84
abbrev y85 : E := .sym 85
abbrev y86 : E := .sym 86
abbrev y87 : E := .sym 87
abbrev y88 : E := .sym 88
abbrev y89 : E := .sym 89
abbrev y90 : E := .sym 90
abbrev y91 : E := .sym 91
abbrev y92 : E := .sym 92
abbrev y93 : E := .sym 93
abbrev y94 : E := .sym 94
abbrev y95 : E := .sym 95
abbrev y96 : E := .sym 96
abbrev y97 : E := .sym 97
abbrev y98 : E := .sym 98
abbrev y99 : E := .sym 99
def WRS:List Nat:=[68,76,96,82,112,116,128,129,130,131,132,133,134,135,138,149,152,153,154,158,159,125,140,141,142,143,144,145,147,148,155,156,157,160]
def bE (ro:Bool)(wr more:List Nat)(fn:Func):cz:=Js ro (wr++WRS) [] more [] fn
def scg (wr Ca:List Nat)(FB:Bool)(Ot:List (Nat×Nat))(fn:Func):cz:={ Js false (wr++WRS) [] [] Ot fn with Ca:=Ca,FB:=FB }


end Go.Am.Sc

/-
 DERIVED: THE SHELF's CONTRACTS AT THIS DUMP,IN PLAIN WORDS (tools/lay-plain.mjs out of 'ScLen.lean',which tools/lay-shelf.mjs wrote): THE SAME DECLARATIONS UNDER THE SAME NAMES: 'import','namespace','open','def','theorem' AND NOTHING ELSE: no command of the shelf's: FOR A HAND-IN. Each laying: the table of numbers ('.._ren') and one theorem,a field a fact of the dump's own or the kernel's comparison;each contract: ONE APPLICATION.
-/
namespace Go.Proofs
open Go.Shelf
def Tryz.K2:Go.Shelf.Ren:=⟨fun | 125=>113 | 128=>136 | 129=>137 | n=>n,fun | 46=>134 | 3=>3 | 51=>157 | 53=>159 | 4=>4 | 5=>5 | 9=>9 | n=>n,fun | n=>n⟩
theorem Tryz.X4:Go.Proofs.Lays.n125 Tryz.prog Tryz.K2:={
 mixed:=by kernel_rfl
 f125:=Tryz.func113.trans (congrArg some (by kernel_rfl))
 f128:=Tryz.func136.trans (congrArg some (by kernel_rfl))
 f129:=Tryz.func137.trans (congrArg some (by kernel_rfl))
 t3:=Tryz.underlying3
 a3:=Tryz.isAgg3
 z3:=Tryz.sizeOf3
 v3:=Tryz.zeroValue3
 t4:=Tryz.underlying4
 a4:=Tryz.isAgg4
 z4:=Tryz.sizeOf4
 v4:=Tryz.zeroValue4
 t5:=Tryz.underlying5
 a5:=Tryz.isAgg5
 z5:=Tryz.sizeOf5
 v5:=Tryz.zeroValue5
 t9:=Tryz.underlying9
 a9:=Tryz.isAgg9
 z9:=Tryz.sizeOf9
 v9:=Tryz.zeroValue9
 t46:=Tryz.underlying134
 a46:=Tryz.isAgg134
 z46:=Tryz.sizeOf134
 v46:=Tryz.zeroValue134
 t51:=Tryz.underlying157
 a51:=Tryz.isAgg157
 z51:=Tryz.sizeOf157
 v51:=Tryz.zeroValue157
 t53:=Tryz.underlying159
 a53:=Tryz.isAgg159
 z53:=Tryz.sizeOf159
 v53:=Tryz.zeroValue159 }
theorem Tryz.bits_Len (x:Int)(w:World)(h0:0≤x)(h1:x≤18446744073709551615) :
  Calls Tryz.prog 113 #[.int .u64 x] w fun e w'=>e=.returned (.int .i64 (Lib.bitLen x.toNat))∧w'=w:=Any.bits_Len Tryz.X4 x w h0 h1
end Go.Proofs

/-
 What is known besides the texts.
-/
namespace Go.Am.Sc
open Go.Proofs

def qU:JA where
 R:=fun f st ds=>match st,ds with
  | .st _,[.v (.int .u64 (.ofNat n))]=>if f=113∧n≤64 then some (.ret (.v (.int .i64 (Lib.bitLen n)))) else none
  | _,_=>none
 W:=fun _ _ _=>none
 F:=fun _ _ _ _=>none
 I:=fun _ _ _ _ _=>none

theorem iM:qL Tryz.prog qU:=by
 refine⟨fun f st ds r h=>?_,fun _ _ _ _ _ h=>(by cases h),fun _ _ _ _ _ h=>(by cases h),fun _ _ _ _ _ _ _ h=>(by cases h)⟩
 simp only[qU] at h
 split at h
 ·rename_i bs n
  split at h
  ·rename_i hc
   obtain⟨rfl,hn⟩:=hc
   cases h
   intro w S aJ rp vs hb hst dP hfl hS hvl hrd
   obtain⟨v,rfl⟩:∃v,vs=#[v]:=by
    obtain⟨l⟩:=vs
    simp at hvl
    obtain⟨v,rfl⟩:=List.length_eq_one_iff.1 hvl
    exact⟨v,rfl⟩
   have hv:=(hrd 0 v _ rfl rfl).v_eq
   subst hv
   refine(Tryz.bits_Len (n:Int) w (by omega) (by omega)).mono ?_
   rintro e w' ⟨rfl,rfl⟩
   exact⟨_,S,⟨rfl,.v rfl⟩,⟨⟨rfl,rfl,rfl,Nat.le_refl _,fun _ _=>rfl⟩,Nat.le_refl _⟩,Sets.le_refl _,rfl,fun _ _ h=>.inl h,hS⟩
  ·cases h
 ·cases h

end Go.Am.Sc

/-
 The chapter's examples,part by part.
-/
namespace Go.Am.Sc
open Go.Proofs
set_option maxRecDepth 100000
abbrev i (n:Int):D:=.v (.int .i64 n)
abbrev b (x:Bool):D:=.v (.bool x)
def xPc:List D:=[.bq [.agg [i 1,i 0,i 30,b false],.agg [i 2,i 0,i 0,b false],.agg [i 1,i 0,i 60,b false]],i 1,i 10000,i 60000,i 15,i 30,.bq [i 10000,i 60000],b false,i 0,i 1,i 100,i 1,.bq [i 10,i 6],.bq [i 3]]
def xP:D:=.agg xPc
def xC0:D:=.agg [i 0,.bq [i 600],.bq [.agg [i 630,i 0,b false,i 0],.agg [i 633,i 300000,b false,i 0],.agg [i 694,i 0,b false,i 0]]]
def xC1:D:=.agg [i 0,.bq [i 600],.bq [.agg [i 632,i 0,b false,i 0],.agg [i 635,i 310000,b true,i 0],.agg [i 694,i 0,b false,i 0]]]
def xC2:D:=.agg [i 0,.bq [i 600],.bq [.agg [i 630,i 0,b false,i 0],.agg [i 636,i 0,b false,i 1],.agg [i 696,i 0,b false,i 0]]]
def xL:D:=.bq [xC0,xC1,xC2]
def xE:D:=.ptr (xPc++[xL,.bq [i (-1),i (-1),i (-1)]])
def fB:Fact:=⟨53,[xP,xL],.bh [xE,b true]⟩

noncomputable def amD:List Spec:=[⟨53,Tryz.f53,{ bE false [] [25] Tryz.f53 with FB:=true },true⟩,⟨18,Tryz.f18,(bE true [] [] Tryz.f18),false⟩,⟨19,Tryz.f19,(bE true [] [] Tryz.f19),false⟩,⟨46,Tryz.f46,(bE true [] [] Tryz.f46),false⟩,⟨47,Tryz.f47,(bE true [] [] Tryz.f47),false⟩,⟨48,Tryz.f48,(bE true [] [] Tryz.f48),false⟩,⟨99,Tryz.f99,(bE true [] [] Tryz.f99),false⟩,⟨126,Tryz.f126,(bE true [] [] Tryz.f126),false⟩,⟨100,Tryz.f100,(bE true [] [] Tryz.f100),false⟩,⟨101,Tryz.f101,(bE true [] [] Tryz.f101),false⟩,⟨127,Tryz.f127,(bE true [] [] Tryz.f127),false⟩,⟨102,Tryz.f102,(bE true [] [] Tryz.f102),false⟩,⟨88,Tryz.f88,(bE true [] [] Tryz.f88),false⟩,⟨119,Tryz.f119,(bE true [] [] Tryz.f119),false⟩,⟨89,Tryz.f89,(bE false [] [] Tryz.f89),true⟩,⟨118,Tryz.f118,(bE true [] [] Tryz.f118),false⟩,⟨139,Tryz.f139,(bE false [1000021] [] Tryz.f139),false⟩]
theorem agG:(fB:Fact).ok Tryz.prog:=nM (l:=amD) ⟨Tryz.func53,Tryz.func18,Tryz.func19,Tryz.func46,Tryz.func47,Tryz.func48,Tryz.func99,Tryz.func126,Tryz.func100,Tryz.func101,Tryz.func127,Tryz.func102,Tryz.func88,Tryz.func119,Tryz.func89,Tryz.func118,Tryz.func139,trivial⟩ iM fB 200 30 (by kernel_rfl) oI (by kernel_rfl)

end Go.Am.Sc

/-
 The chapter's examples,part by part.
-/
namespace Go.Am.Sc
open Go.Proofs
set_option maxRecDepth 100000
def fT0:Fact:=⟨57,[xE,i 0],i 310000⟩
def fT1:Fact:=⟨57,[xE,i 1],i 400000⟩
def fT2:Fact:=⟨57,[xE,i 2],i 300000⟩
def fS:Fact:=⟨56,[xE,i 2,i 1],i 300000⟩

noncomputable def G1:List Spec:=[⟨57,Tryz.f57,(bE true [] [] Tryz.f57),false⟩,⟨54,Tryz.f54,(bE true [] [] Tryz.f54),false⟩,⟨55,Tryz.f55,(bE true [] [] Tryz.f55),false⟩,⟨56,Tryz.f56,(bE false [] [8] Tryz.f56),true⟩,⟨108,Tryz.f108,(bE true [] [] Tryz.f108),false⟩,⟨109,Tryz.f109,(bE true [] [] Tryz.f109),false⟩,⟨123,Tryz.f123,(bE true [] [] Tryz.f123),false⟩,⟨103,Tryz.f103,(bE true [] [] Tryz.f103),false⟩,⟨64,Tryz.f64,(bE false [] [7] Tryz.f64),true⟩,⟨66,Tryz.f66,(bE true [] [] Tryz.f66),false⟩,⟨67,Tryz.f67,(bE false [] [7] Tryz.f67),true⟩,⟨104,Tryz.f104,(bE true [] [] Tryz.f104),false⟩,⟨105,Tryz.f105,(bE true [] [] Tryz.f105),false⟩,⟨106,Tryz.f106,(bE true [] [] Tryz.f106),false⟩,⟨107,Tryz.f107,(bE true [] [] Tryz.f107),false⟩,⟨88,Tryz.f88,(bE true [] [] Tryz.f88),false⟩,⟨119,Tryz.f119,(bE true [] [] Tryz.f119),false⟩,⟨96,Tryz.f96,(bE false [] [] Tryz.f96),false⟩,⟨125,Tryz.f125,(bE false [] [] Tryz.f125),false⟩,⟨140,Tryz.f140,(bE false [] [] Tryz.f140),false⟩,⟨115,Tryz.f115,(bE true [] [] Tryz.f115),false⟩,⟨146,Tryz.f146,(bE true [] [] Tryz.f146),false⟩]
theorem ZN:(fT0:Fact).ok Tryz.prog:=nM (l:=G1) ⟨Tryz.func57,Tryz.func54,Tryz.func55,Tryz.func56,Tryz.func108,Tryz.func109,Tryz.func123,Tryz.func103,Tryz.func64,Tryz.func66,Tryz.func67,Tryz.func104,Tryz.func105,Tryz.func106,Tryz.func107,Tryz.func88,Tryz.func119,Tryz.func96,Tryz.func125,Tryz.func140,Tryz.func115,Tryz.func146,trivial⟩ iM fT0 200 30 (by kernel_rfl) oI (by kernel_rfl)
theorem ZM:(fT1:Fact).ok Tryz.prog:=nM (l:=G1) ⟨Tryz.func57,Tryz.func54,Tryz.func55,Tryz.func56,Tryz.func108,Tryz.func109,Tryz.func123,Tryz.func103,Tryz.func64,Tryz.func66,Tryz.func67,Tryz.func104,Tryz.func105,Tryz.func106,Tryz.func107,Tryz.func88,Tryz.func119,Tryz.func96,Tryz.func125,Tryz.func140,Tryz.func115,Tryz.func146,trivial⟩ iM fT1 200 30 (by kernel_rfl) oI (by kernel_rfl)
theorem ZL:(fT2:Fact).ok Tryz.prog:=nM (l:=G1) ⟨Tryz.func57,Tryz.func54,Tryz.func55,Tryz.func56,Tryz.func108,Tryz.func109,Tryz.func123,Tryz.func103,Tryz.func64,Tryz.func66,Tryz.func67,Tryz.func104,Tryz.func105,Tryz.func106,Tryz.func107,Tryz.func88,Tryz.func119,Tryz.func96,Tryz.func125,Tryz.func140,Tryz.func115,Tryz.func146,trivial⟩ iM fT2 200 30 (by kernel_rfl) oI (by kernel_rfl)
theorem agB:(fS:Fact).ok Tryz.prog:=nM (l:=G1) ⟨Tryz.func57,Tryz.func54,Tryz.func55,Tryz.func56,Tryz.func108,Tryz.func109,Tryz.func123,Tryz.func103,Tryz.func64,Tryz.func66,Tryz.func67,Tryz.func104,Tryz.func105,Tryz.func106,Tryz.func107,Tryz.func88,Tryz.func119,Tryz.func96,Tryz.func125,Tryz.func140,Tryz.func115,Tryz.func146,trivial⟩ iM fS 200 30 (by kernel_rfl) oI (by kernel_rfl)

end Go.Am.Sc

/-
 The function Results,as a text.
-/
namespace Go.Am.Sc
open Go.Proofs

noncomputable def t29:T:=(ah [(.ev (.gE (.bB 14 y0))),
 (.ev (.ld true 14 y2 y3)),
 (.call [] 53 y2 [y4,y1] [true,true]),
 (.ev (.cI 90 1 y2 (.const (.agg [(.v (.pointer none))])))),
 (.ev (.gQ 1 y6 (.aU y2) (.az 0 y5))),
 (.ev (.un .not (.az 1 y5)))]
 (.ite y8 (.ret (.aa (.aa (.const (.bq [])) (.aa (.const (.v (.int .i64 2))) .ax)) (.aa y7 .ax))) (ah [(.ev (.aR y1)),
 (.ev (.rep 8 y9 (.v (.int .i64 0)))),
 (.ev (.aR y1)),
 (.ev (.rep 8 y11 (.v (.int .i64 0)))),
 (.ev (.aR y1)),
 (.ev (.rep 24 y13 .cq)),
 (.ev (.aR y1))]
 (.join 0 5 (.loop 1 [(.const .cq),(.const (.bq [])),(.const (.v (.int .i64 0))),(.cI 1000000000 1 (.cI 1000000000 1 (.cI 1000000000 1 (.a_ 1000000000 1 (.a_ 1000000000 1 (.a_ 1000000000 1 y7 y10) y12) y14) (.cons (.bO y7 y10) .nil)) (.cons (.bO (.a_ 1000000000 1 y7 y10) y12) .nil)) (.cons (.bO (.a_ 1000000000 1 (.a_ 1000000000 1 y7 y10) y12) y14) .nil))] (ah [(.ev (.bin .lss .int y18 y15))]
 (.ite y20 (.join 2 14 (ah [(.ev (.ld false 1 y19 (.aU (.a_ 1000000000 1 (.a_ 1000000000 1 (.a_ 1000000000 1 y7 y10) y12) y14)))),
 (.ev (.ld false 1 y19 (.aU y2))),
 (.call [] 57 y19 [y22,y18] [true]),
 (.ev (.aj 1 y21 y18)),
 (.ev (.gQ 1 y19 y24 y23)),
 (.ev (.ld false 1 y25 (.aU y2))),
 (.ev (.nn y26)),
 (.ev (.ay 15 y27)),
 (.ev (.ld false 1 y25 y28)),
 (.ev (.aj 1 y29 y18)),
 (.ev (.ld false 1 y25 y30)),
 (.ev (.bin .geq .int y31 (.const (.v (.int .i64 0)))))]
 (.ite y32 (ah [(.ev (.bz (.bt y18) (.const (.bq [])))),
 (.ev (.app 1 8 y17 y33))]
 (.jump 2 [y16,y34,y21,y22,y23,y24,y26,y27,y28,y29,y30,y31,y32,y25])) (ah [(.ev (.bz (.bt y18) (.const (.bq [])))),
 (.ev (.fU 3 1 8 y25 y16 y33)),
 (.ev (.ay 0 y3)),
 (.ev (.ld false 1 y34 y35)),
 (.ev (.aR y36))]
 (.join 3 3 (.loop 4 [(.const (.v (.int .i64 0))),y34] (ah [(.ev (.bin .lss .int y38 y37))]
 (.ite y40 (.join 5 4 (ah [(.ev (.ld false 1 y39 (.aU y2))),
 (.call [] 54 y39 [y41,y38] [true]),
 (.ev (.un .not y42))]
 (.ite y43 (.jump 5 [y41,y42,y43,y39]) (ah [(.ev (.ld false 1 y39 (.aU (.cI 1000000000 1 (.cI 1000000000 1 (.a_ 1000000000 1 (.a_ 1000000000 1 (.a_ 1000000000 1 y7 y10) y12) y14) (.cons (.bO y7 y10) .nil)) (.cons (.bO (.a_ 1000000000 1 y7 y10) y12) .nil))))),
 (.ev (.ld false 1 y39 (.aU (.cI 1000000000 1 (.cI 1000000000 1 (.a_ 1000000000 1 (.a_ 1000000000 1 (.a_ 1000000000 1 y7 y10) y12) y14) (.cons (.bO y7 y10) .nil)) (.cons (.bO (.a_ 1000000000 1 y7 y10) y12) .nil))))),
 (.ev (.aj 1 y45 y18)),
 (.ev (.ld false 1 y39 y46)),
 (.ev (.ld false 1 y39 (.aU y2))),
 (.call [] 56 y39 [y48,y18,y38] [true]),
 (.ev (.bz (.bt y49) (.const (.bq [])))),
 (.ev (.fU 3 1 8 y39 y47 y50)),
 (.ev (.aj 1 y44 y18)),
 (.ev (.gQ 1 y51 y52 (.apps y39 y47 y50))),
 (.ev (.m4 .same (.ld false 1 y39 (.aU (.cI 1000000000 1 (.cI 1000000000 1 (.a_ 1000000000 1 (.a_ 1000000000 1 (.a_ 1000000000 1 y7 y10) y12) y14) (.cons (.bO y7 y10) .nil)) (.cons (.bO (.a_ 1000000000 1 y7 y10) y12) .nil)))) (.ld false 1 y51 (.aU (.cI 1000000000 1 (.cI 1000000000 1 (.a_ 1000000000 1 (.a_ 1000000000 1 (.a_ 1000000000 1 y7 y10) y12) y14) (.cons (.bO y7 y10) .nil)) (.cons (.bO (.a_ 1000000000 1 y7 y10) y12) .nil)))) .nil .nil)),
 (.ev (.ld false 1 y53 (.aU y2))),
 (.bQ [] 64 y53 [y55,y38,(.const (.v (.int .i64 (-1))))] [true]),
 (.call [] 65 (.az 1 y56) [(.az 0 y56),y18] [true]),
 (.ev (.guard y57 true (.ld false 1 (.az 1 y56) (.aU y2)))),
 (.call [(y57,true)] 66 (.az 1 y56) [y58,y18,y38] [true]),
 (.ev (.guard y57 true (.ld false 1 (.az 1 y56) (.aU y2)))),
 (.ev (.guard y57 true (.az 0 y56))),
 (.bQ [(y57,true)] 67 (.az 1 y56) [y60,y61,y38] [true]),
 (.ev (.guard y57 true (.aj 1 (.az 0 y62) (.const (.v (.int .i64 0)))))),
 (.ev (.guard y57 true (.ld false 1 (.az 1 y62) y63))),
 (.ev (.guard y57 true (.bin .eql .int y59 y64))),
 (.ev (.ite y57 y65 (.const (.v (.bool false)))))]
 (.join 6 1 (.ite y66 (ah [(.ev (.ld false 1 (.az 1 y62) (.aU (.cI 1000000000 1 (.a_ 1000000000 1 (.a_ 1000000000 1 (.a_ 1000000000 1 y7 y10) y12) y14) (.cons (.bO y7 y10) .nil))))),
 (.ev (.aj 1 y67 y18)),
 (.ev (.ld false 1 (.az 1 y62) y68)),
 (.ev (.bin .add .int y69 (.const (.v (.int .i64 1))))),
 (.ev (.aj 1 y67 y18)),
 (.ev (.gQ 1 (.az 1 y62) y71 y70))]
 (.jump 6 [y72])) (.jump 6 [(.az 1 y62)])) (.jump 5 [y41,y42,y43,y67]))))) (ah [(.ev (.bin .add .int y38 (.const (.v (.int .i64 1)))))]
 (.jump 4 [y45,y44]))) (.jump 3 [y38,y40,y39])))) (.jump 2 [(.apps y25 y16 y33),y17,y21,y22,y23,y24,y26,y27,y28,y29,y30,y31,y32,y40]))))) (ah [(.ev (.bin .add .int y18 (.const (.v (.int .i64 1)))))]
 (.jump 1 [y21,y22,y35,y34]))) (.jump 0 [y16,y17,y18,y20,y19])))) (ah [(.ev (.gV 70 .ax (.aa (.aU (.a_ 1000000000 1 (.a_ 1000000000 1 (.a_ 1000000000 1 y7 y10) y12) y14)) .ax))),
 (.ev (.gV 72 .ax (.aa (.aU (.cI 1000000000 1 (.a_ 1000000000 1 (.a_ 1000000000 1 (.a_ 1000000000 1 y7 y10) y12) y14) (.cons (.bO y7 y10) .nil))) .ax))),
 (.ev (.gV 73 .ax (.aa (.aU (.cI 1000000000 1 (.cI 1000000000 1 (.a_ 1000000000 1 (.a_ 1000000000 1 (.a_ 1000000000 1 y7 y10) y12) y14) (.cons (.bO y7 y10) .nil)) (.cons (.bO (.a_ 1000000000 1 y7 y10) y12) .nil))) .ax))),
 (.ev (.bz (.bt y21) (.bz (.bt y22) (.bz (.bt y23) (.bz (.bt (.const (.fn 75 [] []))) (.const (.bq []))))))),
 (.call [] 69 y20 [y24] [true]),
 (.bQ [] 68 y20 [y16,y25] []),
 (.ev (.aR y1)),
 (.ev (.rep 8 y27 (.v (.int .i64 0)))),
 (.ev (.ay 2 y3)),
 (.ev (.ay 9 y29)),
 (.ev (.ld false 1 (.az 1 y26) y30)),
 (.ev (.bin .geq .int y31 (.const (.v (.int .i64 0)))))]
 (.join 0 2 (.ite y32 (ah [(.ev (.ld false 1 (.az 1 y26) (.aU y2))),
 (.ev (.ay 2 y3)),
 (.ev (.ay 9 y34)),
 (.ev (.ld false 1 (.az 1 y26) y35)),
 (.bQ [] 64 (.az 1 y26) [y33,y36,(.const (.v (.int .i64 (-1))))] [true]),
 (.ev (.gV 77 .ax (.aa (.aU y2) (.aa y3 .ax)))),
 (.bQ [] 76 (.az 1 y37) [(.az 0 y37),y38] []),
 (.ev (.aR (.az 0 y37)))]
 (.join 1 3 (.loop 2 [(.const (.v (.int .i64 0))),y28] (ah [(.ev (.bin .lss .int y41 y40))]
 (.ite y43 (.join 3 9 (ah [(.ev (.aj 1 (.az 0 y37) y41)),
 (.ev (.ld false 1 (.az 1 y39) y44)),
 (.ev (.ay 2 y3)),
 (.ev (.ay 11 y46)),
 (.ev (.ld false 1 (.az 1 y39) y47)),
 (.call [] 78 (.az 1 y39) [y48,y41] [true]),
 (.ev (.idx y42 y45)),
 (.ev (.set y42 y45 0 y49))]
 (.jump 3 [y45,y44,y45,y45,y46,y47,y48,y49,y51])) (ah [(.ev (.bin .add .int y41 (.const (.v (.int .i64 1)))))]
 (.jump 2 [y53,y52]))) (.jump 1 [y41,y43,y42])))) (.jump 0 [y43,(.az 1 y39)]))) (.jump 0 [y28,(.az 1 y26)])) (ah [(.ev (.ay 1 y3)),
 (.ev (.ld false 1 y34 y35)),
 (.ev (.rep 8 y36 (.v (.int .i64 0)))),
 (.ev (.aR y16))]
 (.join 0 4 (.loop 1 [(.const (.bq [])),(.const (.v (.int .i64 0))),y37] (ah [(.ev (.bin .lss .int y40 y38))]
 (.ite y42 (.join 2 31 (ah [(.ev (.aj 1 y16 y40)),
 (.ev (.ld false 1 y34 y43)),
 (.ev (.aj 3 y1 y44)),
 (.ev (.ay 0 y45)),
 (.ev (.ld false 1 y34 y46)),
 (.ev (.idx y41 y47)),
 (.ev (.cell 0 (.idx y41 y47))),
 (.ev (.bin .add .int y49 (.const (.v (.int .i64 1))))),
 (.ev (.idx y41 y47)),
 (.ev (.set y41 y47 0 y50)),
 (.ev (.ld false 1 y34 (.aU (.a_ 1000000000 1 (.a_ 1000000000 1 (.a_ 1000000000 1 y7 y10) y12) y14)))),
 (.ev (.aj 1 y53 y44)),
 (.ev (.ld false 1 y34 y54)),
 (.ev (.bin .add .int y40 (.const (.v (.int .i64 1))))),
 (.ev (.idx y52 y47)),
 (.ev (.cell 0 (.idx y52 y47))),
 (.ev (.ay 2 y3)),
 (.ev (.ay 10 y59)),
 (.ev (.ld false 1 y34 y60)),
 (.call [] 78 y34 [y61,y40] [true]),
 (.ev (.idx y33 y44)),
 (.ev (.cell 0 (.idx y33 y44))),
 (.ev (.bin .add .int y62 y64)),
 (.ev (.cons (.bt y44) (.cons (.bt (.const (.v (.bool true)))) (.cons (.bt (.const (.v (.int .i64 (-1))))) (.cons (.bt y55) (.cons (.bt y56) (.cons (.bt y58) (.cons (.bt y65) .nil)))))))),
 (.ev (.bz (.bB 7 y66) (.const (.bq [])))),
 (.ev (.app 7 56 y39 y67))]
 (.jump 2 [y68,y44,y47,y43,y44,y44,y45,y46,y47,y47,y49,y50,y44,y53,y44,y54,y55,y56,y47,y58,y59,y60,y61,y62,y44,y64,y65,y66,y67,y68,y52])) (ah [(.ev (.bin .add .int y40 (.const (.v (.int .i64 1)))))]
 (.jump 1 [y43,y74,y73]))) (.jump 0 [y39,y40,y42,y41])))) (ah [(.ev (.aR y17))]
 (.join 0 3 (.loop 1 [y39,(.const (.v (.int .i64 0)))] (ah [(.ev (.bin .lss .int y45 y43))]
 (.ite y46 (.join 2 19 (ah [(.ev (.aj 1 y17 y45)),
 (.ev (.ld false 1 y34 y47)),
 (.ev (.ld false 1 y34 (.aU y2))),
 (.ev (.nn y49)),
 (.ev (.ay 15 y50)),
 (.ev (.ld false 1 y34 y51)),
 (.ev (.aj 1 y52 y48)),
 (.ev (.ld false 1 y34 y53)),
 (.ev (.ld false 1 y34 (.aU (.a_ 1000000000 1 (.a_ 1000000000 1 (.a_ 1000000000 1 y7 y10) y12) y14)))),
 (.ev (.aj 1 y55 y48)),
 (.ev (.ld false 1 y34 y56)),
 (.ev (.cons (.bt y48) (.cons (.const (.agg [(.v (.bool false))])) (.cons (.bt y54) (.cons (.bt y57) (.cons (.const (.agg [(.v (.int .i64 0))])) (.cons (.const (.agg [(.v (.int .i64 0))])) (.cons (.const (.agg [(.v (.int .i64 0))])) .nil)))))))),
 (.ev (.bz (.bB 7 y58) (.const (.bq [])))),
 (.ev (.app 7 56 y44 y59))]
 (.jump 2 [y60,y48,y47,y48,y48,y49,y50,y51,y52,y48,y53,y54,y55,y48,y56,y57,y58,y59,y60])) (ah [(.ev (.bin .add .int y45 (.const (.v (.int .i64 1)))))]
 (.jump 1 [y47,y66]))) (.jump 0 [y44,y45,y46])))) (.ret (.aa (.aa y44 (.aa (.const (.v (.int .i64 0))) .ax)) (.aa y34 .ax)))))))))))))
noncomputable def e29:Entry:={ f:=29,kn:=.plain,cf:=(scg [64,67] [6,8] true [(7,1000037),(7,1000040),(7,1000043),(7,1000010),(7,1000011),(7,1000012)] Tryz.f29),own:=true,bX:=[false,true],t:=t29 }
theorem XP:aV Tryz.prog e29:=aV.bw Tryz.func29 (by kernel_rfl) (by kernel_rfl)


end Go.Am.Sc

/-
 The chapter's examples,part by part.
-/
namespace Go.Am.Sc
open Go.Proofs
set_option maxRecDepth 100000
def fS0:Fact:=⟨56,[xE,i 0,i 1],i 300000⟩
def fS1:Fact:=⟨56,[xE,i 1,i 1],i 310000⟩
theorem agD:(fS0:Fact).ok Tryz.prog:=nM (l:=G1) ⟨Tryz.func57,Tryz.func54,Tryz.func55,Tryz.func56,Tryz.func108,Tryz.func109,Tryz.func123,Tryz.func103,Tryz.func64,Tryz.func66,Tryz.func67,Tryz.func104,Tryz.func105,Tryz.func106,Tryz.func107,Tryz.func88,Tryz.func119,Tryz.func96,Tryz.func125,Tryz.func140,Tryz.func115,Tryz.func146,trivial⟩ iM fS0 200 30 (by kernel_rfl) oI (by kernel_rfl)
theorem agC:(fS1:Fact).ok Tryz.prog:=nM (l:=G1) ⟨Tryz.func57,Tryz.func54,Tryz.func55,Tryz.func56,Tryz.func108,Tryz.func109,Tryz.func123,Tryz.func103,Tryz.func64,Tryz.func66,Tryz.func67,Tryz.func104,Tryz.func105,Tryz.func106,Tryz.func107,Tryz.func88,Tryz.func119,Tryz.func96,Tryz.func125,Tryz.func140,Tryz.func115,Tryz.func146,trivial⟩ iM fS1 200 30 (by kernel_rfl) oI (by kernel_rfl)
noncomputable def fsR:List Fact:=[fB,fT0,fT1,fT2,fS,fS0,fS1]
def fR:Fact:=⟨29,[xP,xL],.bh [.bq [.agg [i 2,b true,i (-1),i 300000,i 1,i 1,i 10],.agg [i 0,b true,i (-1),i 310000,i 2,i 2,i 9],.agg [i 1,b true,i (-1),i 400000,i 3,i 3,i 0]],i 0]⟩

noncomputable def amy:List Spec:=[⟨54,Tryz.f54,(bE true [] [] Tryz.f54),false⟩,⟨55,Tryz.f55,(bE true [] [] Tryz.f55),false⟩,⟨65,Tryz.f65,(bE true [] [] Tryz.f65),false⟩,⟨111,Tryz.f111,(bE true [] [] Tryz.f111),false⟩,⟨66,Tryz.f66,(bE true [] [] Tryz.f66),false⟩,⟨64,Tryz.f64,(bE false [] [7] Tryz.f64),true⟩,⟨67,Tryz.f67,(bE false [] [7] Tryz.f67),true⟩,⟨96,Tryz.f96,(bE false [] [] Tryz.f96),false⟩,⟨125,Tryz.f125,(bE false [] [] Tryz.f125),false⟩,⟨140,Tryz.f140,(bE false [] [] Tryz.f140),false⟩,⟨146,Tryz.f146,(bE true [] [] Tryz.f146),false⟩,⟨115,Tryz.f115,(bE true [] [] Tryz.f115),false⟩,⟨69,Tryz.f69,(bE true [] [] Tryz.f69),false⟩,⟨70,Tryz.f70,(bE true [] [] Tryz.f70),false⟩,⟨72,Tryz.f72,(bE true [] [] Tryz.f72),false⟩,⟨73,Tryz.f73,(bE true [] [] Tryz.f73),false⟩,⟨75,Tryz.f75,(bE true [] [] Tryz.f75),false⟩,⟨77,Tryz.f77,(bE true [] [] Tryz.f77),false⟩,⟨114,Tryz.f114,(bE true [] [] Tryz.f114),false⟩,⟨71,Tryz.f71,(bE true [] [] Tryz.f71),false⟩,⟨74,Tryz.f74,(bE true [] [] Tryz.f74),false⟩,⟨78,Tryz.f78,(bE true [] [] Tryz.f78),false⟩,⟨68,Tryz.f68,(bE false [] [] Tryz.f68),false⟩,⟨76,Tryz.f76,(bE false [] [] Tryz.f76),false⟩,⟨112,Tryz.f112,(bE false [] [] Tryz.f112),false⟩,⟨116,Tryz.f116,(bE false [] [] Tryz.f116),false⟩,⟨128,Tryz.f128,(bE false [] [] Tryz.f128),false⟩]
theorem amz:(fR:Fact).ok Tryz.prog:=nM (l:=amy) ⟨Tryz.func54,Tryz.func55,Tryz.func65,Tryz.func111,Tryz.func66,Tryz.func64,Tryz.func67,Tryz.func96,Tryz.func125,Tryz.func140,Tryz.func146,Tryz.func115,Tryz.func69,Tryz.func70,Tryz.func72,Tryz.func73,Tryz.func75,Tryz.func77,Tryz.func114,Tryz.func71,Tryz.func74,Tryz.func78,Tryz.func68,Tryz.func76,Tryz.func112,Tryz.func116,Tryz.func128,trivial⟩ ((EI (l:=fsR) ⟨agG,ZN,ZM,ZL,agB,agD,agC,trivial⟩).or iM) fR 200 30 (by kernel_rfl) (tb0:=[e29]) (fun e he=>List.mem_singleton.1 he ▸ XP) (by kernel_rfl)

end Go.Am.Sc

/-
 The chapter's examples,part by part.
-/
namespace Go.Am.Sc
open Go.Proofs
set_option maxRecDepth 100000
def fCh:Fact:=⟨31,[.bq [.bq [i 10,i 6,i 0],.bq [i 8,i 8,i 4]],i 1],.bh [.bq [i 0,i 1],.bq [i 16,i 16],i 0]⟩

noncomputable def agE:List Spec:=[⟨31,Tryz.f31,(scg [] [11] false [(10,1000053),(10,1000056),(10,1000009),(10,1000010)] Tryz.f31),true⟩,⟨47,Tryz.f47,(bE true [] [] Tryz.f47),false⟩,⟨99,Tryz.f99,(bE true [] [] Tryz.f99),false⟩,⟨126,Tryz.f126,(bE true [] [] Tryz.f126),false⟩,⟨100,Tryz.f100,(bE true [] [] Tryz.f100),false⟩,⟨46,Tryz.f46,(bE true [] [] Tryz.f46),false⟩,⟨71,Tryz.f71,(bE true [] [] Tryz.f71),false⟩,⟨74,Tryz.f74,(bE true [] [] Tryz.f74),false⟩,⟨115,Tryz.f115,(bE true [] [] Tryz.f115),false⟩,⟨83,Tryz.f83,(bE true [] [] Tryz.f83),false⟩,⟨84,Tryz.f84,(bE true [] [] Tryz.f84),false⟩,⟨85,Tryz.f85,(bE true [] [] Tryz.f85),false⟩,⟨82,Tryz.f82,(bE false [] [5] Tryz.f82),false⟩,⟨68,Tryz.f68,(bE false [] [] Tryz.f68),false⟩,⟨76,Tryz.f76,(bE false [] [] Tryz.f76),false⟩,⟨112,Tryz.f112,(bE false [] [] Tryz.f112),false⟩,⟨116,Tryz.f116,(bE false [] [] Tryz.f116),false⟩,⟨128,Tryz.f128,(bE false [] [] Tryz.f128),false⟩]
theorem agF:(fCh:Fact).ok Tryz.prog:=nM (l:=agE) ⟨Tryz.func31,Tryz.func47,Tryz.func99,Tryz.func126,Tryz.func100,Tryz.func46,Tryz.func71,Tryz.func74,Tryz.func115,Tryz.func83,Tryz.func84,Tryz.func85,Tryz.func82,Tryz.func68,Tryz.func76,Tryz.func112,Tryz.func116,Tryz.func128,trivial⟩ iM fCh 200 30 (by kernel_rfl) oI (by kernel_rfl)
end Go.Am.Sc

/-
 The chapter's examples,part by part.
-/
namespace Go.Am.Sc
open Go.Proofs
set_option maxRecDepth 100000
noncomputable def fsK:List Fact:=[fB,fT0,fT1,fT2,fS,fR,fCh]
def fK:Fact:=⟨17,[],.v (.bool true)⟩

noncomputable def amA:List Spec:=[⟨17,Tryz.f17,(bE true [] [] Tryz.f17),false⟩,⟨44,Tryz.f44,(bE true [] [] Tryz.f44),false⟩,⟨45,Tryz.f45,(bE true [] [] Tryz.f45),false⟩,⟨35,Tryz.f35,(bE true [] [] Tryz.f35),false⟩,⟨23,Tryz.f23,(bE true [] [] Tryz.f23),false⟩,⟨22,Tryz.f22,(bE true [] [] Tryz.f22),false⟩,⟨34,Tryz.f34,(bE true [] [] Tryz.f34),false⟩,⟨19,Tryz.f19,(bE true [] [] Tryz.f19),false⟩,⟨18,Tryz.f18,(bE true [] [] Tryz.f18),false⟩,⟨46,Tryz.f46,(bE true [] [] Tryz.f46),false⟩,⟨47,Tryz.f47,(bE true [] [] Tryz.f47),false⟩,⟨99,Tryz.f99,(bE true [] [] Tryz.f99),false⟩,⟨126,Tryz.f126,(bE true [] [] Tryz.f126),false⟩,⟨100,Tryz.f100,(bE true [] [] Tryz.f100),false⟩,⟨48,Tryz.f48,(bE true [] [] Tryz.f48),false⟩,⟨88,Tryz.f88,(bE true [] [] Tryz.f88),false⟩,⟨54,Tryz.f54,(bE true [] [] Tryz.f54),false⟩,⟨55,Tryz.f55,(bE true [] [] Tryz.f55),false⟩]
theorem amB:(fK:Fact).ok Tryz.prog:=nM (l:=amA) ⟨Tryz.func17,Tryz.func44,Tryz.func45,Tryz.func35,Tryz.func23,Tryz.func22,Tryz.func34,Tryz.func19,Tryz.func18,Tryz.func46,Tryz.func47,Tryz.func99,Tryz.func126,Tryz.func100,Tryz.func48,Tryz.func88,Tryz.func54,Tryz.func55,trivial⟩ ((EI (l:=fsK) ⟨agG,ZN,ZM,ZL,agB,amz,agF,trivial⟩).or iM) fK 200 30 (by kernel_rfl) oI (by kernel_rfl)

theorem iz (bs:List D):aP Tryz.prog 17 (.st bs) [] (.v (.bool true)):=amB bs

end Go.Am.Sc

/-
 Plans and cards,as Lean structures,and which bX are as defined.
-/
namespace Go.Am.Sc

structure Item where
 kind:Int
 iy:Int
 target:Int
 free:Bool
deriving Inhabited,DecidableEq

structure aL where
 items:List Item
 dW:Int
 late:Int
 early:Int
 jW:Int
 jX:Int
 jumps:List Int
 ret:Bool
 mG:Int
 ez:Int
 jV:Int
 power:Int
 points:List Int
 extra:List Int

structure gL where
 minute:Int
 time:Int
 jump:Bool
 mark:Int
deriving Inhabited,DecidableEq

structure aS where
 cls:Int
 dH:List Int
 lines:List gL
deriving Inhabited

def gR (x lo hi:Int):Bool:=decide (lo≤x)&&decide (x≤hi)

theorem iG {x lo hi:Int}(h:gR x lo hi=true):lo≤x∧x≤hi:=by simpa[gR] using h
theorem uQ {x lo hi:Int}(h:lo≤x∧x≤hi):gR x lo hi=true:=by simpa[gR] using h
theorem aoz {x lo hi:Int}(h:gR x lo hi=false):x<lo∨hi<x:=by
 simp only[gR,Bool.and_eq_false_iff,decide_eq_false_iff_not] at h
 omega
theorem Ej {x lo hi:Int}(h:x<lo∨hi<x):gR x lo hi=false:=by
 simp only[gR,Bool.and_eq_false_iff,decide_eq_false_iff_not]
 omega

def fV (l:List Int)(least most lo hi:Int):Bool:=l.all (fun x=>gR x lo hi)&&gR l.length least most

namespace aL
variable (p:aL)
def it (i:Nat):Item:=p.items.getD i default
def n:Nat:=p.items.length
def yY (i:Nat):Bool:=(i==0||gR ((p.it i).iy-(p.it (i-1)).iy) 0 1)&&(decide ((p.it i).iy<6)&&((p.it i).kind==1&&gR (p.it i).target 0 1440||(p.it i).kind==2&&((p.it i).target==0&&!(p.it i).free)))
def og:Bool:=gR p.n 1 100&&(gR p.dW 1 20&&(p.it 0).iy==0)
def oN:Bool:=(List.range p.n).all p.yY
def iZ:Bool:=gR p.late 0 36000000&&(gR p.early 0 36000000&&(gR p.mG 0 36000000&&(gR p.jW 0 1440&&(gR p.jX 0 1440&&fV p.jumps 1 10 0 36000000))))
def kg:Bool:=(decide (1≤p.ez)&&decide (p.ez≤4))&&(gR p.jV 100 1000&&(gR p.power (-1) (p.n-1)&&(decide (p.power<0)||(p.it p.power.toNat).kind==2)))
def uA:Bool:=fV p.points 0 60 0 1000&&fV p.extra 0 60 0 1000
def ok:Bool:=p.og&&(p.oN&&(p.iZ&&(p.kg&&p.uA)))
end aL

def dQ (x:Item)(l:gL):Bool:=gR l.minute 0 100000&&(gR l.time 0 36000000&&(l.mark==0&&(x.kind==1&&(l.time==0&&!l.jump)||x.kind != 1&&decide (0<l.time))||(l.mark==1&&(x.kind != 1&&l.time==0)||l.mark==2&&(l.minute==0&&(l.time==0&&!l.jump)))))

def aS.ln (c:aS)(i:Nat):gL:=c.lines.getD i default

def aL.js (p:aL):Int:=(p.it (p.n-1)).iy+1

def AD (p:aL)(c:aS)(i:Nat):Bool:=dQ (p.it i) (c.ln i)&&!(i != 0&&((p.it i).iy==(p.it (i-1)).iy&&((c.ln (i-1)).mark==2&&(c.ln i).mark != 2)))

def fe (p:aL)(c:aS):Bool:=gR c.cls 0 (p.dW-1)&&(fV c.dH p.js p.js 0 100000&&(c.lines.length==p.n&&(List.range p.n).all (AD p c)))

variable {p:aL} {c:aS}

theorem aL.H6 (h:p.oN=true){i:Nat}(hi:i<p.n):p.yY i=true:=(List.all_eq_true.1 h) i (List.mem_range.2 hi)

theorem aL.vO {i:Nat}(hi:i<p.n)(h:p.yY i=false):p.oN=false:=by
 rw[aL.oN,List.all_eq_false]
 exact⟨i,List.mem_range.2 hi,by simp[h]⟩

theorem aL.K9 (h:∀i,i<p.n→p.yY i=true):p.oN=true:=List.all_eq_true.2 fun i hi=>h i (List.mem_range.1 hi)

theorem aL.Im (h0:(p.it 0).iy=0):∀{i:Nat},(∀k,k≤i→p.yY k=true)→0≤(p.it i).iy∧(p.it i).iy≤5
 | 0,h=>by omega
 | i+1,h=>by
  have ih:=aL.Im h0 (i:=i) fun k hk=>h k (by omega)
  have hs:=h (i+1) (Nat.le_refl _)
  simp only[aL.yY,Bool.and_eq_true,decide_eq_true_eq,Nat.add_sub_cancel,Bool.or_eq_true,beq_iff_eq] at hs
  obtain⟨h1,h2,_⟩:=hs
  rcases h1 with h1 | h1
  ·omega
  ·have:=iG h1
   omega

theorem aL.s6 {i:Nat}(h:i<p.n):p.items[i]? = some (p.it i):=by
 have h':i<p.items.length:=h
 simp[aL.it,List.getD,h']

theorem aS.nu {i:Nat}(h:i<c.lines.length):c.lines[i]? = some (c.ln i):=by
 simp[aS.ln,List.getD,h]

theorem ahy (a b lo hi:Int):fV [a,b] 2 2 lo hi=(gR a lo hi&&gR b lo hi):=by
 simp[fV,gR]
theorem ahx (a b c lo hi:Int):fV [a,b,c] 3 3 lo hi=(gR a lo hi&&(gR b lo hi&&gR c lo hi)):=by
 simp[fV,gR]

theorem QE {l:List Int}{k a b lo hi:Int}(h:(l.length:Int)=k)(hk:a≤k∧k≤b):fV l k k lo hi=fV l a b lo hi:=by
 unfold fV
 rw[uQ (x:=(l.length:Int)) (by omega),uQ (by omega)]
theorem YV {l:List Int}{k lo hi:Int}(h:(l.length:Int)≠k):fV l k k lo hi=false:=by
 unfold fV
 rw[Ej (x:=(l.length:Int)) (by omega),Bool.and_false]

theorem aL.nV (h:p.ok=true):p.og=true∧p.oN=true∧p.iZ=true∧p.kg=true∧p.uA=true:=by simpa[aL.ok] using h

theorem aL.gi (h:p.ok=true):(1≤p.n∧p.n≤100)∧(1≤p.dW∧p.dW≤20)∧(p.it 0).iy=0:=by
 have h:=(aL.nV h).1
 simp only[aL.og,Bool.and_eq_true,beq_iff_eq] at h
 have h1:=iG h.1
 exact⟨by omega,iG h.2.1,h.2.2⟩

theorem aL.qR (h:p.ok=true){i:Nat}(hi:i<p.n):0≤(p.it i).iy∧(p.it i).iy≤5:=aL.Im (aL.gi h).2.2 fun k hk=>aL.H6 (aL.nV h).2.1 (by omega)

theorem aL.yK (h:p.ok=true):1≤p.js∧p.js≤6:=by
 have:=aL.gi h
 have:=aL.qR h (i:=p.n-1) (by omega)
 unfold aL.js
 omega

theorem vN {i:Nat}(hi:i<p.n)(h:AD p c i=false):fe p c=false:=by
 have:(List.range p.n).all (AD p c)=false:=by
  rw[List.all_eq_false]
  exact⟨i,List.mem_range.2 hi,by simp[h]⟩
 simp[fe,this]

theorem D5 (h:∀i,i<p.n→AD p c i=true):(List.range p.n).all (AD p c)=true:=List.all_eq_true.2 fun i hi=>h i (List.mem_range.1 hi)

theorem aL.aot (h:p.og=false):p.ok=false:=by simp[aL.ok,h]
theorem aL.PX (h:p.oN=false):p.ok=false:=by simp[aL.ok,h]

end Go.Am.Sc

/-
 Due minutes,lateness,and where a aO is out.
-/
namespace Go.Am.Sc

def aS.st (c:aS)(k:Nat):Int:=c.dH.getD k 0

def jt (p:aL)(c:aS)(i:Nat):Int:=
 if(i != 0&&(p.it (i-1)).iy==(p.it i).iy)=true then(c.ln (i-1)).minute+(p.it i).target else c.st (p.it i).iy.toNat+(p.it i).target

def FV (p:aL)(c:aS)(i:Nat):Bool:=(p.it i).kind==1&&(c.ln i).mark != 2

def cO (p:aL)(c:aS)(i:Nat):Int:=if FV p c i=true then max 0 ((c.ln i).minute-jt p c i) else 0
def Qay (p:aL)(c:aS)(i:Nat):Int:=if(FV p c i&&!(p.it i).free)=true then max 0 (jt p c i-(c.ln i).minute) else 0

def fA (p:aL)(c:aS)(l:Int):Nat→Int
 | 0=>0
 | i+1=>fA p c l i+if(p.it i).iy=l then cO p c i else 0

def stops (p:aL)(c:aS)(i:Nat):Bool:=
 decide (cO p c i > p.jW)||(decide (cO p c i > 0)&&decide (fA p c (p.it i).iy (i+1) > p.jX))||((c.ln i).mark==2&&(!p.ret||(p.it i).iy==p.js-1))

def fst (f:Nat→Bool):Nat→Int
 | 0=>-1
 | n+1=>if 0≤fst f n then fst f n else if f n=true then n else -1

theorem I2 {f:Nat→Bool}:∀{n:Nat},(∀k,k<n→f k=false)→fst f n=-1
 | 0,_=>rfl
 | n+1,h=>by
  rw[fst,I2 fun k hk=>h k (by omega),if_neg (by omega),h n (by omega)]
  simp

theorem I3 {f:Nat→Bool}{i:Nat}:∀{n:Nat},i<n→f i=true→(∀k,k<i→f k=false)→fst f n=i
 | 0,h,_,_=>absurd h (Nat.not_lt_zero _)
 | n+1,h,h1,h2=>by
  rcases Nat.lt_or_ge i n with h3 | h3
  ·have e:=I3 h3 h1 h2
   rw[fst,e,if_pos (by omega)]
  ·obtain rfl:i=n:=by omega
   rw[fst,I2 h2,if_neg (by omega),if_pos h1]

def kX (p:aL)(c:aS):Int:=fst (stops p c) p.n

def gA (p:aL)(c:aS)(i:Int):Bool:=decide (kX p c<0)||decide (kX p c > i)

variable {p:aL} {c:aS}

structure j6 (p:aL)(c:aS):Prop where
 cls:0≤c.cls∧c.cls<p.dW
 stl:(c.dH.length:Int)=p.js
 st:∀k,k<c.dH.length→0≤c.st k∧c.st k≤100000
 len:c.lines.length=p.n
 ln:∀i,i<p.n→dQ (p.it i) (c.ln i)=true

theorem Ws (hc:fe p c=true):j6 p c:=by
 simp only[fe,Bool.and_eq_true,beq_iff_eq] at hc
 obtain⟨h1,h2,h3,h4⟩:=hc
 have h5:=iG h1
 simp only[fV,Bool.and_eq_true] at h2
 have h6:=iG h2.2
 refine⟨by omega,by omega,fun k hk=>?_,h3,fun i hi=>?_⟩
 ·have:=List.all_eq_true.1 h2.1 c.dH[k] (List.getElem_mem hk)
  have:=iG this
  simpa[aS.st,List.getD,hk] using this
 ·have:=List.all_eq_true.1 h4 i (List.mem_range.2 hi)
  simp only[AD,Bool.and_eq_true] at this
  exact this.1

theorem j6.minute (h:j6 p c){i:Nat}(hi:i<p.n):0≤(c.ln i).minute∧(c.ln i).minute≤100000:=by
 have:=h.ln i hi
 simp only[dQ,Bool.and_eq_true] at this
 exact iG this.1

theorem j6.time (h:j6 p c){i:Nat}(hi:i<p.n):0≤(c.ln i).time∧(c.ln i).time≤36000000:=by
 have:=h.ln i hi
 simp only[dQ,Bool.and_eq_true] at this
 exact iG this.2.1

theorem j6.mark (h:j6 p c){i:Nat}(hi:i<p.n):(c.ln i).mark=0∨(c.ln i).mark=1∨(c.ln i).mark=2:=by
 have:=h.ln i hi
 simp only[dQ,Bool.and_eq_true,Bool.or_eq_true,beq_iff_eq] at this
 omega

theorem aL.yL (h:p.ok=true){i:Nat}(hi:i<p.n):((p.it i).kind=1∧0≤(p.it i).target∧(p.it i).target≤1440)∨((p.it i).kind=2∧(p.it i).target=0∧(p.it i).free=false):=by
 have:=aL.H6 (aL.nV h).2.1 hi
 simp only[aL.yY,Bool.and_eq_true,Bool.or_eq_true,beq_iff_eq,Bool.not_eq_true'] at this
 rcases this.2.2 with⟨h1,h2⟩ | ⟨h1,h2,h3⟩
 ·exact .inl ⟨h1,iG h2⟩
 ·exact .inr ⟨h1,h2,h3⟩

theorem aL.Ct (h : p.ok = true) : ∀ {i k : Nat}, i ≤ k → k < p.n → (p.it i).iy ≤ (p.it k).iy
  | i, 0, h1, _ => by obtain rfl : i = 0 := by omega
                      omega
  | i, k + 1, h1, h2 => by
    rcases Nat.lt_or_ge k i with h3 | h3
    · obtain rfl : i = k + 1 := by omega
      omega
    · have ih := aL.Ct h h3 (by omega)
      have := aL.H6 (aL.nV h).2.1 h2
      simp only [aL.yY, Bool.and_eq_true, Bool.or_eq_true, beq_iff_eq, Nat.add_sub_cancel] at this
      rcases this.1 with h4 | h4
      · omega
      · have := iG h4
        omega

theorem j6.aal (hp:p.ok=true)(h:j6 p c){i:Nat}(hi:i<p.n):(p.it i).iy.toNat<c.dH.length∧0≤c.st (p.it i).iy.toNat∧c.st (p.it i).iy.toNat≤100000:=by
 have h1:=aL.qR hp hi
 have h2:=aL.Ct hp (i:=i) (k:=p.n-1) (by omega) (by omega)
 have h3:=h.stl
 unfold aL.js at h3
 have h4:(p.it i).iy.toNat<c.dH.length:=by omega
 exact⟨h4,h.st _ h4⟩

theorem j6.due (hp:p.ok=true)(h:j6 p c){i:Nat}(hi:i<p.n):0≤jt p c i∧jt p c i≤101440:=by
 have h1:=aL.yL hp hi
 have h2:=h.aal hp hi
 have h3:=h.minute (i:=i-1) (by omega)
 unfold jt
 split <;> omega

theorem j6.late (hp:p.ok=true)(h:j6 p c){i:Nat}(hi:i<p.n):0≤cO p c i∧cO p c i≤100000:=by
 have h1:=h.due hp hi
 have h2:=h.minute hi
 unfold cO
 split <;> omega

theorem j6.early (hp:p.ok=true)(h:j6 p c){i:Nat}(hi:i<p.n):0≤Qay p c i∧Qay p c i≤101440:=by
 have h1:=h.due hp hi
 have h2:=h.minute hi
 unfold Qay
 split <;> omega

theorem j6.sum (hp:p.ok=true)(h:j6 p c)(l:Int):∀{i:Nat},i≤p.n→0≤fA p c l i∧fA p c l i≤100000*i
 | 0,_=>by simp[fA]
 | i+1,hi=>by
  have ih:=h.sum hp l (i:=i) (by omega)
  have:=h.late hp (i:=i) (by omega)
  rw[fA]
  split <;> omega

end Go.Am.Sc

/-
 Real times,ez times,false dH,totals.
-/
namespace Go.Am.Sc

def lp (l:List Int):List Int:=l.mergeSort fun x y=>decide (x≤y)

theorem ue (l:List Int):(lp l).Perm l:=List.mergeSort_perm l _
theorem kH (l:List Int):(lp l).length=l.length:=List.length_mergeSort l
theorem pL (l:List Int):(lp l).Pairwise (·≤·):=by
 have:=List.pairwise_mergeSort (le:=fun x y:Int=>decide (x≤y)) (fun a b c h1 h2=>by simp at *;omega) (fun a b=>by simp;omega) l
 simpa[lp] using this
theorem Cm {l:List Int}{x:Int}:x∈lp l↔x∈l:=(ue l).mem_iff

theorem wF {a b:List Int}(ha:a.Pairwise (·≤·))(hb:b.Pairwise (·≤·))(h:a.Perm b):a=b:=h.eq_of_pairwise (fun x y _ _ h1 h2=>by omega) ha hb

def ins (t:Int):List Int→List Int
 | []=>[t]
 | x :: r=>if x≤t then x :: ins t r else t :: x :: r

theorem nX (t:Int):∀l:List Int,(ins t l).Perm (t :: l)
 | []=>.refl _
 | x :: r=>by
  rw[ins]
  split
  ·exact((nX t r).cons x).trans (.swap t x r)
  ·exact .refl _

theorem pX (t:Int):∀{l:List Int},l.Pairwise (·≤·)→(ins t l).Pairwise (·≤·)
 | [],_=>by simp[ins]
 | x :: r,h=>by
  rw[ins]
  have h1:=List.pairwise_cons.1 h
  split
  ·rename_i hx
   refine List.pairwise_cons.2 ⟨fun y hy=>?_,pX t h1.2⟩
   rcases List.mem_cons.1 ((nX t r).mem_iff.1 hy) with h2 | h2
   ·omega
   ·exact h1.1 y h2
  ·rename_i hx
   refine List.pairwise_cons.2 ⟨fun y hy=>?_,h⟩
   rcases List.mem_cons.1 hy with h2 | h2
   ·omega
   ·have:=h1.1 y h2
    omega

theorem NX (t:Int):∀{l:List Int} {k:Nat},k≤l.length→(∀j (h:j<k) (h2:j<l.length),l[j]≤t)→(∀h:k<l.length,¬l[k]≤t)→ins t l=l.take k++[t]++l.drop k
 | [],k,hk,_,_=>by simp[ins]
 | x :: r,0,_,_,h3=>by
  have:¬x≤t:=h3 (by simp)
  rw[ins,if_neg this]
  simp
 | x :: r,k+1,hk,h2,h3=>by
  have h0:x≤t:=h2 0 (by omega) (by simp)
  have:=NX t (l:=r) (k:=k) (by simpa using hk) (fun j h h'=>by have:=h2 (j+1) (by omega) (by simpa using h');rwa [List.getElem_cons_succ] at this) (fun h=>by have:=h3 (by simpa using h);rwa [List.getElem_cons_succ] at this)
  simp[ins,h0,this]

def Qaq:List Int→List Int→List Int
 | o,[]=>o
 | o,t :: r=>Qaq (ins t o) r

theorem AO:∀(o l:List Int),(Qaq o l).Perm (o++l)
 | o,[]=>by simp[Qaq]
 | o,t :: r=>by
  rw[Qaq]
  refine(AO (ins t o) r).trans (((nX t o).append_right r).trans ?_)
  exact List.perm_middle.symm

theorem BA:∀{o:List Int} (l:List Int),o.Pairwise (·≤·)→(Qaq o l).Pairwise (·≤·)
 | o,[],h=>h
 | o,t :: r,h=>BA r (pX t h)

theorem UP (l:List Int):Qaq [] l=lp l:=
 wF (BA l .nil) (pL l) ((AO [] l).trans (ue l).symm)

theorem GJ:∀(o l:List Int) (t:Int),Qaq o (l++[t])=ins t (Qaq o l)
 | o,[],t=>rfl
 | o,x :: r,t=>by
  rw[List.cons_append,Qaq,GJ,Qaq]

theorem aaU (t:Int)(l:List Int):(ins t l).length=l.length+1:=by simpa using(nX t l).length_eq
theorem Ld (l:List Int):(Qaq [] l).length=l.length:=by simpa using(AO [] l).length_eq

def cd (l:List aS)(k:Nat):aS:=l.getD k default

def nB (p:aL)(l:List aS)(i:Nat)(cls:Int)(k:Nat):Bool:=
 ((cd l k).ln i).mark==0&&(gA p (cd l k) i&&(decide (cls<0)||(cd l k).cls==cls))

def jS (p:aL)(l:List aS)(i:Nat)(cls:Int)(n:Nat):List Nat:=(List.range n).filter (nB p l i cls)
def eY (p:aL)(l:List aS)(i:Nat)(cls:Int):List Nat:=jS p l i cls l.length

theorem Bm {p:aL}{l:List aS}{i:Nat}{cls:Int}{n:Nat}:jS p l i cls (n+1)=if nB p l i cls n=true then jS p l i cls n++[n] else jS p l i cls n:=by
 unfold jS
 rw[List.range_succ,List.filter_append]
 cases h:nB p l i cls n <;> simp[h]

theorem kf {p:aL}{l:List aS}{i:Nat}{cls:Int}{n:Nat}:(jS p l i cls n).length≤n:=by
 simpa[jS] using List.length_filter_le (nB p l i cls) (List.range n)

theorem yQ {p:aL}{l:List aS}{i:Nat}{cls:Int}{k:Nat}:k∈eY p l i cls↔k<l.length∧nB p l i cls k=true:=by
 simp[eY,jS]

def basis (p:aL)(l:List aS)(i aO:Nat):List Nat:=
 if 0<(eY p l i (cd l aO).cls).length then eY p l i (cd l aO).cls else eY p l i (-1)

theorem fm {p:aL}{l:List aS}{i aO k:Nat}(h:k∈basis p l i aO):k<l.length∧((cd l k).ln i).mark=0:=by
 unfold basis at h
 split at h
 all_goals
  have:=yQ.1 h
  refine⟨this.1,?_⟩
  have:=this.2
  simp only[nB,Bool.and_eq_true,beq_iff_eq] at this
  exact this.1

theorem mi {p:aL}{l:List aS}{i aO:Nat}:(basis p l i aO).length≤l.length:=by
 unfold basis
 split <;> exact kf

def oC (l:List aS)(i k:Nat):Int:=((cd l k).ln i).time
def vQ (l:List aS)(i k:Nat):Int:=((cd l k).ln i).minute
def jO (l:List aS)(i:Nat)(b:List Nat):List Int:=b.map (oC l i)

def p_ (l:List aS)(i:Nat)(at_:Int)(s:Int×Int)(k:Nat):Int×Int:=
 if vQ l i k≤at_∧(vQ l i k > s.1∨vQ l i k=s.1∧oC l i k > s.2) then(vQ l i k,oC l i k) else s

def least (l:List aS)(i:Nat)(b:List Nat):Int:=(lp (jO l i b)).getD 0 0

def qS (p:aL)(l:List aS)(aO i:Nat):Int:=
 if(basis p l i aO).length=0 then 0
 else if p.ez=1 then(lp (jO l i (basis p l i aO))).getD (((basis p l i aO).length-1) / 2) 0
 else if p.ez=2 then(lp (jO l i (basis p l i aO))).getD ((basis p l i aO).length-1) 0
 else if p.ez=4 then(least l i (basis p l i aO)*p.jV+99) / 100
 else((basis p l i aO).foldl (p_ l i (vQ l i aO)) (-1,least l i (basis p l i aO))).2

def cS (p:aL)(l:List aS)(aO i:Nat):Int:=
 if((cd l aO).ln i).mark=0 then oC l i aO
 else if((cd l aO).ln i).mark=1 then qS p l aO i
 else(if 0<(basis p l i aO).length then least l i (basis p l i aO) else 0)+p.mG

def mI (c:aS):Nat→Nat
 | 0=>0
 | i+1=>mI c i+if(c.ln i).jump=true then 1 else 0

def qx (p:aL)(c:aS)(i:Nat):Int:=if(c.ln i).jump=true then p.jumps.getD (min (mI c i) (p.jumps.length-1)) 0 else 0

def oy (p:aL)(l:List aS)(aO i:Nat):Int:=
 if(p.it i).kind=2 then cS p l aO i+qx p (cd l aO) i else cO p (cd l aO) i*p.late+Qay p (cd l aO) i*p.early

def jw (p:aL)(l:List aS)(aO:Nat):Nat→Int
 | 0=>0
 | i+1=>jw p l aO i+if gA p (cd l aO) i=true then oy p l aO i else 0

def e_ (p:aL)(l:List aS)(aO:Nat):Int:=jw p l aO p.n

def br (p:aL)(l:List aS):Bool:=decide (l.length≤200)&&l.all (fe p)

variable {p:aL} {l:List aS}

theorem cr (h:br p l=true):l.length≤200∧∀k,k<l.length→j6 p (cd l k):=by
 simp only[br,Bool.and_eq_true,decide_eq_true_eq] at h
 refine⟨h.1,fun k hk=>?_⟩
 have:=List.all_eq_true.1 h.2 l[k] (List.getElem_mem hk)
 have e:cd l k=l[k]:=by simp[cd,List.getD,hk]
 rw[e]
 exact Ws this

theorem Fa {k:Nat}(h:k<l.length):l[k]? = some (cd l k):=by simp[cd,List.getD,h]

theorem C8 {b:List Int}{k:Nat}{lo hi:Int}(hk:k<b.length)(h:∀x,x∈b→lo≤x∧x≤hi):lo≤(lp b).getD k 0∧(lp b).getD k 0≤hi:=by
 have hk2:k<(lp b).length:=by rw[kH];exact hk
 have e:(lp b).getD k 0=(lp b)[k]:=by simp[List.getD,hk2]
 rw[e]
 exact h _ (Cm.1 (List.getElem_mem hk2))

theorem zF (hc:br p l=true){i aO:Nat}(hi:i<p.n){x:Int}(hx:x∈jO l i (basis p l i aO)):0≤x∧x≤36000000:=by
 obtain⟨k,hk,rfl⟩:=List.mem_map.1 hx
 exact((cr hc).2 k (fm hk).1).time hi

theorem gM {i:Nat}{b:List Nat}:(jO l i b).length=b.length:=by simp[jO]

theorem lJ (hc:br p l=true){i aO:Nat}(hi:i<p.n):0≤least l i (basis p l i aO)∧least l i (basis p l i aO)≤36000000:=by
 unfold least
 rcases Nat.eq_zero_or_pos (jO l i (basis p l i aO)).length with h | h
 ·have:lp (jO l i (basis p l i aO))=[]:=by
   rw[←List.length_eq_zero_iff,kH]
   exact h
  rw[this]
  simp
 ·exact C8 h fun x hx=>zF hc hi hx

theorem WD (hc:br p l=true){i:Nat}(hi:i<p.n){m:Int}:∀{b:List Nat} {s:Int×Int},(∀k,k∈b→k<l.length)→-1≤s.1∧s.1≤100000∧0≤s.2∧s.2≤36000000→-1≤(b.foldl (p_ l i m) s).1∧(b.foldl (p_ l i m) s).1≤100000∧0≤(b.foldl (p_ l i m) s).2∧(b.foldl (p_ l i m) s).2≤36000000
 | [],s,_,h=>h
 | k :: b,s,hb,h=>by
  rw[List.foldl_cons]
  refine WD hc hi (fun k hk=>hb k (List.mem_cons_of_mem _ hk)) ?_
  have hk:=(cr hc).2 k (hb k (List.mem_cons_self ..))
  have h1:=hk.time hi
  have h2:=hk.minute hi
  unfold p_
  split
  ·simp only[vQ,oC]
   omega
  ·exact h

theorem aL.gd (hp:p.ok=true):(0≤p.late∧p.late≤36000000)∧(0≤p.early∧p.early≤36000000)∧(0≤p.mG∧p.mG≤36000000)∧(0≤p.jW∧p.jW≤1440)∧(0≤p.jX∧p.jX≤1440)∧(1≤p.jumps.length∧p.jumps.length≤10)∧∀k,0≤p.jumps.getD k 0∧p.jumps.getD k 0≤36000000:=by
 have h:=(aL.nV hp).2.2.1
 simp only[aL.iZ,Bool.and_eq_true,fV] at h
 obtain⟨h1,h2,h3,h4,h5,h6,h7⟩:=h
 have h7:=iG h7
 refine⟨iG h1,iG h2,iG h3,iG h4,iG h5,by omega,fun k=>?_⟩
 rcases Nat.lt_or_ge k p.jumps.length with h | h
 ·have:=iG (List.all_eq_true.1 h6 p.jumps[k] (List.getElem_mem h))
  simpa[List.getD,h] using this
 ·simp[List.getD,h]

theorem aL.mC (hp:p.ok=true):(1≤p.ez∧p.ez≤4)∧(100≤p.jV∧p.jV≤1000)∧(-1≤p.power∧p.power<p.n)∧(0≤p.power→(p.it p.power.toNat).kind=2):=by
 have h:=(aL.nV hp).2.2.2.1
 simp only[aL.kg,Bool.and_eq_true,Bool.or_eq_true,decide_eq_true_eq,beq_iff_eq] at h
 obtain⟨⟨h1,h2⟩,h3,h4,h5⟩:=h
 have h4:=iG h4
 exact⟨⟨h1,h2⟩,iG h3,by omega,fun h=>by omega⟩

theorem mF {a b x y:Int}(ha:0≤a∧a≤x)(hb:0≤b∧b≤y):0≤a*b∧a*b≤x*y:=
 ⟨Int.mul_nonneg ha.1 hb.1,Int.mul_le_mul ha.2 hb.2 hb.1 (by omega)⟩

theorem XR (hp:p.ok=true)(hc:br p l=true){i aO:Nat}(hi:i<p.n):0≤qS p l aO i∧qS p l aO i≤400000000:=by
 have hm:=aL.mC hp
 have hb:=lJ hc (aO:=aO) hi
 unfold qS
 split
 ·omega
 ·rename_i h0
  have hl:0<(jO l i (basis p l i aO)).length:=by rw[gM];omega
  split
  ·have:=C8 (k:=((basis p l i aO).length-1) / 2) (b:=jO l i (basis p l i aO)) (by rw[gM];omega) fun x hx=>zF hc hi hx
   omega
  ·split
   ·have:=C8 (k:=(basis p l i aO).length-1) (b:=jO l i (basis p l i aO)) (by rw[gM];omega) fun x hx=>zF hc hi hx
    omega
   ·split
    ·have:=mF hb ⟨(by omega:0≤p.jV),hm.2.1.2⟩
     omega
    ·have:=WD hc hi (m:=vQ l i aO) (b:=basis p l i aO) (s:=(-1,least l i (basis p l i aO))) (fun k hk=>(fm hk).1) ⟨by simp,by simp,hb.1,hb.2⟩
     omega

theorem yf (hp:p.ok=true)(hc:br p l=true){i aO:Nat}(hi:i<p.n)(cF:aO<l.length):0≤cS p l aO i∧cS p l aO i≤400000000:=by
 have hb:=lJ hc (aO:=aO) hi
 have hr:=aL.gd hp
 unfold cS
 split
 ·have:=((cr hc).2 aO cF).time hi
  unfold oC
  omega
 ·split
  ·exact XR hp hc hi
  ·split <;> omega

theorem Ec (hp:p.ok=true)(c:aS)(i:Nat):0≤qx p c i∧qx p c i≤36000000:=by
 unfold qx
 split
 ·exact(aL.gd hp).2.2.2.2.2.2 _
 ·omega

theorem Wf (hp:p.ok=true)(hc:br p l=true){i aO:Nat}(hi:i<p.n)(cF:aO<l.length):0≤oy p l aO i∧oy p l aO i≤8000000000000:=by
 have h:=(cr hc).2 aO cF
 have hr:=aL.gd hp
 unfold oy
 split
 ·have h1:=yf hp hc hi cF
  have h2:=Ec hp (cd l aO) i
  omega
 ·have h1:=mF (h.late hp hi) hr.1
  have h2:=mF (h.early hp hi) hr.2.1
  omega

theorem CY (hp:p.ok=true)(hc:br p l=true){aO:Nat}(cF:aO<l.length):∀{i:Nat},i≤p.n→0≤jw p l aO i∧jw p l aO i≤8000000000000*i
 | 0,_=>by simp[jw]
 | i+1,hi=>by
  have ih:=CY hp hc cF (i:=i) (by omega)
  have:=Wf hp hc (i:=i) (by omega) cF
  rw[jw]
  split <;> omega

theorem Gm {c:aS}{i k:Int}(hik:i≤k)(h:gA p c k=true):gA p c i=true:=by
 simp only[gA,Bool.or_eq_true,decide_eq_true_eq] at h ⊢
 omega

theorem w5 {aO:Nat}:∀{i n:Nat},i≤n→gA p (cd l aO) i=false→jw p l aO n=jw p l aO i
 | i,0,h,_=>by rw[show i=0 by omega]
 | i,n+1,h,hr=>by
  rcases Nat.lt_or_ge n i with h1 | h1
  ·rw[show i=n+1 by omega]
  ·have:gA p (cd l aO) n=false:=by
    rw[Bool.eq_false_iff]
    intro hn
    rw[Gm (by omega) hn] at hr
    cases hr
   rw[jw,w5 h1 hr,this]
   simp

def tH (p:aL)(c:aS)(n:Nat):List Nat:=(List.range n).filter fun k=>(c.ln k).jump&&gA p c k

theorem Ee {c:aS}{n:Nat}:tH p c (n+1)=if((c.ln n).jump&&gA p c n)=true then tH p c n++[n] else tH p c n:=by
 unfold tH
 rw[List.range_succ,List.filter_append]
 cases h:((c.ln n).jump&&gA p c n) <;> simp[h]

theorem GH {c:aS}:∀{n:Nat},(n=0∨gA p c ((n:Int)-1)=true)→(tH p c n).length=mI c n
 | 0,_=>rfl
 | n+1,h=>by
  have hr:gA p c n=true:=by
   rcases h with h | h
   ·cases h
   ·rwa [show((n+1:Nat):Int)-1=n by omega] at h
  have ih:=GH (n:=n) (.inr (Gm (by omega) hr))
  rw[Ee,hr,Bool.and_true,mI]
  split <;> simp[ih]

theorem UG {c:aS}{n:Nat}:(tH p c n).length≤n:=by simpa[tH] using List.length_filter_le (fun k=>(c.ln k).jump&&gA p c k) (List.range n)

theorem j6.aaz {c:aS}(h:j6 p c){i:Nat}(hi:i<p.n)(hk:(p.it i).kind=1):(c.ln i).jump=false:=by
 have h1:=h.ln i hi
 simp only[dQ,Bool.and_eq_true,Bool.or_eq_true,beq_iff_eq,bne_iff_ne,decide_eq_true_eq,Bool.not_eq_true'] at h1
 rcases h1.2.2 with h2 | h2 | h2
 ·rcases h2.2 with h3 | h3
  ·exact h3.2.2
  ·exact absurd hk h3.1
 ·exact absurd hk h2.2.1
 ·exact h2.2.2.2

end Go.Am.Sc

/-
 Derivations: what lines say,what they follow from,which derivations hold (plain).
-/
namespace Go.Am.Sc

structure Tal where
 kind:Int
 aO:Int
 item:Int
 val:Int
 frm:List Int
deriving Inhabited

abbrev Key:=Int×Int×Int
def Tal.key (t:Tal):Key:=(t.kind,t.aO,t.item)
def tl (d:List Tal)(i:Nat):Tal:=d.getD i default

def aba (p:aL)(l:List aS)(aO i:Nat):List Int:=
 if gA p (cd l aO) i=true then
  (if(p.it i).kind=2 then[((cd l aO).ln i).mark+1] else[])++((if 0<cO p (cd l aO) i*p.late then[4] else[])++((if 0<Qay p (cd l aO) i*p.early then[5] else[])++(if((cd l aO).ln i).jump=true then[6] else[])))
 else[]

def aaV (p:aL)(l:List aS)(kd:Int)(aO i:Nat):Int×Bool:=
 if kd=7 then(e_ p l aO,i==0)
 else if gA p (cd l aO) i=false then(0,false)
 else if kd=1 then(oC l i aO,(p.it i).kind==2&&((cd l aO).ln i).mark==0)
 else if kd=2 then(if((cd l aO).ln i).mark=1 then(cS p l aO i,true) else(0,false))
 else if kd=3 then(if(p.it i).kind=2∧((cd l aO).ln i).mark=2 then(cS p l aO i,true) else(0,false))
 else if kd=4 then(cO p (cd l aO) i*p.late+Qay p (cd l aO) i*p.early,decide (0<cO p (cd l aO) i*p.late+Qay p (cd l aO) i*p.early)&&decide (0<cO p (cd l aO) i))
 else if kd=5 then(cO p (cd l aO) i*p.late+Qay p (cd l aO) i*p.early,decide (0<cO p (cd l aO) i*p.late+Qay p (cd l aO) i*p.early)&&!decide (0<cO p (cd l aO) i))
 else if kd=6 then(if((cd l aO).ln i).jump=true then(qx p (cd l aO) i,true) else(0,false))
 else(0,false)

def acK (p:aL)(l:List aS)(kd:Int)(aO i:Nat):Int:=
 if kd=1∨kd=2∨kd=3 then cS p l aO i
 else if kd=4 then cO p (cd l aO) i*p.late
 else if kd=5 then Qay p (cd l aO) i*p.early
 else if kd=6 then qx p (cd l aO) i
 else e_ p l aO

def kTo (p:aL)(l:List aS)(aO i k:Nat):List Int:=((List.range k).map fun j:Nat=>(j:Int)+1).filter fun kd=>(aaV p l kd aO i).2

theorem aiu {p:aL}{l:List aS}{aO i k:Nat}:kTo p l aO i (k+1)=if(aaV p l ((k:Int)+1) aO i).2=true then kTo p l aO i k++[(k:Int)+1] else kTo p l aO i k:=by
 unfold kTo
 rw[List.range_succ,List.map_append,List.filter_append]
 cases h:(aaV p l ((k:Int)+1) aO i).2 <;> simp[h]

variable {p:aL} {l:List aS} {aO i:Nat}

theorem afk (c:aS):cO p c i≤0∨Qay p c i≤0:=by
 unfold cO Qay
 split <;> split <;> omega

theorem want_eq (hok:p.ok=true)(hc:br p l=true)(hi:i<p.n)(cF:aO<l.length):kTo p l aO i 6=aba p l aO i:=by
 have h:=(cr hc).2 aO cF
 have h1:=h.late hok hi
 have h2:=h.early hok hi
 have h3:=aL.gd hok
 have hm:=h.mark hi
 have hk:=aL.yL hok hi
 have hle:=afk (p:=p) (i:=i) (cd l aO)
 have hn:=h.ln i hi
 have hmk:((cd l aO).ln i).mark=1→(p.it i).kind=2:=by
  intro S_
  rcases hk with hk | hk
  ·simp[dQ,S_,hk.1] at hn
  ·exact hk.1
 have hL0:0<cO p (cd l aO) i*p.late↔0<cO p (cd l aO) i*p.late+Qay p (cd l aO) i*p.early∧0<cO p (cd l aO) i:=by
  constructor
  ·intro hx
   have hl:0<cO p (cd l aO) i:=by
    rcases Int.lt_or_le 0 (cO p (cd l aO) i) with hl | hl
    ·exact hl
    ·have:cO p (cd l aO) i=0:=by omega
     rw[this] at hx
     simp at hx
   have:=Int.mul_nonneg h2.1 h3.2.1.1
   exact⟨by omega,hl⟩
  ·rintro⟨hx,hl⟩
   have he:Qay p (cd l aO) i=0:=by omega
   rw[he] at hx
   simpa using hx
 have hE0:0<Qay p (cd l aO) i*p.early↔0<cO p (cd l aO) i*p.late+Qay p (cd l aO) i*p.early∧¬0<cO p (cd l aO) i:=by
  constructor
  ·intro hx
   have hl:0<Qay p (cd l aO) i:=by
    rcases Int.lt_or_le 0 (Qay p (cd l aO) i) with hl | hl
    ·exact hl
    ·have:Qay p (cd l aO) i=0:=by omega
     rw[this] at hx
     simp at hx
   have:=Int.mul_nonneg h1.1 h3.1.1
   exact⟨by omega,by omega⟩
  ·rintro⟨hx,hl⟩
   have he:cO p (cd l aO) i=0:=by omega
   rw[he] at hx
   simpa using hx
 have e:kTo p l aO i 6=[1,2,3,4,5,6].filter fun kd=>(aaV p l kd aO i).2:=rfl
 rw[e]
 unfold aba
 cases hr:gA p (cd l aO) i
 ·simp[aaV,hr]
 ·have v1:(aaV p l 1 aO i).2=((p.it i).kind==2&&((cd l aO).ln i).mark==0):=by simp[aaV,hr]
  have v2:(aaV p l 2 aO i).2=((p.it i).kind==2&&((cd l aO).ln i).mark==1):=by
   by_cases hx:((cd l aO).ln i).mark=1
   ·simp[aaV,hr,hx,hmk hx]
   ·simp[aaV,hr,hx]
  have v3:(aaV p l 3 aO i).2=((p.it i).kind==2&&((cd l aO).ln i).mark==2):=by
   by_cases hx:(p.it i).kind=2∧((cd l aO).ln i).mark=2
   ·simp[aaV,hr,hx.1,hx.2]
   ·simp only[aaV,hr]
    simp only[hx]
    simpa using hx
  have v4:(aaV p l 4 aO i).2=decide (0<cO p (cd l aO) i*p.late):=by
   rw[decide_eq_decide.2 hL0,Bool.decide_and]
   simp[aaV,hr]
  have v5:(aaV p l 5 aO i).2=decide (0<Qay p (cd l aO) i*p.early):=by
   rw[decide_eq_decide.2 hE0,Bool.decide_and,decide_not]
   simp[aaV,hr]
  have v6:(aaV p l 6 aO i).2=((cd l aO).ln i).jump:=by
   cases hj:((cd l aO).ln i).jump <;> simp[aaV,hr,hj]
  simp only[List.filter_cons,List.filter_nil,v1,v2,v3,v4,v5,v6,if_true]
  have hst:(if((p.it i).kind==2&&((cd l aO).ln i).mark==0)=true then[(1:Int)] else[])++((if((p.it i).kind==2&&((cd l aO).ln i).mark==1)=true then[2] else[])++(if((p.it i).kind==2&&((cd l aO).ln i).mark==2)=true then[3] else[]))=(if(p.it i).kind=2 then[((cd l aO).ln i).mark+1] else[]):=by
   by_cases hx:(p.it i).kind=2
   ·rcases hm with hm | hm | hm <;> simp[hx,hm]
   ·simp[hx]
  rw[←hst]
  simp only[decide_eq_true_eq]
  split <;> split <;> split <;> split <;> split <;> split <;> simp

theorem val_eq (hok:p.ok=true)(hc:br p l=true)(hi:i<p.n)(cF:aO<l.length){kd:Int}(h:(aaV p l kd aO i).2=true):(aaV p l kd aO i).1=acK p l kd aO i:=by
 have hcd:=(cr hc).2 aO cF
 have h1:=hcd.late hok hi
 have h2:=hcd.early hok hi
 have hle:=afk (p:=p) (i:=i) (cd l aO)
 unfold aaV acK at *
 by_cases k7:kd=7
 ·simp[k7]
 simp only[k7,if_false] at h ⊢
 cases hr:gA p (cd l aO) i
 ·simp[hr] at h
 simp only[hr,Bool.true_eq_false,if_false] at h ⊢
 by_cases k1:kd=1
 ·subst k1
  simp at h
  simp[cS,h.2]
 by_cases k2:kd=2
 ·subst k2
  by_cases hx:((cd l aO).ln i).mark=1
  ·simp[hx]
  ·simp[hx] at h
 by_cases k3:kd=3
 ·subst k3
  by_cases hx:(p.it i).kind=2∧((cd l aO).ln i).mark=2
  ·simp[hx]
  ·simp only[hx,k1,k2,if_false,if_true] at h
   cases h
 by_cases k4:kd=4
 ·subst k4
  simp at h
  have:Qay p (cd l aO) i=0:=by omega
  simp[this]
 by_cases k5:kd=5
 ·subst k5
  simp at h
  have:cO p (cd l aO) i=0:=by omega
  simp[this]
 by_cases k6:kd=6
 ·subst k6
  by_cases hx:((cd l aO).ln i).jump=true
  ·simp[hx]
  ·simp[hx] at h
 simp[k1,k2,k3,k4,k5,k6] at h

theorem ahX (hok:p.ok=true)(hc:br p l=true)(hi:i<p.n)(cF:aO<l.length){kd:Int}(k7:kd≠7):(aaV p l kd aO i).2=true↔kd∈aba p l aO i:=by
 rw[←want_eq hok hc hi cF,kTo,List.mem_filter]
 refine⟨fun h=>⟨?_,h⟩,fun h=>h.2⟩
 have:kd=1∨kd=2∨kd=3∨kd=4∨kd=5∨kd=6:=by
  unfold aaV at h
  simp only[k7,if_false] at h
  by_cases k1:kd=1
  ·omega
  by_cases k2:kd=2
  ·omega
  by_cases k3:kd=3
  ·omega
  by_cases k4:kd=4
  ·omega
  by_cases k5:kd=5
  ·omega
  by_cases k6:kd=6
  ·omega
  simp[k1,k2,k3,k4,k5,k6] at h
 rcases this with rfl | rfl | rfl | rfl | rfl | rfl <;> decide

end Go.Am.Sc

/-
 A line follows from lines before it: by the program,by the document (plain).
-/
namespace Go.Am.Sc

theorem ah3 {f:Nat→Bool}:∀{n:Nat},0≤fst f n→∃i:Nat,i<n∧fst f n=i∧f i=true
 | 0,h=>by simp[fst] at h
 | n+1,h=>by
  by_cases h0:0≤fst f n
  ·obtain⟨i,h1,h2,h3⟩:=ah3 h0
   exact⟨i,by omega,by rw[fst,if_pos h0,h2],h3⟩
  ·rw[fst,if_neg h0] at h ⊢
   by_cases hn:f n=true
   ·exact⟨n,by omega,by rw[if_pos hn],hn⟩
   ·rw[if_neg hn] at h
    omega

theorem ah4 {f:Nat→Bool}:∀{n:Nat},fst f n<0→∀k,k<n→f k=false
 | 0,_,k,hk=>absurd hk (Nat.not_lt_zero _)
 | n+1,h,k,hk=>by
  rw[fst] at h
  split at h
  ·omega
  ·split at h
   ·omega
   ·rename_i h1 h2
    rcases Nat.lt_or_ge k n with hkn | hkn
    ·exact ah4 (by omega) k hkn
    ·obtain rfl:k=n:=by omega
     simpa using h2

def aaN (d:List Tal)(k:Key):Int:=fst (fun i=>(tl d i).key==k) d.length

def DK (d:List Tal):Prop:=∀i j:Nat,i<j→j<d.length→(tl d i).key≠(tl d j).key

variable {d:List Tal} {k:Key}

theorem agp (h:0≤aaN d k):∃i:Nat,i<d.length∧aaN d k=i∧(tl d i).key=k:=by
 obtain⟨i,h1,h2,h3⟩:=ah3 h
 exact⟨i,h1,h2,by simpa using h3⟩

theorem ajZ (h:aaN d k<0){i:Nat}(hi:i<d.length):(tl d i).key≠k:=by
 have:=ah4 h i hi
 simpa using this

theorem aj0 (hd:DK d){i:Nat}(hi:i<d.length):aaN d (tl d i).key=i:=by
 refine I3 hi (by simp) fun j hj=>?_
 have:=hd j i hj hi
 simpa using this

def abo (l:List aS)(kd:Int)(i:Nat)(b0 b:List Nat):List Key:=(b.filter fun c=>kd==2||oC l i c==least l i b0).map fun c:Nat=>((1:Int),(c:Int),(i:Int))
def abD (p:aL)(l:List aS)(aO n:Nat):List Key:=(List.range n).flatMap fun i=>(aba p l aO i).map fun kd=>(kd,(aO:Int),(i:Int))

def aa4 (p:aL)(l:List aS)(kd:Int)(aO i:Nat):List Key:=
 if kd=2∨kd=3 then abo l kd i (basis p l i aO) (basis p l i aO)
 else if kd=6 then(tH p (cd l aO) i).map fun k:Nat=>((6:Int),(aO:Int),(k:Int))
 else if kd=7 then abD p l aO p.n
 else[]

theorem acO {α β:Type}{f:α→β}(hf:∀a b,f a=f b→a=b){l:List α}(h:l.Nodup):(l.map f).Nodup:=by
 refine List.pairwise_map.2 (h.imp fun hab he=>hab (hf _ _ he))

theorem ahl {p:aL}{l:List aS}{i aO:Nat}:(basis p l i aO).Nodup:=by
 unfold basis
 split <;> exact List.Pairwise.filter _ List.nodup_range

theorem agf {l:List aS}{kd:Int}{i:Nat}{b0 b:List Nat}(hb:b.Nodup):(abo l kd i b0 b).Nodup:=by
 unfold abo
 refine acO (fun a b h=>?_) (List.Pairwise.filter _ hb)
 simp only[Prod.mk.injEq] at h
 omega

theorem ahn {p:aL}{l:List aS}{aO i:Nat}(hok:p.ok=true)(hc:br p l=true)(hi:i<p.n)(cF:aO<l.length):(aba p l aO i).Nodup:=by
 rw[←want_eq hok hc hi cF]
 unfold kTo
 refine List.Pairwise.filter _ (acO (fun a b h=>?_) List.nodup_range)
 omega

theorem aia {p:aL}{l:List aS}{aO n:Nat}{k:Key}(h:k∈abD p l aO n):∃i:Nat,i<n∧k.1∈aba p l aO i∧k.2.1=aO∧k.2.2=i:=by
 unfold abD at h
 obtain⟨i,hi,h⟩:=List.mem_flatMap.1 h
 obtain⟨kd,GN,rfl⟩:=List.mem_map.1 h
 exact⟨i,by simpa using hi,GN,rfl,rfl⟩

theorem acD {p:aL}{l:List aS}{aO n:Nat}:abD p l aO (n+1)=abD p l aO n++(aba p l aO n).map fun kd=>(kd,(aO:Int),(n:Int)):=by
 unfold abD
 rw[List.range_succ,List.flatMap_append]
 simp

theorem aeG {p:aL}{l:List aS}{aO:Nat}(hok:p.ok=true)(hc:br p l=true)(cF:aO<l.length):∀{n:Nat},n≤p.n→(abD p l aO n).Nodup
 | 0,_=>by simp[abD]
 | n+1,h=>by
  rw[acD]
  refine List.nodup_append.2 ⟨aeG hok hc cF (by omega),acO (fun a b h=>by simp only[Prod.mk.injEq] at h;exact h.1) (ahn hok hc (by omega) cF),fun a ha b hb hab=>?_⟩
  obtain⟨i,hi,_,_,h3⟩:=aia ha
  obtain⟨kd,_,rfl⟩:=List.mem_map.1 hb
  subst hab
  simp only at h3
  omega

theorem afc {p:aL}{l:List aS}{aO i:Nat}{kd:Int}(hok:p.ok=true)(hc:br p l=true)(cF:aO<l.length):(aa4 p l kd aO i).Nodup:=by
 unfold aa4
 split
 ·exact agf ahl
 ·split
  ·exact acO (fun a b h=>by simp only[Prod.mk.injEq] at h;omega) (List.Pairwise.filter _ List.nodup_range)
  ·split
   ·exact aeG hok hc cF (Nat.le_refl _)
   ·exact .nil

/-! ## by the program -/

def acC (d:List Tal)(aa1:List Key)(frm:List Int)(j:Nat):List Key:=(frm.take j).foldl (fun r f=>r.erase (tl d f.toNat).key) aa1

def okF (d:List Tal)(i:Nat)(aa1:List Key)(frm:List Int)(j:Nat):Bool:=
 gR (frm.getD j 0) 0 (i-1)&&((j==0||decide (frm.getD (j-1) 0<frm.getD j 0))&&decide ((tl d (frm.getD j 0).toNat).key∈acC d aa1 frm j))

def abt (kd:Int)(aa1:List Key):Int:=if kd=3 then(if 1<(aa1.length:Int) then 1 else aa1.length) else aa1.length

def abj (p:aL)(l:List aS)(d:List Tal)(i:Nat):Bool:=
 let t:=tl d i
 (gR t.aO 0 (l.length-1)&&gR t.item 0 (p.n-1))&&((aaV p l t.kind t.aO.toNat t.item.toNat).2&&(aaV p l t.kind t.aO.toNat t.item.toNat).1==t.val) &&
  ((t.frm.length:Int)==abt t.kind (aa4 p l t.kind t.aO.toNat t.item.toNat)&&(List.range t.frm.length).all (okF d i (aa4 p l t.kind t.aO.toNat t.item.toNat) t.frm))

def Good (d:List Tal)(i:Nat)(aa1:List Key)(frm:List Int):Prop:=frm.Pairwise (·< ·)∧∀f,f∈frm→(0≤f∧f<i)∧(tl d f.toNat).key∈aa1

theorem afi {x:Key}:∀(ks:List Key) {l:List Key},(∀k,k∈ks→k≠x)→(x∈ks.foldl (fun r k=>r.erase k) l↔x∈l)
 | [],l,_=>Iff.rfl
 | k :: ks,l,h=>by
  rw[List.foldl_cons,afi ks fun k' hk'=>h k' (List.mem_cons_of_mem _ hk')]
  exact List.mem_erase_of_ne fun e=>h k (List.mem_cons_self ..) e.symm

theorem air {d:List Tal}{aa1:List Key}{frm:List Int}{j:Nat}:acC d aa1 frm j=((frm.take j).map fun f=>(tl d f.toNat).key).foldl (fun r k=>r.erase k) aa1:=by
 unfold acC
 rw[List.foldl_map]

theorem acS:∀{l:List Int},(∀j,0<j→j<l.length→l.getD (j-1) 0<l.getD j 0)→l.Pairwise (·< ·)
 | [],_=>.nil
 | x :: r,h=>by
  have ih:r.Pairwise (·< ·):=acS fun j h0 hj=>by
   have:=h (j+1) (by omega) (by simpa using hj)
   obtain⟨j,rfl⟩:∃m,j=m+1:=⟨j-1,by omega⟩
   simpa using this
  refine List.pairwise_cons.2 ⟨fun y hy=>?_,ih⟩
  cases r with
  | nil=>cases hy
  | cons z r=>
   have h0:x<z:=by simpa using h 1 (by omega) (by simp)
   rcases List.mem_cons.1 hy with rfl | hy
   ·exact h0
   ·have:=(List.pairwise_cons.1 ih).1 y hy
    omega

theorem LD {l:List Int}{j:Nat}(h:j<l.length):l.getD j 0∈l:=by
 simp[List.getD,h]

theorem afd {i:Nat}{aa1:List Key}{frm:List Int}(hi:i≤d.length)(hd:∀a b:Nat,a<b→b<i→(tl d a).key≠(tl d b).key):(List.range frm.length).all (okF d i aa1 frm)=true↔Good d i aa1 frm:=by
 have step:∀{j:Nat},j<frm.length→(∀a,a<j→frm.getD a 0<frm.getD j 0)→(∀a,a≤j→0≤frm.getD a 0∧frm.getD a 0<i)→((tl d (frm.getD j 0).toNat).key∈acC d aa1 frm j↔(tl d (frm.getD j 0).toNat).key∈aa1):=by
  intro j hj h1 h2
  rw[air]
  refine afi _ fun k hk=>?_
  obtain⟨f,hf,rfl⟩:=List.mem_map.1 hk
  obtain⟨a,ha,rfl⟩:=List.getElem_of_mem hf
  have haj:a<j:=by simp only[List.length_take] at ha;omega
  have e:(frm.take j)[a]=frm.getD a 0:=by
   rw[List.getElem_take]
   simp[List.getD,show a<frm.length by omega]
  rw[e]
  have:=h1 a haj
  have b1:=h2 a (by omega)
  have b2:=h2 j (Nat.le_refl _)
  exact hd _ _ (by omega) (by omega)
 constructor
 ·intro h
  have h:=List.all_eq_true.1 h
  have hj:∀j,j<frm.length→(0≤frm.getD j 0∧frm.getD j 0≤(i:Int)-1)∧(j=0∨frm.getD (j-1) 0<frm.getD j 0)∧(tl d (frm.getD j 0).toNat).key∈acC d aa1 frm j:=by
   intro j hj
   have:=h j (List.mem_range.2 hj)
   simp only[okF,Bool.and_eq_true,Bool.or_eq_true,beq_iff_eq,decide_eq_true_eq] at this
   exact⟨iG this.1,this.2.1,this.2.2⟩
  have hp:frm.Pairwise (·< ·):=acS fun j h0 hl=>by
   have:=(hj j hl).2.1
   omega
  refine⟨hp,fun f hf=>?_⟩
  obtain⟨j,hjl,rfl⟩:=List.getElem_of_mem hf
  have e:frm[j]=frm.getD j 0:=by simp[List.getD,hjl]
  rw[e]
  have hb:=(hj j hjl).1
  refine⟨by omega,?_⟩
  refine(step hjl (fun a ha=>?_) (fun a ha=>by have:=(hj a (by omega)).1;omega)).1 (hj j hjl).2.2
  have:=List.pairwise_iff_getElem.1 hp a j (by omega) hjl ha
  have e':frm[a]'(by omega)=frm.getD a 0:=by simp[List.getD,show a<frm.length by omega]
  rw[←e,←e']
  exact this
 ·rintro⟨hp,hm⟩
  refine List.all_eq_true.2 fun j hj=>?_
  have hj:j<frm.length:=List.mem_range.1 hj
  have hlt:∀a,a<j→frm.getD a 0<frm.getD j 0:=by
   intro a ha
   have:=List.pairwise_iff_getElem.1 hp a j (by omega) hj ha
   have e:frm[j]=frm.getD j 0:=by simp[List.getD,hj]
   have e':frm[a]'(by omega)=frm.getD a 0:=by simp[List.getD,show a<frm.length by omega]
   rw[←e,←e']
   exact this
  have hb:=hm _ (LD hj)
  simp only[okF,Bool.and_eq_true,Bool.or_eq_true,beq_iff_eq,decide_eq_true_eq]
  refine⟨uQ (by omega),?_,(step hj hlt (fun a ha=>(hm _ (LD (by omega))).1)).2 hb.2⟩
  rcases Nat.eq_zero_or_pos j with h0 | h0
  ·exact .inl h0
  ·exact .inr (hlt (j-1) (by omega))

end Go.Am.Sc

/-
 What follows by the program follows by the document,and conversely (plain).
-/
namespace Go.Am.Sc

theorem acM {α:Type}[BEq α][LawfulBEq α]:∀{a b:List α},a.Nodup→(∀x,x∈a→x∈b)→b.length≤a.length→a.Perm b
 | [],b,_,_,h=>by
  have:b=[]:=List.length_eq_zero_iff.1 (by simpa using h)
  rw[this]
 | x :: r,b,hn,hs,h=>by
  have hx:=hs x (List.mem_cons_self ..)
  have hn:=List.nodup_cons.1 hn
  have h1:r.Perm (b.erase x):=acM hn.2 (fun y hy=>by
   have hne:y≠x:=fun e=>hn.1 (e ▸ hy)
   exact(List.mem_erase_of_ne hne).2 (hs y (List.mem_cons_of_mem _ hy))) (by
    rw[List.length_erase_of_mem hx]
    simp only[List.length_cons] at h
    omega)
  exact(h1.cons x).trans (List.perm_cons_erase hx).symm

variable {d:List Tal} {k:Key} {p:aL} {l:List aS} {aO:Nat}

theorem anG {l:List Int}(h:l.Pairwise (·< ·)):l.Pairwise (·≤·):=h.imp fun h=>Int.le_of_lt h

theorem abd {i a:Nat}(h:a<i):tl (d.take i) a=tl d a:=by
 simp[tl,List.getD,List.getElem?_take,h]

theorem aft {i:Nat}{aa1:List Key}{frm:List Int}(hi:i≤d.length)(hd:DK (d.take i))(h:Good d i aa1 frm):(frm.map fun f=>(tl d f.toNat).key).Nodup:=by
 refine List.pairwise_map.2 (List.Pairwise.imp_of_mem (fun {a b} ha hb hab=>?_) h.1)
 have h1:=(h.2 a ha).1
 have h2:=(h.2 b hb).1
 have:=hd a.toNat b.toNat (by omega) (by simp;omega)
 rwa [abd (by omega),abd (by omega)] at this

theorem afT {i:Nat}{f:Int}(hi:i≤d.length)(hd:DK (d.take i))(h:0≤f∧f<i):aaN (d.take i) (tl d f.toNat).key=f:=by
 have:=aj0 hd (i:=f.toNat) (by simp;omega)
 rw[abd (by omega)] at this
 rw[this]
 omega

theorem acQ {i:Nat}(hi:i≤d.length)(h:0≤aaN (d.take i) k):aaN (d.take i) k<i∧(tl d (aaN (d.take i) k).toNat).key=k:=by
 obtain⟨a,h1,h2,h3⟩:=agp h
 have ha:a<i:=by simp at h1;omega
 rw[abd ha] at h3
 rw[h2]
 exact⟨by omega,h3⟩

theorem aiQ {i:Nat}{aa1:List Key}{frm:List Int}(hi:i≤d.length)(hd:DK (d.take i))(hn:aa1.Nodup) :
  (frm.length=aa1.length∧Good d i aa1 frm)↔((∀y,y∈aa1.map (aaN (d.take i))→0≤y)∧frm=lp (aa1.map (aaN (d.take i)))):=by
 constructor
 ·rintro⟨hl,hg⟩
  have hnk:=aft hi hd hg
  have hp:(frm.map fun f=>(tl d f.toNat).key).Perm aa1:=acM hnk (fun x hx=>by
   obtain⟨f,hf,rfl⟩:=List.mem_map.1 hx
   exact(hg.2 f hf).2) (by simp[hl])
  have hq:(aa1.map (aaN (d.take i))).Perm frm:=by
   have h1:=hp.map (aaN (d.take i))
   rw[List.map_map] at h1
   have h2:frm.map (aaN (d.take i) ∘ fun f=>(tl d f.toNat).key)=frm:=by
    refine(List.map_congr_left fun f hf=>?_).trans (List.map_id frm)
    exact afT hi hd (hg.2 f hf).1
   rw[h2] at h1
   exact h1.symm
  refine⟨fun y hy=>(hg.2 y (hq.mem_iff.1 hy)).1.1,?_⟩
  exact wF (anG hg.1) (pL _) (hq.symm.trans (ue _).symm)
 ·rintro⟨h0,rfl⟩
  have hinj:(aa1.map (aaN (d.take i))).Nodup:=by
   refine List.pairwise_map.2 (List.Pairwise.imp_of_mem (fun {a b} ha hb hab e=>hab ?_) hn)
   have h1:=(acQ hi (h0 _ (List.mem_map_of_mem ha))).2
   have h2:=(acQ hi (h0 _ (List.mem_map_of_mem hb))).2
   rw[←h1,←h2,e]
  refine⟨by simp[kH],?_,fun f hf=>?_⟩
  ·have hs:=pL (aa1.map (aaN (d.take i)))
   have hnd:(lp (aa1.map (aaN (d.take i)))).Nodup:=(ue _).nodup_iff.2 hinj
   exact(List.Pairwise.and hs hnd).imp fun h=>by
    have:=h.1
    have:=h.2
    omega
  ·obtain⟨k,hk,rfl⟩:=List.mem_map.1 (Cm.1 hf)
   have h1:=h0 _ (List.mem_map_of_mem hk)
   have h2:=acQ hi h1
   rw[h2.2]
   exact⟨⟨h1,h2.1⟩,hk⟩

theorem aiP {i:Nat}{aa1:List Key}{frm:List Int}(hi:i≤d.length)(hd:DK (d.take i)) :
  (frm.length=(if 1<aa1.length then 1 else aa1.length)∧Good d i aa1 frm) ↔
   ((aa1=[]∨(aa1.map (aaN (d.take i))).filter (fun y=>decide (0≤y))≠[])∧if lp ((aa1.map (aaN (d.take i))).filter fun y=>decide (0≤y))≠[] then(∃y,y∈lp ((aa1.map (aaN (d.take i))).filter fun y=>decide (0≤y))∧frm=[y]) else frm=[]):=by
 have hmem:∀y,y∈(aa1.map (aaN (d.take i))).filter (fun y=>decide (0≤y))↔0≤y∧∃k,k∈aa1∧aaN (d.take i) k=y:=fun y=>by
  simp only[List.mem_filter,List.mem_map,decide_eq_true_eq]
  exact And.comm
 cases aa1 with
 | nil=>
  simp only[List.length_nil,List.map_nil,List.filter_nil]
  constructor
  ·rintro⟨h,_⟩
   have:frm=[]:=List.length_eq_zero_iff.1 (by simpa using h)
   subst this
   simp[lp]
  ·rintro⟨_,h⟩
   have:frm=[]:=by simpa[lp] using h
   subst this
   exact⟨rfl,.nil,fun f hf=>by cases hf⟩
 | cons k0 r=>
  have W0:(if 1<(k0 :: r).length then 1 else(k0 :: r).length)=1:=by
   simp only[List.length_cons]
   split <;> omega
  rw[W0]
  constructor
  ·rintro⟨h,hg⟩
   obtain⟨f,rfl⟩:=List.length_eq_one_iff.1 h
   have hf:=hg.2 f (by simp)
   have hm:f∈((k0 :: r).map (aaN (d.take i))).filter (fun y=>decide (0≤y)):=(hmem f).2 ⟨hf.1.1,_,hf.2,afT hi hd hf.1⟩
   have hne:((k0 :: r).map (aaN (d.take i))).filter (fun y=>decide (0≤y))≠[]:=fun e=>by rw[e] at hm;cases hm
   refine⟨.inr hne,?_⟩
   rw[if_pos (fun e=>by have:=Cm.2 hm;rw[e] at this;cases this)]
   exact⟨f,Cm.2 hm,rfl⟩
  ·rintro⟨h1,h2⟩
   have hne:=h1.resolve_left (by simp)
   rw[if_pos (fun e=>by
    have:=kH (((k0 :: r).map (aaN (d.take i))).filter (fun y=>decide (0≤y)))
    rw[e] at this
    exact hne (List.length_eq_zero_iff.1 this.symm))] at h2
   obtain⟨y,hy,rfl⟩:=h2
   obtain⟨h0,k,hk,rfl⟩:=(hmem y).1 (Cm.1 hy)
   have h3:=acQ hi h0
   refine⟨rfl,by simp,fun f hf=>?_⟩
   obtain rfl:=List.mem_singleton.1 hf
   rw[h3.2]
   exact⟨⟨h0,h3.1⟩,hk⟩

/-! ## by the document -/

def atR (p:aL)(l:List aS)(pre:List Tal)(kd:Int)(aO i:Nat):List Int:=
 if kd=2 then(basis p l i aO).map fun c:Nat=>aaN pre (1,c,i)
 else if kd=3 then((basis p l i aO).filter fun c:Nat=>decide (0≤aaN pre (1,c,i))&&oC l i c==least l i (basis p l i aO)).map fun c:Nat=>aaN pre (1,c,i)
 else if kd=6 then((List.range i).filter fun k=>((cd l aO).ln k).jump).map fun k:Nat=>aaN pre (6,aO,k)
 else if kd=7 then(List.range p.n).flatMap fun i:Nat=>(aba p l aO i).map fun kd=>aaN pre (kd,aO,i)
 else[]

def okR (p:aL)(l:List aS)(pre:List Tal)(kd:Int)(aO i:Nat):Bool:=
 (decide (kd≠3)||((basis p l i aO).length==0||decide (0<(atR p l pre kd aO i).length)))&&(atR p l pre kd aO i).all fun y=>decide (0≤y)

def acy (p:aL)(l:List aS)(pre:List Tal)(kd:Int)(aO i:Nat):List Int:=lp (atR p l pre kd aO i)

def ab6 (p:aL)(l:List aS)(pre:List Tal)(x:Tal):Bool:=
 (gR x.aO 0 (l.length-1)&&gR x.item 0 (p.n-1))&&(decide (aaN pre x.key<0) &&
  ((if x.kind=7 then x.item==0 else decide (x.kind∈aba p l x.aO.toNat x.item.toNat)) &&
   ((okR p l pre x.kind x.aO.toNat x.item.toNat&&x.val==acK p l x.kind x.aO.toNat x.item.toNat) &&
    (if x.kind=3∧0<(acy p l pre x.kind x.aO.toNat x.item.toNat).length then(acy p l pre x.kind x.aO.toNat x.item.toNat).any fun y=>x.frm==[y]
     else x.frm==acy p l pre x.kind x.aO.toNat x.item.toNat))))

theorem akT {pre:List Tal}{kd:Int}{i:Nat}(h3:kd≠3)(h6:kd=6→gA p (cd l aO) i=true):atR p l pre kd aO i=(aa4 p l kd aO i).map (aaN pre):=by
 unfold atR aa4
 by_cases h2:kd=2
 ·subst h2
  have:((basis p l i aO).filter fun c=>(2:Int)==2||oC l i c==least l i (basis p l i aO))=basis p l i aO:=List.filter_eq_self.2 fun _ _=>rfl
  simp only[abo,this,if_true,true_or,List.map_map]
  rfl
 ·simp only[h2,h3,or_self,if_false]
  by_cases h6':kd=6
  ·rw[if_pos h6',if_pos h6',tH,List.map_map]
   have:((List.range i).filter fun k=>((cd l aO).ln k).jump)=((List.range i).filter fun k=>((cd l aO).ln k).jump&&gA p (cd l aO) k):=by
    refine List.filter_congr fun k hk=>?_
    have hk:k<i:=List.mem_range.1 hk
    rw[Gm (by omega) (h6 h6'),Bool.and_true]
   rw[this]
   rfl
  ·rw[if_neg h6',if_neg h6']
   by_cases h7:kd=7
   ·rw[if_pos h7,if_pos h7,abD,List.map_flatMap]
    congr 1
    funext i
    rw[List.map_map]
    rfl
   ·rw[if_neg h7,if_neg h7]
    rfl

theorem ahm {pre:List Tal}{i:Nat}:atR p l pre 3 aO i=((aa4 p l 3 aO i).map (aaN pre)).filter fun y=>decide (0≤y):=by
 unfold atR aa4
 rw[if_neg (by decide),if_pos rfl,if_pos (.inr rfl),abo,List.map_map,List.filter_map,List.filter_filter]
 have:((basis p l i aO).filter fun c:Nat=>decide (0≤aaN pre (1,c,i))&&oC l i c==least l i (basis p l i aO))=((basis p l i aO).filter fun c:Nat=>((fun y:Int=>decide (0≤y)) ∘ (aaN pre ∘ fun c:Nat=>((1:Int),(c:Int),(i:Int)))) c&&((3:Int)==2||oC l i c==least l i (basis p l i aO))):=by
  refine List.filter_congr fun c _=>?_
  rfl
 rw[this]
 rfl

def abl (p:aL)(l:List aS)(d:List Tal)(n:Nat):Bool:=(List.range n).all fun i=>decide ((tl d i).key∉(d.take i).map Tal.key)&&abj p l d i
def acN (p:aL)(l:List aS)(d:List Tal)(n:Nat):Bool:=(List.range n).all fun i=>ab6 p l (d.take i) (tl d i)

theorem all_succ {f:Nat→Bool}{n:Nat}:(List.range (n+1)).all f=((List.range n).all f&&f n):=by
 rw[List.range_succ,List.all_append]
 simp

end Go.Am.Sc

/-
 What holds by the program has the times and totals of the cars;FJ beginning holds as well (plain).
-/
namespace Go.Am.Sc

variable {d:List Tal} {p:aL} {l:List aS}

theorem alb {i:Nat}(hi:i≤d.length)(hd:DK (d.take i)):∀a b:Nat,a<b→b<i→(tl d a).key≠(tl d b).key:=by
 intro a b hab hb
 have:=hd a b hab (by simp;omega)
 rwa [abd (by omega),abd (by omega)] at this

structure ali (p:aL)(l:List aS)(d:List Tal)(i k m:Nat):Prop where
 aO:(tl d i).aO=k
 it:(tl d i).item=m
 cF:k<l.length
 hit:m<p.n
 is:(aaV p l (tl d i).kind k m).2=true
 val:(aaV p l (tl d i).kind k m).1=(tl d i).val
 len:((tl d i).frm.length:Int)=abt (tl d i).kind (aa4 p l (tl d i).kind k m)
 good:Good d i (aa4 p l (tl d i).kind k m) (tl d i).frm

theorem ab4 {i:Nat}(hi:i≤d.length)(hd:DK (d.take i)):abj p l d i=true↔∃aO it,ali p l d i aO it:=by
 constructor
 ·intro h
  unfold abj at h
  simp only[Bool.and_eq_true,beq_iff_eq] at h
  obtain⟨⟨⟨h1,h2⟩,h3,h4⟩,h5,h6⟩:=h
  have r1:=iG h1
  have r2:=iG h2
  exact⟨(tl d i).aO.toNat,(tl d i).item.toNat,by omega,by omega,by omega,by omega,h3,h4,h5,(afd hi (alb hi hd)).1 h6⟩
 ·rintro⟨aO,it,h⟩
  have h1:=h.aO
  have h2:=h.it
  have h3:=h.cF
  have h4:=h.hit
  unfold abj
  simp only
  rw[uQ (by omega),uQ (by omega),h1,h2,Int.toNat_natCast,Int.toNat_natCast,h.is,h.val,(afd hi (alb hi hd)).2 h.good,h.len]
  simp

def vK (p:aL)(l:List aS)(k:Key):Int:=(aaV p l k.1 k.2.1.toNat k.2.2.toNat).1

theorem alm (hok:p.ok=true)(hc:br p l=true){i aO:Nat}(hi:i<p.n)(cF:aO<l.length){kd:Int}(h:(aaV p l kd aO i).2=true):0≤(aaV p l kd aO i).1∧(aaV p l kd aO i).1≤900000000000000:=by
 rw[val_eq hok hc hi cF h]
 have hcd:=(cr hc).2 aO cF
 have hh:=aL.gi hok
 have h1:=yf hok hc hi cF
 have h2:=Ec hok (cd l aO) i
 have h3:=mF (hcd.late hok hi) (aL.gd hok).1
 have h4:=mF (hcd.early hok hi) (aL.gd hok).2.1
 have h5:=CY hok hc cF (i:=p.n) (Nat.le_refl _)
 unfold acK
 split
 ·omega
 split
 ·omega
 split
 ·omega
 split
 ·omega
 ·unfold e_
  omega

theorem aiW (hok:p.ok=true)(hc:br p l=true){i aO:Nat}(hi:i<p.n)(cF:aO<l.length){kd:Int}(hk:kd=1∨kd=2∨kd=3)(h:(aaV p l kd aO i).2=true):(p.it i).kind=2∧gA p (cd l aO) i=true∧(aaV p l kd aO i).1=cS p l aO i:=by
 have hcd:=(cr hc).2 aO cF
 have hn:=hcd.ln i hi
 have GN:=aL.yL hok hi
 refine⟨?_,?_,?_⟩
 ·unfold aaV at h
  rw[if_neg (by omega)] at h
  split at h
  ·cases h
  ·rcases hk with rfl | rfl | rfl
   ·simp at h
    exact h.1
   ·by_cases hm:((cd l aO).ln i).mark=1
    ·rcases GN with GN | GN
     ·simp[dQ,hm,GN.1] at hn
     ·exact GN.1
    ·simp[hm] at h
   ·by_cases hm:(p.it i).kind=2∧((cd l aO).ln i).mark=2
    ·exact hm.1
    ·rw[if_neg (by decide),if_neg (by decide),if_pos rfl,if_neg hm] at h
     cases h
 ·unfold aaV at h
  rw[if_neg (by omega)] at h
  split at h
  ·cases h
  ·rename_i hr
   simpa using hr
 ·rw[val_eq hok hc hi cF h]
  unfold acK
  rw[if_pos hk]

end Go.Am.Sc

/-
 The standard derivation: the same lines by the program and by the document;it holds (plain).
-/
namespace Go.Am.Sc

variable {d:List Tal} {p:aL} {l:List aS}

def seqAt (m i:Nat):List Key:=(List.range m).map (fun c:Nat=>((1:Int),(c:Int),(i:Int)))++(List.range m).flatMap fun c:Nat=>([2,3,4,5,6]:List Int).map fun kd=>(kd,(c:Int),(i:Int))
def seqT (m:Nat):List Key:=(List.range m).map fun c:Nat=>((7:Int),(c:Int),(0:Int))
def seqP (p:aL)(l:List aS):List Key:=(List.range p.n).flatMap (seqAt l.length)++seqT l.length

def isK (p:aL)(l:List aS)(k:Key):Bool:=(aaV p l k.1 k.2.1.toNat k.2.2.toNat).2
def kseq (p:aL)(l:List aS):List Key:=(seqP p l).filter (isK p l)

def plcT (rows:List Tal)(k:Key):Int:=if 0≤aaN rows k then aaN rows k else 0

def fstP (p:aL)(l:List aS)(k:Key):List Key:=if k.1=3 then(aa4 p l k.1 k.2.1.toNat k.2.2.toNat).take 1 else aa4 p l k.1 k.2.1.toNat k.2.2.toNat

def rowP (p:aL)(l:List aS)(rows:List Tal)(k:Key):Tal:=⟨k.1,k.2.1,k.2.2,vK p l k,lp ((fstP p l k).map (plcT rows))⟩
def addP (p:aL)(l:List aS)(rows:List Tal)(k:Key):List Tal:=rows++[rowP p l rows k]
def derTo (p:aL)(l:List aS)(ks:List Key):List Tal:=ks.foldl (addP p l) []

theorem derTo_snoc (ks:List Key)(k:Key):derTo p l (ks++[k])=derTo p l ks++[rowP p l (derTo p l ks) k]:=by
 unfold derTo
 rw[List.foldl_append]
 rfl

theorem derTo_key (ks:List Key):(derTo p l ks).map Tal.key=ks:=by
 have h:∀(n:Nat) (ks:List Key),ks.length=n→(derTo p l ks).map Tal.key=ks:=by
  intro n
  induction n with
  | zero=>
   intro ks h
   have:ks=[]:=List.length_eq_zero_iff.1 h
   subst this
   rfl
  | succ n ih=>
   intro ks h
   obtain⟨a,k,rfl⟩:∃a k,ks=a++[k]:=⟨ks.dropLast,ks.getLast (by intro e;simp[e] at h),(List.dropLast_concat_getLast _).symm⟩
   rw[derTo_snoc,List.map_append,ih a (by simp at h;omega)]
   rfl
 exact h _ ks rfl

theorem derTo_len (ks:List Key):(derTo p l ks).length=ks.length:=by
 have:=congrArg List.length (derTo_key (p:=p) (l:=l) ks)
 simpa using this

theorem derTo_take:∀(n:Nat) (ks:List Key),(derTo p l ks).take n=derTo p l (ks.take n):=by
 have h:∀(m:Nat) (ks:List Key),ks.length=m→∀n,(derTo p l ks).take n=derTo p l (ks.take n):=by
  intro m
  induction m with
  | zero=>
   intro ks h n
   have:ks=[]:=List.length_eq_zero_iff.1 h
   subst this
   simp[derTo]
  | succ m ih=>
   intro ks h n
   obtain⟨a,k,rfl⟩:∃a k,ks=a++[k]:=⟨ks.dropLast,ks.getLast (by intro e;simp[e] at h),(List.dropLast_concat_getLast _).symm⟩
   have hl:=derTo_len (p:=p) (l:=l) a
   have ha:a.length=m:=by simp at h;omega
   rcases Nat.lt_or_ge m n with hn | hn
   ·rw[List.take_of_length_le (by rw[derTo_len];simp;omega),List.take_of_length_le (by simp;omega)]
   ·rw[derTo_snoc,List.take_append_of_le_length (by omega),List.take_append_of_le_length (by omega),ih a ha]
 exact fun n ks=>h _ ks rfl n

theorem derTo_at {ks:List Key}{i:Nat}(h:i<ks.length):tl (derTo p l ks) i=rowP p l (derTo p l (ks.take i)) ks[i]:=by
 have e:ks.take (i+1)=ks.take i++[ks[i]]:=by
  rw[List.take_add_one,List.getElem?_eq_getElem h]
  rfl
 have h1:tl ((derTo p l ks).take (i+1)) i=tl (derTo p l ks) i:=abd (by omega)
 rw[←h1,derTo_take,e,derTo_snoc]
 have hl:(derTo p l (ks.take i)).length=i:=by rw[derTo_len];simp;omega
 unfold tl
 rw[List.getD_eq_getElem?_getD,List.getElem?_append_right (by omega),hl,Nat.sub_self]
 rfl

/-! ## the order of the lines -/

def rnk (n:Nat)(k:Key):Int:=(if k.1=7 then(n:Int) else k.2.2)*20000+(if k.1=1 then 0 else 10000)+k.2.1*10+k.1

theorem seqAt_mem {m i:Nat}{k:Key}:k∈seqAt m i↔∃c:Nat,c<m∧k.2.1=c∧k.2.2=i∧1≤k.1∧k.1≤6:=by
 obtain⟨kd,a,b⟩:=k
 unfold seqAt
 simp only[List.mem_append,List.mem_map,List.mem_flatMap,List.mem_range,Prod.mk.injEq,List.mem_cons,List.not_mem_nil,or_false]
 constructor
 ·rintro(⟨c,hc,rfl,rfl,rfl⟩ | ⟨c,hc,kd',hk,rfl,rfl,rfl⟩)
  ·exact⟨c,hc,rfl,rfl,by omega,by omega⟩
  ·exact⟨c,hc,rfl,rfl,by omega,by omega⟩
 ·rintro⟨c,hc,rfl,rfl,h1,h2⟩
  by_cases h:kd=1
  ·exact .inl ⟨c,hc,h.symm,rfl,rfl⟩
  ·exact .inr ⟨c,hc,kd,by omega,rfl,rfl,rfl⟩

theorem seqT_mem {m:Nat}{k:Key}:k∈seqT m↔∃c:Nat,c<m∧k.2.1=c∧k.2.2=0∧k.1=7:=by
 obtain⟨kd,a,b⟩:=k
 unfold seqT
 simp only[List.mem_map,List.mem_range,Prod.mk.injEq]
 constructor
 ·rintro⟨c,hc,rfl,rfl,rfl⟩
  exact⟨c,hc,rfl,rfl,rfl⟩
 ·rintro⟨c,hc,rfl,rfl,rfl⟩
  exact⟨c,hc,rfl,rfl,rfl⟩

theorem seqP_mem {k:Key}:k∈seqP p l↔(∃c i:Nat,c<l.length∧i<p.n∧k.2.1=c∧k.2.2=i∧1≤k.1∧k.1≤6)∨(∃c:Nat,c<l.length∧k.2.1=c∧k.2.2=0∧k.1=7):=by
 unfold seqP
 rw[List.mem_append,List.mem_flatMap,seqT_mem]
 refine or_congr ?_ Iff.rfl
 constructor
 ·rintro⟨i,hi,h⟩
  obtain⟨c,h1,h2,h3,h4,h5⟩:=seqAt_mem.1 h
  exact⟨c,i,h1,List.mem_range.1 hi,h2,h3,h4,h5⟩
 ·rintro⟨c,i,h1,hi,h2,h3,h4,h5⟩
  exact⟨i,List.mem_range.2 hi,seqAt_mem.2 ⟨c,h1,h2,h3,h4,h5⟩⟩

theorem range_lt (n:Nat):(List.range n).Pairwise (·< ·):=List.pairwise_lt_range

theorem seqAt_sorted {m i n:Nat}(hm:m≤200):(seqAt m i).Pairwise fun a b=>rnk n a<rnk n b:=by
 unfold seqAt
 refine List.pairwise_append.2 ⟨?_,?_,?_⟩
 ·refine List.pairwise_map.2 (List.Pairwise.imp (fun {a b} h=>?_) (range_lt m))
  simp[rnk]
  omega
 ·refine List.pairwise_flatMap.2 ⟨fun c _=>?_,List.Pairwise.imp (fun {a b} h x hx y hy=>?_) (range_lt m)⟩
  ·refine List.pairwise_map.2 ?_
   refine List.Pairwise.imp_of_mem (R:=fun a b:Int=>a<b) (fun {a b} ha hb hab=>?_) (by simp)
   simp only[List.mem_cons,List.not_mem_nil,or_false] at ha hb
   simp only[rnk]
   rw[if_neg (by omega),if_neg (by omega),if_neg (by omega),if_neg (by omega)]
   omega
  ·obtain⟨kx,hkx,rfl⟩:=List.mem_map.1 hx
   obtain⟨ky,hky,rfl⟩:=List.mem_map.1 hy
   simp only[List.mem_cons,List.not_mem_nil,or_false] at hkx hky
   simp only[rnk]
   rw[if_neg (by omega),if_neg (by omega),if_neg (by omega),if_neg (by omega)]
   omega
 ·intro a ha b hb
  obtain⟨c,hc,rfl⟩:=List.mem_map.1 ha
  obtain⟨c2,FP,hb⟩:=List.mem_flatMap.1 hb
  obtain⟨ky,hky,rfl⟩:=List.mem_map.1 hb
  have hc:=List.mem_range.1 hc
  simp only[List.mem_cons,List.not_mem_nil,or_false] at hky
  simp only[rnk]
  rw[if_neg (by omega),if_pos trivial,if_neg (by omega),if_neg (by omega)]
  omega

theorem seqP_sorted (hm:l.length≤200):(seqP p l).Pairwise fun a b=>rnk p.n a<rnk p.n b:=by
 unfold seqP
 refine List.pairwise_append.2 ⟨List.pairwise_flatMap.2 ⟨fun i _=>seqAt_sorted hm,List.Pairwise.imp (fun {a b} h x hx y hy=>?_) (range_lt p.n)⟩,?_,?_⟩
 ·obtain⟨c1,h1,h2,h3,h4,h5⟩:=seqAt_mem.1 hx
  obtain⟨c2,g1,g2,g3,g4,g5⟩:=seqAt_mem.1 hy
  unfold rnk
  rw[if_neg (show¬x.1=7 by omega),if_neg (show¬y.1=7 by omega)]
  split <;> split <;> omega
 ·unfold seqT
  refine List.pairwise_map.2 (List.Pairwise.imp (fun {a b} h=>?_) (range_lt _))
  simp[rnk]
  omega
 ·intro a ha b hb
  obtain⟨i,hi,ha⟩:=List.mem_flatMap.1 ha
  obtain⟨c1,h1,h2,h3,h4,h5⟩:=seqAt_mem.1 ha
  obtain⟨c2,g1,g2,g3,g4⟩:=seqT_mem.1 hb
  have hi:=List.mem_range.1 hi
  unfold rnk
  rw[if_neg (show¬a.1=7 by omega),if_pos g4,if_neg (show¬b.1=1 by omega)]
  split <;> omega

theorem kseq_sorted (hm:l.length≤200):(kseq p l).Pairwise fun a b=>rnk p.n a<rnk p.n b:=(seqP_sorted hm).filter _

theorem kseq_mem {k:Key}:k∈kseq p l↔k∈seqP p l∧isK p l k=true:=List.mem_filter

theorem kseq_before (hm:l.length≤200){i:Nat}(hi:i<(kseq p l).length){k:Key}(hk:k∈kseq p l)(hr:rnk p.n k<rnk p.n (kseq p l)[i]):k∈(kseq p l).take i:=by
 obtain⟨j,hj,rfl⟩:=List.getElem_of_mem hk
 have hs:=List.pairwise_iff_getElem.1 (kseq_sorted (p:=p) hm)
 have hji:j<i:=by
  rcases Nat.lt_trichotomy j i with h | h | h
  ·exact h
  ·subst h
   omega
  ·have:=hs i j hi hj h
   omega
 exact List.mem_take_iff_getElem.2 ⟨j,by omega,rfl⟩

theorem kseq_dk (hm:l.length≤200){i:Nat}:DK (derTo p l ((kseq p l).take i)):=by
 intro a b hab hb
 have hk:=derTo_key (p:=p) (l:=l) ((kseq p l).take i)
 have hlen:=derTo_len (p:=p) (l:=l) ((kseq p l).take i)
 have hs:((kseq p l).take i).Pairwise fun a b=>rnk p.n a<rnk p.n b:=(kseq_sorted hm).sublist (List.take_sublist ..)
 have get:∀{a:Nat} (h:a<(derTo p l ((kseq p l).take i)).length),(tl (derTo p l ((kseq p l).take i)) a).key=((kseq p l).take i)[a]'(by omega):=by
  intro a h
  have:((derTo p l ((kseq p l).take i)).map Tal.key)[a]'(by simpa using h)=((kseq p l).take i)[a]'(by omega):=by simp only[hk]
  rw[←this,List.getElem_map]
  congr 1
  simp[tl,List.getD,h]
 rw[get (by omega),get hb]
 intro e
 have:=List.pairwise_iff_getElem.1 hs a b (by omega) (by omega) hab
 rw[e] at this
 omega

end Go.Am.Sc

/-
 The standard derivation: what lines follow from is there before them;it is the document's,and it holds (plain).
-/
namespace Go.Am.Sc

variable {d:List Tal} {p:aL} {l:List aS}

theorem basis_real {i aO c:Nat}(h:c∈basis p l i aO):c<l.length∧((cd l c).ln i).mark=0∧gA p (cd l c) i=true:=by
 unfold basis at h
 split at h
 all_goals
  have:=yQ.1 h
  refine⟨this.1,?_⟩
  have:=this.2
  simp only[nB,Bool.and_eq_true,beq_iff_eq] at this
  exact⟨this.1,this.2.1⟩

theorem basis_sorted {i aO:Nat}:(basis p l i aO).Pairwise (·< ·):=by
 unfold basis
 split <;> exact List.Pairwise.filter _ List.pairwise_lt_range

theorem kseq_at {i:Nat}(hi:i<(kseq p l).length):∃c it:Nat,c<l.length∧(kseq p l)[i].2.1=c∧(kseq p l)[i].2.2=it∧(aaV p l (kseq p l)[i].1 c it).2=true∧((it<p.n∧1≤(kseq p l)[i].1∧(kseq p l)[i].1≤6)∨(it=0∧(kseq p l)[i].1=7)):=by
 have h:=kseq_mem.1 (List.getElem_mem hi)
 have h2:=h.2
 unfold isK at h2
 rcases seqP_mem.1 h.1 with⟨c,it,h1,hit,h3,h4,h5,h6⟩ | ⟨c,h1,h3,h4,h5⟩
 ·rw[h3,h4] at h2
  exact⟨c,it,h1,h3,h4,h2,.inl ⟨hit,h5,h6⟩⟩
 ·rw[h3,h4] at h2
  exact⟨c,0,h1,h3,h4,h2,.inr ⟨rfl,h5⟩⟩

theorem prem_before (hok:p.ok=true)(hc:br p l=true){i:Nat}(hi:i<(kseq p l).length){k:Key}(h:k∈aa4 p l (kseq p l)[i].1 (kseq p l)[i].2.1.toNat (kseq p l)[i].2.2.toNat):k∈(kseq p l).take i:=by
 have hm:=(cr hc).1
 obtain⟨c,it,dG,e1,e2,his,hw⟩:=kseq_at hi
 rw[e1,e2,Int.toNat_natCast,Int.toNat_natCast] at h
 have go:∀{kd:Int} {c' i':Nat},k=(kd,(c':Int),(i':Int))→c'<l.length→i'<p.n→1≤kd→kd≤6→(aaV p l kd c' i').2=true→rnk p.n k<rnk p.n (kseq p l)[i]→k∈(kseq p l).take i:=by
  intro kd c' i' hk h1 h2 h3 h4 h5 h6
  refine kseq_before hm hi (kseq_mem.2 ⟨seqP_mem.2 (.inl ⟨c',i',h1,h2,by rw[hk],by rw[hk],by rw[hk];exact h3,by rw[hk];exact h4⟩),?_⟩) h6
  unfold isK
  rw[hk]
  simpa using h5
 unfold aa4 at h
 split at h
 ·rename_i h23
  have hit:it<p.n:=by rcases hw with hw | hw <;> omega
  obtain⟨t1,_,_⟩:=aiW hok hc hit dG (.inr h23) his
  unfold abo at h
  obtain⟨c',zf,rfl⟩:=List.mem_map.1 h
  obtain⟨b1,b2,b3⟩:=basis_real (List.mem_filter.1 zf).1
  refine go rfl b1 hit (by decide) (by decide) (by simp[aaV,b3,t1,b2]) ?_
  unfold rnk
  rw[e1,e2]
  simp only
  rw[if_neg (by decide),if_pos trivial,if_neg (by omega),if_neg (by omega)]
  omega
 ·split at h
  ·rename_i h6
   have hit:it<p.n:=by rcases hw with hw | hw <;> omega
   obtain⟨k0,CE,rfl⟩:=List.mem_map.1 h
   unfold tH at CE
   obtain⟨g1,g2⟩:=List.mem_filter.1 CE
   have g1:=List.mem_range.1 g1
   simp only[Bool.and_eq_true] at g2
   refine go rfl dG (show k0<p.n by omega) (by decide) (by decide) (by simp[aaV,g2.1,g2.2]) ?_
   unfold rnk
   rw[e1,e2,h6]
   simp only
   rw[if_neg (by decide),if_neg (by decide)]
   omega
  ·split at h
   ·rename_i h7
    obtain⟨i',g1,g2,g3,g4⟩:=aia h
    have GN:k.1≠7∧1≤k.1∧k.1≤6:=by
     rw[←want_eq hok hc g1 dG,kTo] at g2
     obtain⟨j,hj,hj2⟩:=List.mem_map.1 (List.mem_filter.1 g2).1
     have:=List.mem_range.1 hj
     omega
    refine go (kd:=k.1) (c':=c) (i':=i') (by rw[←g3,←g4]) dG g1 GN.2.1 GN.2.2 ((ahX hok hc g1 dG GN.1).2 g2) ?_
    unfold rnk
    rw[e1,e2,h7,g3,g4]
    simp only
    rw[if_neg GN.1,if_pos trivial,if_neg (by decide:¬(7:Int)=1)]
    split <;> omega
   ·cases h

/-! ## places -/

theorem find_mem {rows:List Tal}{k:Key}(h:k∈rows.map Tal.key):0≤aaN rows k:=by
 rcases Int.lt_or_le (aaN rows k) 0 with h0 | h0
 ·obtain⟨t,ht,he⟩:=List.mem_map.1 h
  obtain⟨a,ha,rfl⟩:=List.getElem_of_mem ht
  refine absurd ?_ (ajZ h0 (i:=a) ha)
  rw[←he]
  unfold tl
  rw[List.getD_eq_getElem?_getD,List.getElem?_eq_getElem ha]
  rfl
 ·exact h0

theorem find_mono {n:Nat}{rows:List Tal}(hs:(rows.map Tal.key).Pairwise fun a b=>rnk n a<rnk n b){k1 k2:Key}(h1:k1∈rows.map Tal.key)(h2:k2∈rows.map Tal.key)(h:rnk n k1<rnk n k2):aaN rows k1<aaN rows k2:=by
 obtain⟨a,ha,e1,f1⟩:=agp (find_mem h1)
 obtain⟨b,hb,e2,f2⟩:=agp (find_mem h2)
 have get:∀{a:Nat} (h:a<rows.length),(rows.map Tal.key)[a]'(by simpa using h)=(tl rows a).key:=fun {a} h=>by
  rw[List.getElem_map]
  unfold tl
  rw[List.getD_eq_getElem?_getD,List.getElem?_eq_getElem h]
  rfl
 rw[e1,e2]
 rcases Nat.lt_trichotomy a b with hab | hab | hab
 ·omega
 ·subst hab
  rw[f1] at f2
  rw[f2] at h
  omega
 ·have:=List.pairwise_iff_getElem.1 hs b a (by simpa using hb) (by simpa using ha) hab
  rw[get hb,get ha,f1,f2] at this
  omega

theorem srt_self {a:List Int}(h:a.Pairwise (·< ·)):lp a=a:=wF (pL a) (anG h) (ue a)

def rowR (p:aL)(l:List aS)(rows:List Tal)(k:Key):Tal:=
 ⟨k.1,k.2.1,k.2.2,acK p l k.1 k.2.1.toNat k.2.2.toNat,if k.1=3∧1<(acy p l rows k.1 k.2.1.toNat k.2.2.toNat).length then(acy p l rows k.1 k.2.1.toNat k.2.2.toNat).take 1 else acy p l rows k.1 k.2.1.toNat k.2.2.toNat⟩

theorem take1_map {α β:Type}(f:α→β)(a:List α):(a.take 1).map f=(a.map f).take 1:=by
 cases a <;> rfl

theorem row_find (hok:p.ok=true)(hc:br p l=true){i:Nat}(hi:i<(kseq p l).length){k:Key}(h:k∈aa4 p l (kseq p l)[i].1 (kseq p l)[i].2.1.toNat (kseq p l)[i].2.2.toNat):0≤aaN (derTo p l ((kseq p l).take i)) k:=by
 refine find_mem ?_
 rw[derTo_key]
 exact prem_before hok hc hi h

theorem row_plc (hok:p.ok=true)(hc:br p l=true){i:Nat}(hi:i<(kseq p l).length):(aa4 p l (kseq p l)[i].1 (kseq p l)[i].2.1.toNat (kseq p l)[i].2.2.toNat).map (plcT (derTo p l ((kseq p l).take i)))=(aa4 p l (kseq p l)[i].1 (kseq p l)[i].2.1.toNat (kseq p l)[i].2.2.toNat).map (aaN (derTo p l ((kseq p l).take i))):=by
 refine List.map_congr_left fun k hk=>?_
 unfold plcT
 rw[if_pos (row_find hok hc hi hk)]

theorem row_grow (hok:p.ok=true)(hc:br p l=true){i:Nat}(hi:i<(kseq p l).length)(h3:(kseq p l)[i].1=3):((aa4 p l (kseq p l)[i].1 (kseq p l)[i].2.1.toNat (kseq p l)[i].2.2.toNat).map (aaN (derTo p l ((kseq p l).take i)))).Pairwise (·< ·):=by
 have hm:=(cr hc).1
 have hs:((derTo p l ((kseq p l).take i)).map Tal.key).Pairwise fun a b=>rnk p.n a<rnk p.n b:=by
  rw[derTo_key]
  exact(kseq_sorted hm).sublist (List.take_sublist ..)
 have hp:(aa4 p l (kseq p l)[i].1 (kseq p l)[i].2.1.toNat (kseq p l)[i].2.2.toNat).Pairwise fun a b=>rnk p.n a<rnk p.n b:=by
  unfold aa4
  rw[if_pos (.inr h3)]
  unfold abo
  refine List.pairwise_map.2 (List.Pairwise.imp (fun {a b} h=>?_) (basis_sorted.filter _))
  simp[rnk]
  omega
 refine List.pairwise_map.2 (List.Pairwise.imp_of_mem (fun {a b} ha hb hab=>?_) hp)
 exact find_mono hs (by rw[derTo_key];exact prem_before hok hc hi ha) (by rw[derTo_key];exact prem_before hok hc hi hb) hab

theorem row_frm (hok:p.ok=true)(hc:br p l=true){i:Nat}(hi:i<(kseq p l).length):lp ((fstP p l (kseq p l)[i]).map (plcT (derTo p l ((kseq p l).take i))))=if(kseq p l)[i].1=3 then((aa4 p l (kseq p l)[i].1 (kseq p l)[i].2.1.toNat (kseq p l)[i].2.2.toNat).map (aaN (derTo p l ((kseq p l).take i)))).take 1 else lp ((aa4 p l (kseq p l)[i].1 (kseq p l)[i].2.1.toNat (kseq p l)[i].2.2.toNat).map (aaN (derTo p l ((kseq p l).take i)))):=by
 have h1:=row_plc hok hc hi
 unfold fstP
 by_cases h3:(kseq p l)[i].1=3
 ·have hg:=row_grow hok hc hi h3
  rw[if_pos h3,if_pos h3,take1_map,h1,srt_self (hg.sublist (List.take_sublist ..))]
 ·rw[if_neg h3,if_neg h3,h1]

theorem row_runs (hok:p.ok=true)(hc:br p l=true){i:Nat}(hi:i<(kseq p l).length)(h6:(kseq p l)[i].1=6):gA p (cd l (kseq p l)[i].2.1.toNat) (kseq p l)[i].2.2.toNat=true:=by
 obtain⟨c,it,dG,e1,e2,his,hw⟩:=kseq_at hi
 rw[e1,e2,Int.toNat_natCast,Int.toNat_natCast]
 rw[h6] at his
 unfold aaV at his
 rw[if_neg (by decide)] at his
 split at his
 ·cases his
 ·rename_i hr
  simpa using hr

theorem row_eq (hok:p.ok=true)(hc:br p l=true){i:Nat}(hi:i<(kseq p l).length):rowP p l (derTo p l ((kseq p l).take i)) (kseq p l)[i]=rowR p l (derTo p l ((kseq p l).take i)) (kseq p l)[i]:=by
 obtain⟨c,it,dG,e1,e2,his,hw⟩:=kseq_at hi
 have hf:=row_frm hok hc hi
 have hv:vK p l (kseq p l)[i]=acK p l (kseq p l)[i].1 (kseq p l)[i].2.1.toNat (kseq p l)[i].2.2.toNat:=by
  unfold vK
  rw[e1,e2,Int.toNat_natCast,Int.toNat_natCast]
  have hh:=aL.gi hok
  exact val_eq hok hc (by rcases hw with hw | hw <;> omega) dG his
 unfold rowP rowR
 rw[hf,hv]
 congr 1
 by_cases h3:(kseq p l)[i].1=3
 ·have hg:=row_grow hok hc hi h3
  have e:acy p l (derTo p l ((kseq p l).take i)) (kseq p l)[i].1 (kseq p l)[i].2.1.toNat (kseq p l)[i].2.2.toNat=(aa4 p l (kseq p l)[i].1 (kseq p l)[i].2.1.toNat (kseq p l)[i].2.2.toNat).map (aaN (derTo p l ((kseq p l).take i))):=by
   unfold acy
   have h0:atR p l (derTo p l ((kseq p l).take i)) (kseq p l)[i].1 (kseq p l)[i].2.1.toNat (kseq p l)[i].2.2.toNat=(aa4 p l (kseq p l)[i].1 (kseq p l)[i].2.1.toNat (kseq p l)[i].2.2.toNat).map (aaN (derTo p l ((kseq p l).take i))):=by
    rw[h3,ahm,List.filter_eq_self]
    intro y hy
    obtain⟨k,hk,rfl⟩:=List.mem_map.1 hy
    rw[←h3] at hk
    simpa using row_find hok hc hi hk
   rw[h0,srt_self hg]
  rw[e,if_pos h3]
  generalize(aa4 p l (kseq p l)[i].1 (kseq p l)[i].2.1.toNat (kseq p l)[i].2.2.toNat).map (aaN (derTo p l ((kseq p l).take i)))=L
  split
  ·rfl
  ·rename_i hn
   exact List.take_of_length_le (by have:¬1<L.length:=fun h=>hn ⟨h3,h⟩;omega)
 ·rw[if_neg h3,if_neg (fun h=>h3 h.1)]
  unfold acy
  rw[akT h3 fun h6=>row_runs hok hc hi h6]

theorem row_right (hok:p.ok=true)(hc:br p l=true){i:Nat}(hi:i<(kseq p l).length):ali p l (derTo p l (kseq p l)) i (kseq p l)[i].2.1.toNat (kseq p l)[i].2.2.toNat:=by
 have hm:=(cr hc).1
 obtain⟨c,it,dG,e1,e2,his,hw⟩:=kseq_at hi
 have hh:=aL.gi hok
 have hrow:tl (derTo p l (kseq p l)) i=rowP p l (derTo p l ((kseq p l).take i)) (kseq p l)[i]:=derTo_at hi
 have mU:i≤(derTo p l (kseq p l)).length:=by rw[derTo_len];omega
 have hdk:DK ((derTo p l (kseq p l)).take i):=by rw[derTo_take];exact kseq_dk hm
 have hf:=row_frm hok hc hi
 have hfind:∀y,y∈(aa4 p l (kseq p l)[i].1 (kseq p l)[i].2.1.toNat (kseq p l)[i].2.2.toNat).map (aaN ((derTo p l (kseq p l)).take i))→0≤y:=by
  intro y hy
  obtain⟨k,hk,rfl⟩:=List.mem_map.1 hy
  rw[derTo_take]
  exact row_find hok hc hi hk
 have hboth:((tl (derTo p l (kseq p l)) i).frm.length:Int)=abt (kseq p l)[i].1 (aa4 p l (kseq p l)[i].1 (kseq p l)[i].2.1.toNat (kseq p l)[i].2.2.toNat)∧Good (derTo p l (kseq p l)) i (aa4 p l (kseq p l)[i].1 (kseq p l)[i].2.1.toNat (kseq p l)[i].2.2.toNat) (tl (derTo p l (kseq p l)) i).frm:=by
  rw[hrow]
  unfold rowP
  simp only
  rw[hf]
  have hnd:=afc (kd:=(kseq p l)[i].1) (i:=(kseq p l)[i].2.2.toNat) hok hc (aO:=(kseq p l)[i].2.1.toNat) (by rw[e1,Int.toNat_natCast];exact dG)
  by_cases h3:(kseq p l)[i].1=3
  ·rw[if_pos h3,←derTo_take]
   generalize aa4 p l (kseq p l)[i].1 (kseq p l)[i].2.1.toNat (kseq p l)[i].2.2.toNat=Q at *
   have h1:abt (kseq p l)[i].1 Q=(((if 1<Q.length then 1 else Q.length):Nat):Int):=by
    unfold abt
    rw[if_pos h3]
    split <;> split <;> omega
   rw[h1]
   refine(and_congr (by constructor <;> intro h <;> omega) Iff.rfl).2 ((aiP mU hdk).2 ⟨?_,?_⟩)
   ·cases Q with
    | nil=>exact .inl rfl
    | cons k0 r=>
     refine .inr fun e=>?_
     have h0:=hfind (aaN ((derTo p l (kseq p l)).take i) k0) (by simp)
     have:aaN ((derTo p l (kseq p l)).take i) k0∈(List.map (aaN ((derTo p l (kseq p l)).take i)) (k0 :: r)).filter fun y=>decide (0≤y):=List.mem_filter.2 ⟨by simp,by simpa using h0⟩
     rw[e] at this
     cases this
   ·have hfl:((Q.map (aaN ((derTo p l (kseq p l)).take i))).filter fun y=>decide (0≤y))=Q.map (aaN ((derTo p l (kseq p l)).take i)):=List.filter_eq_self.2 fun y hy=>by simpa using hfind y hy
    rw[hfl]
    cases Q with
    | nil=>simp[lp]
    | cons k0 r=>
     have hne:lp (List.map (aaN ((derTo p l (kseq p l)).take i)) (k0 :: r))≠[]:=fun e=>by
      have:=kH (List.map (aaN ((derTo p l (kseq p l)).take i)) (k0 :: r))
      rw[e] at this
      simp at this
     rw[if_pos hne]
     exact⟨aaN ((derTo p l (kseq p l)).take i) k0,Cm.2 (by simp),rfl⟩
  ·rw[if_neg h3,←derTo_take]
   generalize aa4 p l (kseq p l)[i].1 (kseq p l)[i].2.1.toNat (kseq p l)[i].2.2.toNat=Q at *
   obtain⟨g1,g2⟩:=(aiQ mU hdk hnd).2 ⟨hfind,rfl⟩
   refine⟨?_,g2⟩
   unfold abt
   rw[if_neg h3]
   exact congrArg Int.ofNat g1
 constructor
 ·rw[hrow,e1,Int.toNat_natCast]
  exact e1
 ·rw[hrow,e2,Int.toNat_natCast]
  exact e2
 ·rw[e1,Int.toNat_natCast]
  exact dG
 ·rw[e2,Int.toNat_natCast]
  rcases hw with hw | hw <;> omega
 ·rw[hrow,e1,e2,Int.toNat_natCast,Int.toNat_natCast]
  exact his
 ·rw[hrow]
  rfl
 ·rw[hboth.1,hrow]
  rfl
 ·have:=hboth.2
  rw[hrow] at this ⊢
  exact this

theorem der_holds (hok:p.ok=true)(hc:br p l=true):abl p l (derTo p l (kseq p l)) (derTo p l (kseq p l)).length=true:=by
 have hm:=(cr hc).1
 refine List.all_eq_true.2 fun i hi=>?_
 have hi:i<(kseq p l).length:=by rw[←derTo_len (p:=p) (l:=l)];exact List.mem_range.1 hi
 have mU:i≤(derTo p l (kseq p l)).length:=by rw[derTo_len];omega
 have hdk:DK ((derTo p l (kseq p l)).take i):=by rw[derTo_take];exact kseq_dk hm
 rw[(ab4 mU hdk).2 ⟨_,_,row_right hok hc hi⟩,Bool.and_true,decide_eq_true_eq,derTo_take,derTo_key,derTo_at hi]
 intro hmem
 have hmem:(kseq p l)[i]∈(kseq p l).take i:=hmem
 obtain⟨j,hj,e⟩:=List.mem_take_iff_getElem.1 hmem
 have:=List.pairwise_iff_getElem.1 (kseq_sorted (p:=p) hm) j i (by omega) hi (by omega)
 rw[e] at this
 omega

end Go.Am.Sc

/-
 Checks of plans and cards,as texts.
-/
namespace Go.Am.Sc
open Go.Proofs

noncomputable def u15:U:=(aI [.aY (.bB 14 y0),
 .ev (.aR (.cell 0 y0)),
 .ev (.bin .leq .int y2 (ki 12)),
 .chain false y3 (aI [.aY (.cell 6 y0),
 .ev (.aR (.cell 6 y0)),
 .ev (.bin .leq .int y4 (ki 20))]
 (.ret y5)),
 .chain false y4 (aI [.aY (.cell 12 y0),
 .ev (.aR (.cell 12 y0)),
 .ev (.bin .leq .int y5 (ki 80))]
 (.ret y6)),
 .chain false y5 (aI [.aY (.cell 13 y0),
 .ev (.aR (.cell 13 y0)),
 .ev (.bin .leq .int y6 (ki 80))]
 (.ret y7))]
 (.ret (.aa y6 (.aa y1 .ax))))
theorem akS:cm Tryz.prog 15 .plain (bE true [] [] Tryz.f15) [false] u15:=cm.plain Tryz.func15 (by kernel_rfl) (by kernel_rfl)

noncomputable def u16:U:=(aI [.join 0 0 (.loop 1 [(ki 0)] (aI [.ev (.aR y0),
 .ev (.bin .lss .int y3 y4)]
 (.ite y5 (aI [.join 2 0 (aI [.ev (.aj 3 y0 y3),
 .aY (.ay 1 y6),
 .ev (.ld false 1 y2 (.ay 1 y6)),
 .ev (.aR y7),
 .ev (.bin .gtr .int y8 (ki 12)),
 .chain true y9 (aI [.ev (.aj 3 y0 y3),
 .aY (.ay 2 y10),
 .ev (.ld false 1 y2 (.ay 2 y10)),
 .ev (.aR y11),
 .ev (.bin .gtr .int y12 (ki 30))]
 (.ret y13))]
 (.ite y10 (.ret (.aa (kb false) (.aa y2 .ax))) (.jump 2 [] []))),
 .ev (.bin .add .int y3 (ki 1))]
 (.jump 1 [y6] [])) (.jump 0 [] [])))),
 .ev (.aR y0),
 .ev (.bin .leq .int y3 y1),
 .chain true y4 (aI [.ev (.aR y0),
 .ev (.bin .gtr .int y5 (ki 200)),
 .chain false y6 (aI [.ev (.aR y0),
 .ev (.bin .lss .int y7 (ki 300))]
 (.ret y8))]
 (.ret y7))]
 (.ret (.aa y5 (.aa y2 .ax))))
theorem akR:cm Tryz.prog 16 .plain (bE true [] [] Tryz.f16) [true,true] u16:=cm.plain Tryz.func16 (by kernel_rfl) (by kernel_rfl)

noncomputable def u18:U:=(aI [.aY (.bB 14 y0),
 .ev (.aR (.cell 0 y0)),
 .call 46 y1 [y2,(ki 1),(ki 100)] [true],
 .ev (.un .not y3),
 .chain true y4 (aI [.aY (.cell 1 y0),
 .call 46 y1 [(.cell 1 y0),(ki 1),(ki 20)] [true],
 .ev (.un .not y5)]
 (.ret y6)),
 .chain true y5 (aI [.aY (.cell 0 y0),
 .ev (.aj 4 (.cell 0 y0) (ki 0)),
 .aY (.ay 1 y6),
 .ev (.ld false 1 y1 (.ay 1 y6)),
 .ev (.bin .neq .int y7 (ki 0))]
 (.ret y8))]
 (.ite y6 (.ret (.aa (ki 2) (.aa y1 .ax))) (aI [.ev (.aR (.cell 0 y0)),
 .join 0 0 (.loop 1 [(ki 0)] (aI [.ev (.bin .lss .int y8 y7)]
 (.ite y9 (aI [.join 2 0 (aI [.ev (.aj 4 (.cell 0 y0) y8),
 .ev (.ld true 4 y1 y10),
 .aY (.bB 4 y11),
 .ev (.bin .gtr .int y8 (ki 0)),
 .chain false y12 (aI [.aY (.cell 1 y11),
 .aY (.cell 0 y0),
 .ev (.bin .sub .int y8 (ki 1)),
 .ev (.aj 4 (.cell 0 y0) y13),
 .aY (.ay 1 y14),
 .ev (.ld false 1 y1 (.ay 1 y14)),
 .ev (.bin .sub .int (.cell 1 y11) y15),
 .call 46 y1 [y16,(ki 0),(ki 1)] [true],
 .ev (.un .not y17)]
 (.ret y18)),
 .chain true y13 (aI [.aY (.cell 1 y11),
 .ev (.bin .geq .int (.cell 1 y11) (ki 6))]
 (.ret y14))]
 (.ite y14 (.ret (.aa (ki 2) (.aa y1 .ax))) (aI [.join 3 2 (aI [.ev (.bin .eql .int (.cell 0 y11) (ki 1)),
 .join 4 0 (.ite y15 (aI [.call 46 y1 [(.cell 2 y11),(ki 0),(ki 1440)] [true],
 .ev (.un .not y16)]
 (.ite y17 (.ret (.aa (ki 2) (.aa y1 .ax))) (.jump 4 [] []))) (aI [.ev (.bin .eql .int (.cell 0 y11) (ki 2))]
 (.ite y16 (aI [.ev (.bin .neq .int (.cell 2 y11) (ki 0)),
 .chain true y17 (aI [.aY (.cell 3 y11)]
 (.ret (.cell 3 y11)))]
 (.ite y18 (.ret (.aa (ki 2) (.aa y1 .ax))) (.jump 4 [] []))) (.ret (.aa (ki 2) (.aa y1 .ax))))))]
 (.jump 3 [y15,y15] []))]
 (.jump 2 [] [(.cell 0 y11),(.cell 0 y11),(.cell 1 y11),(.cell 2 y11),(.cell 3 y11)])))),
 .ev (.bin .add .int y8 (ki 1))]
 (.jump 1 [y10] [])) (.jump 0 [] [])))),
 .ev (.bz (.bt (.cell 2 y0)) (.bz (.bt (.cell 3 y0)) (.bz (.bt (.cell 8 y0)) (.const (.bq []))))),
 .call 47 y1 [y8,(ki 3),(ki 3),(ki 36000000)] [true],
 .ev (.un .not y9),
 .chain true y10 (aI [.aY (.cell 4 y0),
 .aY (.cell 5 y0),
 .ev (.bz (.bt (.cell 4 y0)) (.bz (.bt (.cell 5 y0)) (.const (.bq [])))),
 .call 47 y1 [y11,(ki 2),(ki 2),(ki 1440)] [true],
 .ev (.un .not y12)]
 (.ret y13)),
 .chain true y11 (aI [.aY (.cell 6 y0),
 .call 47 y1 [(.cell 6 y0),(ki 1),(ki 10),(ki 36000000)] [true],
 .ev (.un .not y12)]
 (.ret y13))]
 (.ite y12 (.ret (.aa (ki 2) (.aa y1 .ax))) (aI [.ev (.bin .lss .int (.cell 9 y0) (ki 1)),
 .chain true y13 (aI [.aY (.cell 9 y0),
 .ev (.bin .gtr .int (.cell 9 y0) (ki 4))]
 (.ret y14)),
 .chain true y14 (aI [.aY (.cell 10 y0),
 .call 46 y1 [(.cell 10 y0),(ki 100),(ki 1000)] [true],
 .ev (.un .not y15)]
 (.ret y16)),
 .chain true y15 (aI [.aY (.cell 12 y0),
 .call 47 y1 [(.cell 12 y0),(ki 0),(ki 60),(ki 1000)] [true],
 .ev (.un .not y16)]
 (.ret y17)),
 .chain true y16 (aI [.aY (.cell 13 y0),
 .call 47 y1 [(.cell 13 y0),(ki 0),(ki 60),(ki 1000)] [true],
 .ev (.un .not y17)]
 (.ret y18))]
 (.ite y17 (.ret (.aa (ki 2) (.aa y1 .ax))) (aI [.ev (.aR (.cell 0 y0)),
 .ev (.bin .sub .int y18 (ki 1)),
 .call 46 y1 [(.cell 11 y0),(ki (-1)),y19] [true],
 .ev (.un .not y20),
 .chain true y21 (aI [.aY (.cell 11 y0),
 .ev (.bin .geq .int (.cell 11 y0) (ki 0)),
 .chain false y22 (aI [.aY (.cell 0 y0),
 .aY (.cell 11 y0),
 .ev (.aj 4 (.cell 0 y0) (.cell 11 y0)),
 .aY (.ay 0 y23),
 .ev (.ld false 1 y1 (.ay 0 y23)),
 .ev (.bin .neq .int y24 (ki 2))]
 (.ret y25))]
 (.ret y23))]
 (.ite y22 (.ret (.aa (ki 2) (.aa y1 .ax))) (.ret (.aa (ki 0) (.aa y1 .ax)))))))))))
theorem akQ:cm Tryz.prog 18 .plain (bE true [] [] Tryz.f18) [false] u18:=cm.plain Tryz.func18 (by kernel_rfl) (by kernel_rfl)

noncomputable def u19:U:=(aI [.aY (.bB 14 y0),
 .aY (.bB 3 y1),
 .call 18 y2 [(fN 14 y0)] [true],
 .ev (.bin .neq .int y3 (ki 0)),
 .chain true y4 (aI [.aY (.cell 0 y1),
 .aY (.cell 1 y0),
 .ev (.bin .sub .int (.cell 1 y0) (ki 1)),
 .call 46 y2 [(.cell 0 y1),(ki 0),y5] [true],
 .ev (.un .not y6)]
 (.ret y7)),
 .chain true y5 (aI [.aY (.cell 2 y1),
 .ev (.aR (.cell 2 y1)),
 .aY (.cell 0 y0),
 .ev (.aR (.cell 0 y0)),
 .ev (.bin .neq .int y6 y7)]
 (.ret y8)),
 .chain true y6 (aI [.aY (.cell 1 y1),
 .ev (.aR (.cell 1 y1)),
 .aY (.cell 0 y0),
 .aY (.cell 0 y0),
 .ev (.aR (.cell 0 y0)),
 .ev (.bin .sub .int y8 (ki 1)),
 .ev (.aj 4 (.cell 0 y0) y9),
 .aY (.ay 1 y10),
 .ev (.ld false 1 y2 (.ay 1 y10)),
 .ev (.bin .add .int y11 (ki 1)),
 .ev (.bin .neq .int y7 y12)]
 (.ret y13)),
 .chain true y7 (aI [.aY (.cell 1 y1),
 .call 47 y2 [(.cell 1 y1),(ki 1),(ki 6),(ki 100000)] [true],
 .ev (.un .not y8)]
 (.ret y9))]
 (.ite y8 (.ret (.aa (ki 2) (.aa y2 .ax))) (aI [.ev (.aR (.cell 2 y1)),
 .join 0 0 (.loop 1 [(ki 0)] (aI [.ev (.bin .lss .int y10 y9)]
 (.ite y11 (aI [.join 2 0 (aI [.ev (.aj 4 (.cell 2 y1) y10),
 .ev (.ld true 4 y2 y12),
 .aY (.bB 4 y13),
 .ev (.bin .gtr .int y10 (ki 0)),
 .chain false y14 (aI [.aY (.cell 2 y1),
 .ev (.bin .sub .int y10 (ki 1)),
 .ev (.aj 4 (.cell 2 y1) y15),
 .aY (.ay 3 y16),
 .ev (.ld false 1 y2 (.ay 3 y16)),
 .ev (.bin .eql .int y17 (ki 2))]
 (.ret y18)),
 .chain false y15 (aI [.aY (.cell 0 y0),
 .ev (.bin .sub .int y10 (ki 1)),
 .ev (.aj 4 (.cell 0 y0) y16),
 .aY (.ay 1 y17),
 .ev (.ld false 1 y2 (.ay 1 y17)),
 .aY (.cell 0 y0),
 .ev (.aj 4 (.cell 0 y0) y10),
 .aY (.ay 1 y19),
 .ev (.ld false 1 y2 (.ay 1 y19)),
 .ev (.bin .eql .int y18 y20)]
 (.ret y21)),
 .ev (.aj 4 (.cell 0 y0) y10),
 .ev (.ld true 4 y2 y17),
 .call 48 y2 [y18,(fN 4 y13)] [true],
 .ev (.un .not y19),
 .chain true y20 (aI [.chain false y16 (aI [.aY (.cell 3 y13),
 .ev (.bin .neq .int (.cell 3 y13) (ki 2))]
 (.ret y21))]
 (.ret y21))]
 (.ite y21 (.ret (.aa (ki 2) (.aa y2 .ax))) (.jump 2 [] [(fN 4 y13),(.cell 0 y13),(.cell 1 y13),(.cell 2 y13),(.cell 3 y13)]))),
 .ev (.bin .add .int y10 (ki 1))]
 (.jump 1 [y12] [])) (.jump 0 [] []))))]
 (.ret (.aa (ki 0) (.aa y2 .ax))))))
theorem akP:cm Tryz.prog 19 .plain (bE true [] [] Tryz.f19) [false,false] u19:=cm.plain Tryz.func19 (by kernel_rfl) (by kernel_rfl)

noncomputable def u20:U:=(aI [.aY (.bB 14 y0),
 .ev (.aR (.cell 0 y0)),
 .call 49 y1 [y2,(ki 1),(ki 100)] [true],
 .ev (.un .not y3),
 .chain true y4 (aI [.aY (.cell 1 y0),
 .call 49 y1 [(.cell 1 y0),(ki 1),(ki 20)] [true],
 .ev (.un .not y5)]
 (.ret y6)),
 .chain true y5 (aI [.aY (.cell 0 y0),
 .ev (.aj 4 (.cell 0 y0) (ki 0)),
 .aY (.ay 1 y6),
 .ev (.ld false 1 y1 (.ay 1 y6)),
 .ev (.bin .neq .int y7 (ki 0))]
 (.ret y8))]
 (.ite y6 (.ret (.aa (kb false) (.aa y1 .ax))) (aI [.join 0 0 (.loop 1 [(ki 0)] (aI [.ev (.aR (.cell 0 y0)),
 .ev (.bin .lss .int y7 y8)]
 (.ite y9 (aI [.join 2 0 (aI [.ev (.aj 4 (.cell 0 y0) y7),
 .ev (.ld true 4 y1 y10),
 .aY (.bB 4 y11),
 .ev (.bin .gtr .int y7 (ki 0)),
 .chain false y12 (aI [.aY (.cell 1 y11),
 .aY (.cell 0 y0),
 .ev (.bin .sub .int y7 (ki 1)),
 .ev (.aj 4 (.cell 0 y0) y13),
 .aY (.ay 1 y14),
 .ev (.ld false 1 y1 (.ay 1 y14)),
 .ev (.bin .sub .int (.cell 1 y11) y15),
 .call 49 y1 [y16,(ki 0),(ki 1)] [true],
 .ev (.un .not y17)]
 (.ret y18)),
 .chain true y13 (aI [.aY (.cell 1 y11),
 .ev (.bin .geq .int (.cell 1 y11) (ki 6))]
 (.ret y14))]
 (.ite y14 (.ret (.aa (kb false) (.aa y1 .ax))) (aI [.ev (.bin .neq .int (.cell 0 y11) (ki 1)),
 .chain false y15 (aI [.aY (.cell 0 y11),
 .ev (.bin .neq .int (.cell 0 y11) (ki 2))]
 (.ret y16)),
 .chain true y16 (aI [.aY (.cell 0 y11),
 .ev (.bin .eql .int (.cell 0 y11) (ki 1)),
 .chain false y17 (aI [.aY (.cell 2 y11),
 .call 49 y1 [(.cell 2 y11),(ki 0),(ki 1440)] [true],
 .ev (.un .not y18)]
 (.ret y19))]
 (.ret y18)),
 .chain true y17 (aI [.aY (.cell 0 y11),
 .ev (.bin .eql .int (.cell 0 y11) (ki 2)),
 .chain false y18 (aI [.aY (.cell 2 y11),
 .ev (.bin .neq .int (.cell 2 y11) (ki 0)),
 .chain true y19 (aI [.aY (.cell 3 y11)]
 (.ret (.cell 3 y11)))]
 (.ret y20))]
 (.ret y19))]
 (.ite y18 (.ret (.aa (kb false) (.aa y1 .ax))) (.jump 2 [] [(.cell 0 y11),(.cell 0 y11),(.cell 1 y11),(.cell 2 y11),(.cell 3 y11)]))))),
 .ev (.bin .add .int y7 (ki 1))]
 (.jump 1 [y10] [])) (.jump 0 [] [])))),
 .call 49 y1 [(.cell 2 y0),(ki 0),(ki 36000000)] [true],
 .ev (.un .not y7),
 .chain true y8 (aI [.aY (.cell 3 y0),
 .call 49 y1 [(.cell 3 y0),(ki 0),(ki 36000000)] [true],
 .ev (.un .not y9)]
 (.ret y10)),
 .chain true y9 (aI [.aY (.cell 8 y0),
 .call 49 y1 [(.cell 8 y0),(ki 0),(ki 36000000)] [true],
 .ev (.un .not y10)]
 (.ret y11)),
 .chain true y10 (aI [.aY (.cell 4 y0),
 .call 49 y1 [(.cell 4 y0),(ki 0),(ki 1440)] [true],
 .ev (.un .not y11)]
 (.ret y12)),
 .chain true y11 (aI [.aY (.cell 5 y0),
 .call 49 y1 [(.cell 5 y0),(ki 0),(ki 1440)] [true],
 .ev (.un .not y12)]
 (.ret y13)),
 .chain true y12 (aI [.aY (.cell 6 y0),
 .call 50 y1 [(.cell 6 y0),(ki 1),(ki 10),(ki 0),(ki 36000000)] [true],
 .ev (.un .not y13)]
 (.ret y14))]
 (.ite y13 (.ret (.aa (kb false) (.aa y1 .ax))) (aI [.ev (.bin .lss .int (.cell 9 y0) (ki 1)),
 .chain true y14 (aI [.aY (.cell 9 y0),
 .ev (.bin .gtr .int (.cell 9 y0) (ki 4))]
 (.ret y15)),
 .chain true y15 (aI [.aY (.cell 10 y0),
 .call 49 y1 [(.cell 10 y0),(ki 100),(ki 1000)] [true],
 .ev (.un .not y16)]
 (.ret y17)),
 .chain true y16 (aI [.aY (.cell 11 y0),
 .aY (.cell 0 y0),
 .ev (.aR (.cell 0 y0)),
 .ev (.bin .sub .int y17 (ki 1)),
 .call 49 y1 [(.cell 11 y0),(ki (-1)),y18] [true],
 .ev (.un .not y19)]
 (.ret y20)),
 .chain true y17 (aI [.aY (.cell 11 y0),
 .ev (.bin .geq .int (.cell 11 y0) (ki 0)),
 .chain false y18 (aI [.aY (.cell 0 y0),
 .aY (.cell 11 y0),
 .ev (.aj 4 (.cell 0 y0) (.cell 11 y0)),
 .aY (.ay 0 y19),
 .ev (.ld false 1 y1 (.ay 0 y19)),
 .ev (.bin .neq .int y20 (ki 2))]
 (.ret y21))]
 (.ret y19))]
 (.ite y18 (.ret (.aa (kb false) (.aa y1 .ax))) (aI [.call 50 y1 [(.cell 12 y0),(ki 0),(ki 60),(ki 0),(ki 1000)] [true],
 .chain false y19 (aI [.aY (.cell 13 y0),
 .call 50 y1 [(.cell 13 y0),(ki 0),(ki 60),(ki 0),(ki 1000)] [true]]
 (.ret y20))]
 (.ret (.aa y20 (.aa y1 .ax))))))))))
theorem akO:cm Tryz.prog 20 .plain (bE true [] [] Tryz.f20) [false] u20:=cm.plain Tryz.func20 (by kernel_rfl) (by kernel_rfl)

noncomputable def u21:U:=(aI [.aY (.bB 14 y0),
 .aY (.bB 3 y1),
 .ev (.bin .sub .int (.cell 1 y0) (ki 1)),
 .call 49 y2 [(.cell 0 y1),(ki 0),y3] [true],
 .ev (.un .not y4),
 .chain true y5 (aI [.aY (.cell 1 y1),
 .call 51 y2 [(fN 14 y0)] [true],
 .call 51 y2 [(fN 14 y0)] [true],
 .call 50 y2 [(.cell 1 y1),y6,y7,(ki 0),(ki 100000)] [true],
 .ev (.un .not y8)]
 (.ret y9)),
 .chain true y6 (aI [.aY (.cell 2 y1),
 .ev (.aR (.cell 2 y1)),
 .aY (.cell 0 y0),
 .ev (.aR (.cell 0 y0)),
 .ev (.bin .neq .int y7 y8)]
 (.ret y9))]
 (.ite y7 (.ret (.aa (kb false) (.aa y2 .ax))) (aI [.join 0 0 (.loop 1 [(ki 0)] (aI [.ev (.aR (.cell 0 y0)),
 .ev (.bin .lss .int y8 y9)]
 (.ite y10 (aI [.join 2 0 (aI [.ev (.aj 4 (.cell 0 y0) y8),
 .ev (.ld true 4 y2 y11),
 .ev (.aj 4 (.cell 2 y1) y8),
 .ev (.ld true 4 y2 y13),
 .call 52 y2 [y12,y14] [true],
 .ev (.un .not y15)]
 (.ite y16 (.ret (.aa (kb false) (.aa y2 .ax))) (aI [.ev (.bin .gtr .int y8 (ki 0)),
 .chain false y17 (aI [.aY (.cell 0 y0),
 .ev (.aj 4 (.cell 0 y0) y8),
 .aY (.ay 1 y18),
 .ev (.ld false 1 y2 (.ay 1 y18)),
 .aY (.cell 0 y0),
 .ev (.bin .sub .int y8 (ki 1)),
 .ev (.aj 4 (.cell 0 y0) y20),
 .aY (.ay 1 y21),
 .ev (.ld false 1 y2 (.ay 1 y21)),
 .ev (.bin .eql .int y19 y22)]
 (.ret y23)),
 .chain false y18 (aI [.aY (.cell 2 y1),
 .ev (.bin .sub .int y8 (ki 1)),
 .ev (.aj 4 (.cell 2 y1) y19),
 .aY (.ay 3 y20),
 .ev (.ld false 1 y2 (.ay 3 y20)),
 .ev (.bin .eql .int y21 (ki 2))]
 (.ret y22)),
 .chain false y19 (aI [.aY (.cell 2 y1),
 .ev (.aj 4 (.cell 2 y1) y8),
 .aY (.ay 3 y20),
 .ev (.ld false 1 y2 (.ay 3 y20)),
 .ev (.bin .neq .int y21 (ki 2))]
 (.ret y22))]
 (.ite y20 (.ret (.aa (kb false) (.aa y2 .ax))) (.jump 2 [] []))))),
 .ev (.bin .add .int y8 (ki 1))]
 (.jump 1 [y11] [])) (.jump 0 [] []))))]
 (.ret (.aa (kb true) (.aa y2 .ax))))))
theorem akN:cm Tryz.prog 21 .plain (bE true [] [] Tryz.f21) [false,false] u21:=cm.plain Tryz.func21 (by kernel_rfl) (by kernel_rfl)

noncomputable def u46:U:=(aI [.ev (.bin .geq .int y0 y1),
 .chain false y4 (aI [.ev (.bin .leq .int y0 y2)]
 (.ret y5))]
 (.ret (.aa y5 (.aa y3 .ax))))
theorem akA:cm Tryz.prog 46 .plain (bE true [] [] Tryz.f46) [true,true,true] u46:=cm.plain Tryz.func46 (by kernel_rfl) (by kernel_rfl)

noncomputable def u47:U:=(aI [.ev (.gE (.cons (.bt y3) .nil)),
 .ev (.aR y0),
 .call 46 y4 [y6,y1,y2] [true],
 .chain false y7 (aI [.ev (.gV 100 .ax (.aa y5 .ax)),
 .call 99 y4 [y0,y8] [true],
 .ev (.un .not y9)]
 (.ret y10))]
 (.ret (.aa y8 (.aa y4 .ax))))
theorem akz:cm Tryz.prog 47 .plain (bE true [] [] Tryz.f47) [true,true,true,true] u47:=cm.plain Tryz.func47 (by kernel_rfl) (by kernel_rfl)

noncomputable def u48:U:=(aI [.aY (.bB 4 y0),
 .aY (.bB 4 y1),
 .call 46 y2 [(.cell 0 y1),(ki 0),(ki 100000)] [true],
 .ev (.un .not y3),
 .chain true y4 (aI [.aY (.cell 1 y1),
 .call 46 y2 [(.cell 1 y1),(ki 0),(ki 36000000)] [true],
 .ev (.un .not y5)]
 (.ret y6))]
 (.ite y5 (.ret (.aa (kb false) (.aa y2 .ax))) (aI [.ev (.bin .eql .int (.cell 0 y0) (ki 1)),
 .join 0 0 (aI [.ev (.bin .eql .int (.cell 3 y1) (ki 0))]
 (.ite y7 (aI [.chain false y6 (aI [.aY (.cell 1 y1),
 .ev (.bin .eql .int (.cell 1 y1) (ki 0))]
 (.ret y8)),
 .chain false y8 (aI [.aY (.cell 2 y1),
 .ev (.un .not (.cell 2 y1))]
 (.ret y9)),
 .chain true y9 (aI [.ev (.un .not y6),
 .chain false y10 (aI [.aY (.cell 1 y1),
 .ev (.bin .gtr .int (.cell 1 y1) (ki 0))]
 (.ret y11))]
 (.ret y11))]
 (.ret (.aa y10 (.aa y2 .ax)))) (aI [.ev (.bin .eql .int (.cell 3 y1) (ki 1))]
 (.ite y8 (aI [.ev (.un .not y6),
 .chain false y9 (aI [.aY (.cell 1 y1),
 .ev (.bin .eql .int (.cell 1 y1) (ki 0))]
 (.ret y10))]
 (.ret (.aa y10 (.aa y2 .ax)))) (aI [.ev (.bin .eql .int (.cell 3 y1) (ki 2))]
 (.ite y9 (aI [.ev (.bin .eql .int (.cell 0 y1) (ki 0)),
 .chain false y10 (aI [.aY (.cell 1 y1),
 .ev (.bin .eql .int (.cell 1 y1) (ki 0))]
 (.ret y11)),
 .chain false y11 (aI [.aY (.cell 2 y1),
 .ev (.un .not (.cell 2 y1))]
 (.ret y12))]
 (.ret (.aa y12 (.aa y2 .ax)))) (.jump 0 [] [])))))))]
 (.ret (.aa (kb false) (.aa y2 .ax))))))
theorem aky:cm Tryz.prog 48 .plain (bE true [] [] Tryz.f48) [false,false] u48:=cm.plain Tryz.func48 (by kernel_rfl) (by kernel_rfl)

noncomputable def u49:U:=(aI [.ev (.bin .geq .int y0 y1),
 .chain false y4 (aI [.ev (.bin .leq .int y0 y2)]
 (.ret y5))]
 (.ret (.aa y5 (.aa y3 .ax))))
theorem akx:cm Tryz.prog 49 .plain (bE true [] [] Tryz.f49) [true,true,true] u49:=cm.plain Tryz.func49 (by kernel_rfl) (by kernel_rfl)

noncomputable def u50:U:=(aI [.join 0 0 (.loop 1 [(ki 0)] (aI [.ev (.aR y0),
 .ev (.bin .lss .int y6 y7)]
 (.ite y8 (aI [.join 2 0 (aI [.ev (.aj 1 y0 y6),
 .ev (.ld false 1 y5 y9),
 .call 49 y5 [y10,y3,y4] [true],
 .ev (.un .not y11)]
 (.ite y12 (.ret (.aa (kb false) (.aa y5 .ax))) (.jump 2 [] []))),
 .ev (.bin .add .int y6 (ki 1))]
 (.jump 1 [y9] [])) (.jump 0 [] [])))),
 .ev (.aR y0),
 .call 49 y5 [y6,y1,y2] [true]]
 (.ret (.aa y7 (.aa y5 .ax))))
theorem akw:cm Tryz.prog 50 .plain (bE true [] [] Tryz.f50) [true,true,true,true,true] u50:=cm.plain Tryz.func50 (by kernel_rfl) (by kernel_rfl)

noncomputable def u51:U:=(aI [.aY (.bB 14 y0),
 .ev (.aR (.cell 0 y0)),
 .ev (.bin .sub .int y2 (ki 1)),
 .ev (.aj 4 (.cell 0 y0) y3),
 .aY (.ay 1 y4),
 .ev (.ld false 1 y1 (.ay 1 y4)),
 .ev (.bin .add .int y5 (ki 1))]
 (.ret (.aa y6 (.aa y1 .ax))))
theorem akv:cm Tryz.prog 51 .plain (bE true [] [] Tryz.f51) [false] u51:=cm.plain Tryz.func51 (by kernel_rfl) (by kernel_rfl)

noncomputable def u52:U:=(aI [.aY (.bB 4 y0),
 .aY (.bB 4 y1),
 .call 49 y2 [(.cell 0 y1),(ki 0),(ki 100000)] [true],
 .ev (.un .not y3),
 .chain true y4 (aI [.aY (.cell 1 y1),
 .call 49 y2 [(.cell 1 y1),(ki 0),(ki 36000000)] [true],
 .ev (.un .not y5)]
 (.ret y6)),
 .chain true y5 (aI [.aY (.cell 3 y1),
 .ev (.bin .lss .int (.cell 3 y1) (ki 0))]
 (.ret y6)),
 .chain true y6 (aI [.aY (.cell 3 y1),
 .ev (.bin .gtr .int (.cell 3 y1) (ki 2))]
 (.ret y7))]
 (.ite y7 (.ret (.aa (kb false) (.aa y2 .ax))) (aI [.ev (.bin .eql .int (.cell 0 y0) (ki 1)),
 .chain false y8 (aI [.aY (.cell 1 y1),
 .ev (.bin .neq .int (.cell 1 y1) (ki 0)),
 .chain true y9 (aI [.aY (.cell 2 y1)]
 (.ret (.cell 2 y1))),
 .chain true y10 (aI [.aY (.cell 3 y1),
 .ev (.bin .eql .int (.cell 3 y1) (ki 1))]
 (.ret y11))]
 (.ret y11))]
 (.ite y9 (.ret (.aa (kb false) (.aa y2 .ax))) (aI [.ev (.bin .eql .int (.cell 3 y1) (ki 2))]
 (.ite y10 (aI [.ev (.bin .eql .int (.cell 0 y1) (ki 0)),
 .chain false y11 (aI [.aY (.cell 1 y1),
 .ev (.bin .eql .int (.cell 1 y1) (ki 0))]
 (.ret y12)),
 .chain false y12 (aI [.aY (.cell 2 y1),
 .ev (.un .not (.cell 2 y1))]
 (.ret y13))]
 (.ret (.aa y13 (.aa y2 .ax)))) (aI [.ev (.bin .eql .int (.cell 3 y1) (ki 1))]
 (.ite y11 (aI [.ev (.bin .eql .int (.cell 1 y1) (ki 0))]
 (.ret (.aa y12 (.aa y2 .ax)))) (aI [.ev (.bin .eql .int (.cell 0 y0) (ki 1)),
 .chain true y12 (aI [.aY (.cell 1 y1),
 .ev (.bin .gtr .int (.cell 1 y1) (ki 0))]
 (.ret y13))]
 (.ret (.aa y13 (.aa y2 .ax))))))))))))
theorem aku:cm Tryz.prog 52 .plain (bE true [] [] Tryz.f52) [false,false] u52:=cm.plain Tryz.func52 (by kernel_rfl) (by kernel_rfl)

noncomputable def u99:U:=(aI [.call 126 y2 [y0,y1] [true],
 .ev (.bin .geq .int y3 (ki 0))]
 (.ret (.aa y4 (.aa y2 .ax))))
theorem aj5:cm Tryz.prog 99 .plain (bE true [] [] Tryz.f99) [true,true] u99:=cm.plain Tryz.func99 (by kernel_rfl) (by kernel_rfl)

noncomputable def adt:U:=(aI [.ev (.ld false 1 y2 y1),
 .call 46 y2 [y0,(ki 0),y3] [true],
 .ev (.un .not y4)]
 (.ret (.aa y5 (.aa y2 .ax))))
theorem ae7:cm Tryz.prog 100 .plain (bE true [] [] Tryz.f100) [true,true] adt:=cm.plain Tryz.func100 (by kernel_rfl) (by kernel_rfl)

noncomputable def ada:U:=(aI [.ev (.aR y0),
 .join 0 0 (.loop 1 [(ki 0)] (aI [.ev (.bin .lss .int y4 y3)]
 (.ite y5 (aI [.join 2 0 (aI [.ev (.aj 1 y0 y4),
 .ev (.ld false 1 y2 y6),
 .fu y1 y2 [y7] [true]]
 (.ite y8 (.ret (.aa y4 (.aa y2 .ax))) (.jump 2 [] []))),
 .ev (.bin .add .int y4 (ki 1))]
 (.jump 1 [y6] [])) (.jump 0 [] []))))]
 (.ret (.aa (ki (-1)) (.aa y2 .ax))))
theorem aeQ:cm Tryz.prog 126 .plain (bE true [] [] Tryz.f126) [true,true] ada:=cm.plain Tryz.func126 (by kernel_rfl) (by kernel_rfl)

end Go.Am.Sc

/-
 Plans and cards as data.
-/
namespace Go.Am.Sc

abbrev I (n:Int):D:=.v (.int .i64 n)
abbrev B (b:Bool):D:=.v (.bool b)
abbrev Is (l:List Int):D:=.bq (l.map I)
abbrev In (i:Nat):D:=I (i:Int)
abbrev Ix (l:List Nat):D:=.bq (l.map In)

def i64 (n:Int):Prop:=-9223372036854775808≤n∧n<9223372036854775808

theorem ofI {ds:List D}(h:jN (.int .i64) ds):∃n,ds=[I n]∧i64 n:=by
 simp only[jN] at h
 obtain⟨n,h,h1,h2⟩:=h
 refine⟨n,h,?_⟩
 simp[IntKind.min,IntKind.max,IntKind.bits,IntKind.signed] at h1 h2
 exact⟨h1,by omega⟩

theorem aex:∀{es:List D},(∀x,x∈es→jN (.int .i64) [x])→∃xs:List Int,es=xs.map I∧∀x,x∈xs→i64 x
 | [],_=>⟨[],rfl,by simp⟩
 | e :: es,h=>by
  obtain⟨n,hn,hb⟩:=ofI (h e (by simp))
  cases hn
  obtain⟨xs,rfl,hx⟩:=aex (es:=es) fun x hx=>h x (by simp[hx])
  exact⟨n :: xs,rfl,by simpa using⟨hb,hx⟩⟩

def Mu (l:List Int):Prop:=(∀x,x∈l→i64 x)∧l.length≤maxLen

theorem Rm {ds:List D}(h:jN (.sl (.int .i64)) ds):∃xs:List Int,ds=[Is xs]∧Mu xs:=by
 simp only[jN] at h
 obtain⟨es,rfl,hl,nL⟩:=h
 obtain⟨xs,rfl,hx⟩:=aex fun x hx=>by
  have:=(nL x hx).2 rfl
  simpa only[jN] using this
 exact⟨xs,rfl,hx,by simpa using hl⟩

def Item.cs (x:Item):List D:=[I x.kind,I x.iy,I x.target,B x.free]
def Item.d (x:Item):D:=.agg x.cs
def aL.cs (p:aL):List D:=[.bq (p.items.map Item.d),I p.dW,I p.late,I p.early,I p.jW,I p.jX,Is p.jumps,B p.ret,I p.mG,I p.ez,I p.jV,I p.power,Is p.points,Is p.extra]
def aL.d (p:aL):D:=.agg p.cs
def gL.cs (l:gL):List D:=[I l.minute,I l.time,B l.jump,I l.mark]
def gL.d (l:gL):D:=.agg l.cs
def aS.cs (c:aS):List D:=[I c.cls,Is c.dH,.bq (c.lines.map gL.d)]
def aS.d (c:aS):D:=.agg c.cs
abbrev dM (l:List aS):D:=.bq (l.map aS.d)

structure Item.Ok (x:Item):Prop where
 kind:i64 x.kind
 iy:i64 x.iy
 target:i64 x.target

structure aL.Ok (p:aL):Prop where
 items:∀x,x∈p.items→x.Ok
 UH:p.items.length≤maxLen
 dW:i64 p.dW
 late:i64 p.late
 early:i64 p.early
 jW:i64 p.jW
 jX:i64 p.jX
 jumps:Mu p.jumps
 mG:i64 p.mG
 ez:i64 p.ez
 jV:i64 p.jV
 power:i64 p.power
 points:Mu p.points
 extra:Mu p.extra

structure gL.Ok (l:gL):Prop where
 minute:i64 l.minute
 time:i64 l.time
 mark:i64 l.mark

structure aS.Ok (c:aS):Prop where
 cls:i64 c.cls
 dH:Mu c.dH
 lines:∀x,x∈c.lines→x.Ok
 Ux:c.lines.length≤maxLen

def Qbz (l:List aS):Prop:=(∀c,c∈l→c.Ok)∧l.length≤maxLen

def M5:Sh:=.st [.int .i64,.int .i64,.int .i64,.bool]
def PJ:Sh:=.st [.int .i64,.int .i64,.int .i64,.int .i64,.sl (.int .i64),.bool,.int .i64,.int .i64,.int .i64,.int .i64,.sl (.int .i64),.sl (.int .i64)]
def jA:Sh:=.st [.sl M5,.int .i64,PJ]
def M4:Sh:=.st [.int .i64,.int .i64,.bool,.int .i64]
def jb:Sh:=.st [.int .i64,.sl (.int .i64),.sl M4]

theorem cv {ds:List D}(h:∃n:Int,ds=[.v (.int .i64 n)]∧IntKind.i64.min≤n∧n≤IntKind.i64.max):∃n,ds=[I n]∧i64 n:=ofI (by simpa only[jN] using h)

theorem aax {cs:List D}(h:jN M5 cs):∃r:Item,.agg cs=r.d∧r.Ok:=by
 simp only[M5,jN,qb] at h
 obtain⟨_,_,rfl,h1,_,_,rfl,h2,_,_,rfl,h3,_,_,rfl,⟨b4,rfl⟩,rfl⟩:=h
 obtain⟨n1,rfl,b1⟩:=cv h1
 obtain⟨n2,rfl,b2⟩:=cv h2
 obtain⟨n3,rfl,b3⟩:=cv h3
 exact⟨⟨n1,n2,n3,b4⟩,rfl,⟨b1,b2,b3⟩⟩

theorem aaw {cs:List D}(h:jN M4 cs):∃r:gL,.agg cs=r.d∧r.Ok:=by
 simp only[M4,jN,qb] at h
 obtain⟨_,_,rfl,h1,_,_,rfl,h2,_,_,rfl,⟨b4,rfl⟩,_,_,rfl,h3,rfl⟩:=h
 obtain⟨n1,rfl,b1⟩:=cv h1
 obtain⟨n2,rfl,b2⟩:=cv h2
 obtain⟨n3,rfl,b3⟩:=cv h3
 exact⟨⟨n1,n2,b4,n3⟩,rfl,⟨b1,b2,b3⟩⟩

theorem PY {α:Type}{d:α→D}{sh:Sh}{ok:α→Prop}(hd:∀{cs:List D},jN sh cs→∃a:α,.agg cs=d a∧ok a):∀{es:List D},(∀x,x∈es→∃cs,x=.agg cs∧jN sh cs)→∃xs:List α,es=xs.map d∧∀a,a∈xs→ok a
 | [],_=>⟨[],rfl,by simp⟩
 | e :: es,h=>by
  obtain⟨cs,rfl,h1⟩:=h e (by simp)
  obtain⟨a,ha,ho⟩:=hd h1
  obtain⟨xs,rfl,hx⟩:=PY hd (es:=es) fun x hx=>h x (by simp[hx])
  exact⟨a :: xs,by rw[ha];rfl,by simpa using⟨ho,hx⟩⟩

theorem Ug {cs:List D}(h:jN jb cs):∃r:aS,.agg cs=r.d∧r.Ok:=by
 simp only[jb,jN,qb] at h
 obtain⟨_,_,rfl,h1,_,_,rfl,h2,_,_,rfl,h3,rfl⟩:=h
 obtain⟨n1,rfl,b1⟩:=cv h1
 obtain⟨xs,rfl,b2⟩:=Rm (by simpa only[jN] using h2)
 obtain⟨e3,rfl,l3,h3⟩:=h3
 obtain⟨ls,rfl,o3⟩:=PY (d:=gL.d) aaw fun x hx=>(h3 x hx).1 rfl
 exact⟨⟨n1,xs,ls⟩,rfl,⟨b1,b2,o3,by simpa using l3⟩⟩

theorem aav {cs:List D}(h:jN jA cs):∃r:aL,.agg cs=r.d∧r.Ok:=by
 simp only[jA,PJ,jN,qb] at h
 obtain⟨_,_,rfl,⟨e1,rfl,l1,h1⟩,_,_,rfl,h2,_,_,rfl,⟨_,_,rfl,h3,_,_,rfl,h4,_,_,rfl,h5,_,_,rfl,h6,_,_,rfl,h7,_,_,rfl,⟨b8,rfl⟩,_,_,rfl,h9,_,_,rfl,tV,_,_,rfl,VM,_,_,rfl,h12,_,_,rfl,h13,_,_,rfl,VK,rfl⟩,rfl⟩:=h
 obtain⟨xs,rfl,o1⟩:=PY (d:=Item.d) aax fun x hx=>(h1 x hx).1 rfl
 obtain⟨n2,rfl,b2⟩:=cv h2
 obtain⟨n3,rfl,b3⟩:=cv h3
 obtain⟨n4,rfl,b4⟩:=cv h4
 obtain⟨n5,rfl,b5⟩:=cv h5
 obtain⟨n6,rfl,b6⟩:=cv h6
 obtain⟨x7,rfl,b7⟩:=Rm (by simpa only[jN] using h7)
 obtain⟨n9,rfl,b9⟩:=cv h9
 obtain⟨n10,rfl,b10⟩:=cv tV
 obtain⟨n11,rfl,b11⟩:=cv VM
 obtain⟨n12,rfl,b12⟩:=cv h12
 obtain⟨x13,rfl,b13⟩:=Rm (by simpa only[jN] using h13)
 obtain⟨x14,rfl,b14⟩:=Rm (by simpa only[jN] using VK)
 exact⟨⟨xs,n2,n3,n4,n5,n6,x7,b8,n9,n10,n11,n12,x13,x14⟩,rfl,⟨o1,by simpa using l1,b2,b3,b4,b5,b6,b7,b9,b10,b11,b12,b13,b14⟩⟩

theorem Qcv {x:D}(h:zQ jA x):∃p:aL,x=p.d∧p.Ok:=by
 obtain⟨cs,rfl,hh⟩:=h.1 rfl
 exact aav hh

theorem sq {x:D}(h:zQ (.sl jb) x):∃l:List aS,x=dM l∧Qbz l:=by
 have h:=h.2 rfl
 simp only[jN] at h
 obtain⟨es,hx,hl,nL⟩:=h
 cases hx
 obtain⟨xs,rfl,ho⟩:=PY (d:=aS.d) Ug fun x hx=>(nL x hx).1 rfl
 exact⟨xs,rfl,ho,by simpa using hl⟩

end Go.Am.Sc
