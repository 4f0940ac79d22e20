/-
  Several texts, one behind the other.
-/
import Derived.Test.YthkepocejfghcaaGreatAmFntoAmTabK
import Derived.Shelf.Small.Bits
import Derived.Shelf.Strconv.Itoa0
import Derived.Ground.Names2Prog
import Derived.Test.YthkepocejfghcaaGreatProg
import Derived.KernelRfl
set_option linter.unusedSimpArgs false
set_option linter.unusedVariables false
/-
 How the functions of the score are read.
-/
namespace Go.Am.Sc
abbrev y0 : E := .sym 0
abbrev y1 : E := .sym 1
abbrev y2 : E := .sym 2
abbrev y3 : E := .sym 3
abbrev y4 : E := .sym 4
abbrev y5 : E := .sym 5
abbrev y6 : E := .sym 6
abbrev y7 : E := .sym 7
abbrev y8 : E := .sym 8
abbrev y9 : E := .sym 9
abbrev y10 : E := .sym 10
abbrev y11 : E := .sym 11
abbrev y12 : E := .sym 12
abbrev y13 : E := .sym 13
abbrev y14 : E := .sym 14
abbrev y15 : E := .sym 15
abbrev y16 : E := .sym 16
abbrev y17 : E := .sym 17
abbrev y18 : E := .sym 18
abbrev y19 : E := .sym 19
abbrev y20 : E := .sym 20
abbrev y21 : E := .sym 21
abbrev y22 : E := .sym 22
abbrev y23 : E := .sym 23
abbrev y24 : E := .sym 24
abbrev y25 : E := .sym 25
abbrev y26 : E := .sym 26
abbrev y27 : E := .sym 27
abbrev y28 : E := .sym 28
abbrev y29 : E := .sym 29
abbrev y30 : E := .sym 30
abbrev y31 : E := .sym 31
abbrev y32 : E := .sym 32
abbrev y33 : E := .sym 33
abbrev y34 : E := .sym 34
abbrev y35 : E := .sym 35
abbrev y36 : E := .sym 36
abbrev y37 : E := .sym 37
abbrev y38 : E := .sym 38
abbrev y39 : E := .sym 39
abbrev y40 : E := .sym 40
abbrev y41 : E := .sym 41
abbrev y42 : E := .sym 42
abbrev y43 : E := .sym 43
abbrev y44 : E := .sym 44
abbrev y45 : E := .sym 45
abbrev y46 : E := .sym 46
abbrev y47 : E := .sym 47
abbrev y48 : E := .sym 48
abbrev y49 : E := .sym 49
abbrev y50 : E := .sym 50
abbrev y51 : E := .sym 51
abbrev y52 : E := .sym 52
abbrev y53 : E := .sym 53
abbrev y54 : E := .sym 54
abbrev y55 : E := .sym 55
abbrev y56 : E := .sym 56
abbrev y57 : E := .sym 57
abbrev y58 : E := .sym 58
abbrev y59 : E := .sym 59
abbrev y60 : E := .sym 60
abbrev y61 : E := .sym 61
abbrev y62 : E := .sym 62
abbrev y63 : E := .sym 63
abbrev y64 : E := .sym 64
abbrev y65 : E := .sym 65
abbrev y66 : E := .sym 66
abbrev y67 : E := .sym 67
abbrev y68 : E := .sym 68
abbrev y69 : E := .sym 69
abbrev y70 : E := .sym 70
abbrev y71 : E := .sym 71
abbrev y72 : E := .sym 72
abbrev y73 : E := .sym 73
abbrev y74 : E := .sym 74
abbrev y75 : E := .sym 75
abbrev y76 : E := .sym 76
abbrev y77 : E := .sym 77
abbrev y78 : E := .sym 78
abbrev y79 : E := .sym 79
abbrev y80 : E := .sym 80
abbrev y81 : E := .sym 81
abbrev y82 : E := .sym 82
abbrev y83 : E := .sym 83
abbrev y84 : E := .sym 84
abbrev y85 : E := .sym 85
abbrev y86 : E := .sym 86
abbrev y87 : E := .sym 87
abbrev y88 : E := .sym 88
abbrev y89 : E := .sym 89
abbrev y90 : E := .sym 90
abbrev y91 : E := .sym 91
abbrev y92 : E := .sym 92
abbrev y93 : E := .sym 93
abbrev y94 : E := .sym 94
abbrev y95 : E := .sym 95
abbrev y96 : E := .sym 96
abbrev y97 : E := .sym 97
abbrev y98 : E := .sym 98
abbrev y99 : E := .sym 99
def WRS:List Nat:=[68,76,96,82,112,116,128,129,130,131,132,133,134,135,138,149,152,153,154,158,159,125,140,141,142,143,144,145,147,148,155,156,157,160]
def bE (ro:Bool)(wr more:List Nat)(fn:Func):cz:=Js ro (wr++WRS) [] more [] fn
def scg (wr Ca:List Nat)(FB:Bool)(Ot:List (Nat×Nat))(fn:Func):cz:={ Js false (wr++WRS) [] [] Ot fn with Ca:=Ca,FB:=FB }


end Go.Am.Sc

/-
 DERIVED: THE SHELF's CONTRACTS AT THIS DUMP,IN PLAIN WORDS (tools/lay-plain.mjs out of 'ScLen.lean',which tools/lay-shelf.mjs wrote): THE SAME DECLARATIONS UNDER THE SAME NAMES: 'import','namespace','open','def','theorem' AND NOTHING ELSE: no command of the shelf's: FOR A HAND-IN. Each laying: the table of numbers ('.._ren') and one theorem,a field a fact of the dump's own or the kernel's comparison;each contract: ONE APPLICATION.
-/
namespace Go.Proofs
open Go.Shelf
def Tryz.K2:Go.Shelf.Ren:=⟨fun | 125=>113 | 128=>136 | 129=>137 | n=>n,fun | 46=>134 | 3=>3 | 51=>157 | 53=>159 | 4=>4 | 5=>5 | 9=>9 | n=>n,fun | n=>n⟩
theorem Tryz.X4:Go.Proofs.Lays.n125 Tryz.prog Tryz.K2:={
 mixed:=by kernel_rfl
 f125:=Tryz.func113.trans (congrArg some (by kernel_rfl))
 f128:=Tryz.func136.trans (congrArg some (by kernel_rfl))
 f129:=Tryz.func137.trans (congrArg some (by kernel_rfl))
 t3:=Tryz.underlying3
 a3:=Tryz.isAgg3
 z3:=Tryz.sizeOf3
 v3:=Tryz.zeroValue3
 t4:=Tryz.underlying4
 a4:=Tryz.isAgg4
 z4:=Tryz.sizeOf4
 v4:=Tryz.zeroValue4
 t5:=Tryz.underlying5
 a5:=Tryz.isAgg5
 z5:=Tryz.sizeOf5
 v5:=Tryz.zeroValue5
 t9:=Tryz.underlying9
 a9:=Tryz.isAgg9
 z9:=Tryz.sizeOf9
 v9:=Tryz.zeroValue9
 t46:=Tryz.underlying134
 a46:=Tryz.isAgg134
 z46:=Tryz.sizeOf134
 v46:=Tryz.zeroValue134
 t51:=Tryz.underlying157
 a51:=Tryz.isAgg157
 z51:=Tryz.sizeOf157
 v51:=Tryz.zeroValue157
 t53:=Tryz.underlying159
 a53:=Tryz.isAgg159
 z53:=Tryz.sizeOf159
 v53:=Tryz.zeroValue159 }
theorem Tryz.bits_Len (x:Int)(w:World)(h0:0≤x)(h1:x≤18446744073709551615) :
  Calls Tryz.prog 113 #[.int .u64 x] w fun e w'=>e=.returned (.int .i64 (Lib.bitLen x.toNat))∧w'=w:=Any.bits_Len Tryz.X4 x w h0 h1
end Go.Proofs

/-
 What is known besides the texts.
-/
namespace Go.Am.Sc
open Go.Proofs

def qU:JA where
 R:=fun f st ds=>match st,ds with
  | .st _,[.v (.int .u64 (.ofNat n))]=>if f=113∧n≤64 then some (.ret (.v (.int .i64 (Lib.bitLen n)))) else none
  | _,_=>none
 W:=fun _ _ _=>none
 F:=fun _ _ _ _=>none
 I:=fun _ _ _ _ _=>none

theorem iM:qL Tryz.prog qU:=by
 refine⟨fun f st ds r h=>?_,fun _ _ _ _ _ h=>(by cases h),fun _ _ _ _ _ h=>(by cases h),fun _ _ _ _ _ _ _ h=>(by cases h)⟩
 simp only[qU] at h
 split at h
 ·rename_i bs n
  split at h
  ·rename_i hc
   obtain⟨rfl,hn⟩:=hc
   cases h
   intro w S aJ rp vs hb hst dP hfl hS hvl hrd
   obtain⟨v,rfl⟩:∃v,vs=#[v]:=by
    obtain⟨l⟩:=vs
    simp at hvl
    obtain⟨v,rfl⟩:=List.length_eq_one_iff.1 hvl
    exact⟨v,rfl⟩
   have hv:=(hrd 0 v _ rfl rfl).v_eq
   subst hv
   refine(Tryz.bits_Len (n:Int) w (by omega) (by omega)).mono ?_
   rintro e w' ⟨rfl,rfl⟩
   exact⟨_,S,⟨rfl,.v rfl⟩,⟨⟨rfl,rfl,rfl,Nat.le_refl _,fun _ _=>rfl⟩,Nat.le_refl _⟩,Sets.le_refl _,rfl,fun _ _ h=>.inl h,hS⟩
  ·cases h
 ·cases h

end Go.Am.Sc

/-
 The chapter's examples,part by part.
-/
namespace Go.Am.Sc
open Go.Proofs
set_option maxRecDepth 100000
abbrev i (n:Int):D:=.v (.int .i64 n)
abbrev b (x:Bool):D:=.v (.bool x)
def xPc:List D:=[.bq [.agg [i 1,i 0,i 30,b false],.agg [i 2,i 0,i 0,b false],.agg [i 1,i 0,i 60,b false]],i 1,i 10000,i 60000,i 15,i 30,.bq [i 10000,i 60000],b false,i 0,i 1,i 100,i 1,.bq [i 10,i 6],.bq [i 3]]
def xP:D:=.agg xPc
def xC0:D:=.agg [i 0,.bq [i 600],.bq [.agg [i 630,i 0,b false,i 0],.agg [i 633,i 300000,b false,i 0],.agg [i 694,i 0,b false,i 0]]]
def xC1:D:=.agg [i 0,.bq [i 600],.bq [.agg [i 632,i 0,b false,i 0],.agg [i 635,i 310000,b true,i 0],.agg [i 694,i 0,b false,i 0]]]
def xC2:D:=.agg [i 0,.bq [i 600],.bq [.agg [i 630,i 0,b false,i 0],.agg [i 636,i 0,b false,i 1],.agg [i 696,i 0,b false,i 0]]]
def xL:D:=.bq [xC0,xC1,xC2]
def xE:D:=.ptr (xPc++[xL,.bq [i (-1),i (-1),i (-1)]])
def fB:Fact:=⟨53,[xP,xL],.bh [xE,b true]⟩

noncomputable def amD:List Spec:=[⟨53,Tryz.f53,{ bE false [] [25] Tryz.f53 with FB:=true },true⟩,⟨18,Tryz.f18,(bE true [] [] Tryz.f18),false⟩,⟨19,Tryz.f19,(bE true [] [] Tryz.f19),false⟩,⟨46,Tryz.f46,(bE true [] [] Tryz.f46),false⟩,⟨47,Tryz.f47,(bE true [] [] Tryz.f47),false⟩,⟨48,Tryz.f48,(bE true [] [] Tryz.f48),false⟩,⟨99,Tryz.f99,(bE true [] [] Tryz.f99),false⟩,⟨126,Tryz.f126,(bE true [] [] Tryz.f126),false⟩,⟨100,Tryz.f100,(bE true [] [] Tryz.f100),false⟩,⟨101,Tryz.f101,(bE true [] [] Tryz.f101),false⟩,⟨127,Tryz.f127,(bE true [] [] Tryz.f127),false⟩,⟨102,Tryz.f102,(bE true [] [] Tryz.f102),false⟩,⟨88,Tryz.f88,(bE true [] [] Tryz.f88),false⟩,⟨119,Tryz.f119,(bE true [] [] Tryz.f119),false⟩,⟨89,Tryz.f89,(bE false [] [] Tryz.f89),true⟩,⟨118,Tryz.f118,(bE true [] [] Tryz.f118),false⟩,⟨139,Tryz.f139,(bE false [1000021] [] Tryz.f139),false⟩]
theorem agG:(fB:Fact).ok Tryz.prog:=nM (l:=amD) ⟨Tryz.func53,Tryz.func18,Tryz.func19,Tryz.func46,Tryz.func47,Tryz.func48,Tryz.func99,Tryz.func126,Tryz.func100,Tryz.func101,Tryz.func127,Tryz.func102,Tryz.func88,Tryz.func119,Tryz.func89,Tryz.func118,Tryz.func139,trivial⟩ iM fB 200 30 (by kernel_rfl) oI (by kernel_rfl)

end Go.Am.Sc

/-
 The chapter's examples,part by part.
-/
namespace Go.Am.Sc
open Go.Proofs
set_option maxRecDepth 100000
def fT0:Fact:=⟨57,[xE,i 0],i 310000⟩
def fT1:Fact:=⟨57,[xE,i 1],i 400000⟩
def fT2:Fact:=⟨57,[xE,i 2],i 300000⟩
def fS:Fact:=⟨56,[xE,i 2,i 1],i 300000⟩

noncomputable def G1:List Spec:=[⟨57,Tryz.f57,(bE true [] [] Tryz.f57),false⟩,⟨54,Tryz.f54,(bE true [] [] Tryz.f54),false⟩,⟨55,Tryz.f55,(bE true [] [] Tryz.f55),false⟩,⟨56,Tryz.f56,(bE false [] [8] Tryz.f56),true⟩,⟨108,Tryz.f108,(bE true [] [] Tryz.f108),false⟩,⟨109,Tryz.f109,(bE true [] [] Tryz.f109),false⟩,⟨123,Tryz.f123,(bE true [] [] Tryz.f123),false⟩,⟨103,Tryz.f103,(bE true [] [] Tryz.f103),false⟩,⟨64,Tryz.f64,(bE false [] [7] Tryz.f64),true⟩,⟨66,Tryz.f66,(bE true [] [] Tryz.f66),false⟩,⟨67,Tryz.f67,(bE false [] [7] Tryz.f67),true⟩,⟨104,Tryz.f104,(bE true [] [] Tryz.f104),false⟩,⟨105,Tryz.f105,(bE true [] [] Tryz.f105),false⟩,⟨106,Tryz.f106,(bE true [] [] Tryz.f106),false⟩,⟨107,Tryz.f107,(bE true [] [] Tryz.f107),false⟩,⟨88,Tryz.f88,(bE true [] [] Tryz.f88),false⟩,⟨119,Tryz.f119,(bE true [] [] Tryz.f119),false⟩,⟨96,Tryz.f96,(bE false [] [] Tryz.f96),false⟩,⟨125,Tryz.f125,(bE false [] [] Tryz.f125),false⟩,⟨140,Tryz.f140,(bE false [] [] Tryz.f140),false⟩,⟨115,Tryz.f115,(bE true [] [] Tryz.f115),false⟩,⟨146,Tryz.f146,(bE true [] [] Tryz.f146),false⟩]
theorem ZN:(fT0:Fact).ok Tryz.prog:=nM (l:=G1) ⟨Tryz.func57,Tryz.func54,Tryz.func55,Tryz.func56,Tryz.func108,Tryz.func109,Tryz.func123,Tryz.func103,Tryz.func64,Tryz.func66,Tryz.func67,Tryz.func104,Tryz.func105,Tryz.func106,Tryz.func107,Tryz.func88,Tryz.func119,Tryz.func96,Tryz.func125,Tryz.func140,Tryz.func115,Tryz.func146,trivial⟩ iM fT0 200 30 (by kernel_rfl) oI (by kernel_rfl)
theorem ZM:(fT1:Fact).ok Tryz.prog:=nM (l:=G1) ⟨Tryz.func57,Tryz.func54,Tryz.func55,Tryz.func56,Tryz.func108,Tryz.func109,Tryz.func123,Tryz.func103,Tryz.func64,Tryz.func66,Tryz.func67,Tryz.func104,Tryz.func105,Tryz.func106,Tryz.func107,Tryz.func88,Tryz.func119,Tryz.func96,Tryz.func125,Tryz.func140,Tryz.func115,Tryz.func146,trivial⟩ iM fT1 200 30 (by kernel_rfl) oI (by kernel_rfl)
theorem ZL:(fT2:Fact).ok Tryz.prog:=nM (l:=G1) ⟨Tryz.func57,Tryz.func54,Tryz.func55,Tryz.func56,Tryz.func108,Tryz.func109,Tryz.func123,Tryz.func103,Tryz.func64,Tryz.func66,Tryz.func67,Tryz.func104,Tryz.func105,Tryz.func106,Tryz.func107,Tryz.func88,Tryz.func119,Tryz.func96,Tryz.func125,Tryz.func140,Tryz.func115,Tryz.func146,trivial⟩ iM fT2 200 30 (by kernel_rfl) oI (by kernel_rfl)
theorem agB:(fS:Fact).ok Tryz.prog:=nM (l:=G1) ⟨Tryz.func57,Tryz.func54,Tryz.func55,Tryz.func56,Tryz.func108,Tryz.func109,Tryz.func123,Tryz.func103,Tryz.func64,Tryz.func66,Tryz.func67,Tryz.func104,Tryz.func105,Tryz.func106,Tryz.func107,Tryz.func88,Tryz.func119,Tryz.func96,Tryz.func125,Tryz.func140,Tryz.func115,Tryz.func146,trivial⟩ iM fS 200 30 (by kernel_rfl) oI (by kernel_rfl)

end Go.Am.Sc

/-
 The function Results,as a text.
-/
namespace Go.Am.Sc
open Go.Proofs

noncomputable def t29:T:=(ah [(.ev (.gE (.bB 14 y0))),
 (.ev (.ld true 14 y2 y3)),
 (.call [] 53 y2 [y4,y1] [true,true]),
 (.ev (.cI 90 1 y2 (.const (.agg [(.v (.pointer none))])))),
 (.ev (.gQ 1 y6 (.aU y2) (.az 0 y5))),
 (.ev (.un .not (.az 1 y5)))]
 (.ite y8 (.ret (.aa (.aa (.const (.bq [])) (.aa (.const (.v (.int .i64 2))) .ax)) (.aa y7 .ax))) (ah [(.ev (.aR y1)),
 (.ev (.rep 8 y9 (.v (.int .i64 0)))),
 (.ev (.aR y1)),
 (.ev (.rep 8 y11 (.v (.int .i64 0)))),
 (.ev (.aR y1)),
 (.ev (.rep 24 y13 .cq)),
 (.ev (.aR y1))]
 (.join 0 5 (.loop 1 [(.const .cq),(.const (.bq [])),(.const (.v (.int .i64 0))),(.cI 1000000000 1 (.cI 1000000000 1 (.cI 1000000000 1 (.a_ 1000000000 1 (.a_ 1000000000 1 (.a_ 1000000000 1 y7 y10) y12) y14) (.cons (.bO y7 y10) .nil)) (.cons (.bO (.a_ 1000000000 1 y7 y10) y12) .nil)) (.cons (.bO (.a_ 1000000000 1 (.a_ 1000000000 1 y7 y10) y12) y14) .nil))] (ah [(.ev (.bin .lss .int y18 y15))]
 (.ite y20 (.join 2 14 (ah [(.ev (.ld false 1 y19 (.aU (.a_ 1000000000 1 (.a_ 1000000000 1 (.a_ 1000000000 1 y7 y10) y12) y14)))),
 (.ev (.ld false 1 y19 (.aU y2))),
 (.call [] 57 y19 [y22,y18] [true]),
 (.ev (.aj 1 y21 y18)),
 (.ev (.gQ 1 y19 y24 y23)),
 (.ev (.ld false 1 y25 (.aU y2))),
 (.ev (.nn y26)),
 (.ev (.ay 15 y27)),
 (.ev (.ld false 1 y25 y28)),
 (.ev (.aj 1 y29 y18)),
 (.ev (.ld false 1 y25 y30)),
 (.ev (.bin .geq .int y31 (.const (.v (.int .i64 0)))))]
 (.ite y32 (ah [(.ev (.bz (.bt y18) (.const (.bq [])))),
 (.ev (.app 1 8 y17 y33))]
 (.jump 2 [y16,y34,y21,y22,y23,y24,y26,y27,y28,y29,y30,y31,y32,y25])) (ah [(.ev (.bz (.bt y18) (.const (.bq [])))),
 (.ev (.fU 3 1 8 y25 y16 y33)),
 (.ev (.ay 0 y3)),
 (.ev (.ld false 1 y34 y35)),
 (.ev (.aR y36))]
 (.join 3 3 (.loop 4 [(.const (.v (.int .i64 0))),y34] (ah [(.ev (.bin .lss .int y38 y37))]
 (.ite y40 (.join 5 4 (ah [(.ev (.ld false 1 y39 (.aU y2))),
 (.call [] 54 y39 [y41,y38] [true]),
 (.ev (.un .not y42))]
 (.ite y43 (.jump 5 [y41,y42,y43,y39]) (ah [(.ev (.ld false 1 y39 (.aU (.cI 1000000000 1 (.cI 1000000000 1 (.a_ 1000000000 1 (.a_ 1000000000 1 (.a_ 1000000000 1 y7 y10) y12) y14) (.cons (.bO y7 y10) .nil)) (.cons (.bO (.a_ 1000000000 1 y7 y10) y12) .nil))))),
 (.ev (.ld false 1 y39 (.aU (.cI 1000000000 1 (.cI 1000000000 1 (.a_ 1000000000 1 (.a_ 1000000000 1 (.a_ 1000000000 1 y7 y10) y12) y14) (.cons (.bO y7 y10) .nil)) (.cons (.bO (.a_ 1000000000 1 y7 y10) y12) .nil))))),
 (.ev (.aj 1 y45 y18)),
 (.ev (.ld false 1 y39 y46)),
 (.ev (.ld false 1 y39 (.aU y2))),
 (.call [] 56 y39 [y48,y18,y38] [true]),
 (.ev (.bz (.bt y49) (.const (.bq [])))),
 (.ev (.fU 3 1 8 y39 y47 y50)),
 (.ev (.aj 1 y44 y18)),
 (.ev (.gQ 1 y51 y52 (.apps y39 y47 y50))),
 (.ev (.m4 .same (.ld false 1 y39 (.aU (.cI 1000000000 1 (.cI 1000000000 1 (.a_ 1000000000 1 (.a_ 1000000000 1 (.a_ 1000000000 1 y7 y10) y12) y14) (.cons (.bO y7 y10) .nil)) (.cons (.bO (.a_ 1000000000 1 y7 y10) y12) .nil)))) (.ld false 1 y51 (.aU (.cI 1000000000 1 (.cI 1000000000 1 (.a_ 1000000000 1 (.a_ 1000000000 1 (.a_ 1000000000 1 y7 y10) y12) y14) (.cons (.bO y7 y10) .nil)) (.cons (.bO (.a_ 1000000000 1 y7 y10) y12) .nil)))) .nil .nil)),
 (.ev (.ld false 1 y53 (.aU y2))),
 (.bQ [] 64 y53 [y55,y38,(.const (.v (.int .i64 (-1))))] [true]),
 (.call [] 65 (.az 1 y56) [(.az 0 y56),y18] [true]),
 (.ev (.guard y57 true (.ld false 1 (.az 1 y56) (.aU y2)))),
 (.call [(y57,true)] 66 (.az 1 y56) [y58,y18,y38] [true]),
 (.ev (.guard y57 true (.ld false 1 (.az 1 y56) (.aU y2)))),
 (.ev (.guard y57 true (.az 0 y56))),
 (.bQ [(y57,true)] 67 (.az 1 y56) [y60,y61,y38] [true]),
 (.ev (.guard y57 true (.aj 1 (.az 0 y62) (.const (.v (.int .i64 0)))))),
 (.ev (.guard y57 true (.ld false 1 (.az 1 y62) y63))),
 (.ev (.guard y57 true (.bin .eql .int y59 y64))),
 (.ev (.ite y57 y65 (.const (.v (.bool false)))))]
 (.join 6 1 (.ite y66 (ah [(.ev (.ld false 1 (.az 1 y62) (.aU (.cI 1000000000 1 (.a_ 1000000000 1 (.a_ 1000000000 1 (.a_ 1000000000 1 y7 y10) y12) y14) (.cons (.bO y7 y10) .nil))))),
 (.ev (.aj 1 y67 y18)),
 (.ev (.ld false 1 (.az 1 y62) y68)),
 (.ev (.bin .add .int y69 (.const (.v (.int .i64 1))))),
 (.ev (.aj 1 y67 y18)),
 (.ev (.gQ 1 (.az 1 y62) y71 y70))]
 (.jump 6 [y72])) (.jump 6 [(.az 1 y62)])) (.jump 5 [y41,y42,y43,y67]))))) (ah [(.ev (.bin .add .int y38 (.const (.v (.int .i64 1)))))]
 (.jump 4 [y45,y44]))) (.jump 3 [y38,y40,y39])))) (.jump 2 [(.apps y25 y16 y33),y17,y21,y22,y23,y24,y26,y27,y28,y29,y30,y31,y32,y40]))))) (ah [(.ev (.bin .add .int y18 (.const (.v (.int .i64 1)))))]
 (.jump 1 [y21,y22,y35,y34]))) (.jump 0 [y16,y17,y18,y20,y19])))) (ah [(.ev (.gV 70 .ax (.aa (.aU (.a_ 1000000000 1 (.a_ 1000000000 1 (.a_ 1000000000 1 y7 y10) y12) y14)) .ax))),
 (.ev (.gV 72 .ax (.aa (.aU (.cI 1000000000 1 (.a_ 1000000000 1 (.a_ 1000000000 1 (.a_ 1000000000 1 y7 y10) y12) y14) (.cons (.bO y7 y10) .nil))) .ax))),
 (.ev (.gV 73 .ax (.aa (.aU (.cI 1000000000 1 (.cI 1000000000 1 (.a_ 1000000000 1 (.a_ 1000000000 1 (.a_ 1000000000 1 y7 y10) y12) y14) (.cons (.bO y7 y10) .nil)) (.cons (.bO (.a_ 1000000000 1 y7 y10) y12) .nil))) .ax))),
 (.ev (.bz (.bt y21) (.bz (.bt y22) (.bz (.bt y23) (.bz (.bt (.const (.fn 75 [] []))) (.const (.bq []))))))),
 (.call [] 69 y20 [y24] [true]),
 (.bQ [] 68 y20 [y16,y25] []),
 (.ev (.aR y1)),
 (.ev (.rep 8 y27 (.v (.int .i64 0)))),
 (.ev (.ay 2 y3)),
 (.ev (.ay 9 y29)),
 (.ev (.ld false 1 (.az 1 y26) y30)),
 (.ev (.bin .geq .int y31 (.const (.v (.int .i64 0)))))]
 (.join 0 2 (.ite y32 (ah [(.ev (.ld false 1 (.az 1 y26) (.aU y2))),
 (.ev (.ay 2 y3)),
 (.ev (.ay 9 y34)),
 (.ev (.ld false 1 (.az 1 y26) y35)),
 (.bQ [] 64 (.az 1 y26) [y33,y36,(.const (.v (.int .i64 (-1))))] [true]),
 (.ev (.gV 77 .ax (.aa (.aU y2) (.aa y3 .ax)))),
 (.bQ [] 76 (.az 1 y37) [(.az 0 y37),y38] []),
 (.ev (.aR (.az 0 y37)))]
 (.join 1 3 (.loop 2 [(.const (.v (.int .i64 0))),y28] (ah [(.ev (.bin .lss .int y41 y40))]
 (.ite y43 (.join 3 9 (ah [(.ev (.aj 1 (.az 0 y37) y41)),
 (.ev (.ld false 1 (.az 1 y39) y44)),
 (.ev (.ay 2 y3)),
 (.ev (.ay 11 y46)),
 (.ev (.ld false 1 (.az 1 y39) y47)),
 (.call [] 78 (.az 1 y39) [y48,y41] [true]),
 (.ev (.idx y42 y45)),
 (.ev (.set y42 y45 0 y49))]
 (.jump 3 [y45,y44,y45,y45,y46,y47,y48,y49,y51])) (ah [(.ev (.bin .add .int y41 (.const (.v (.int .i64 1)))))]
 (.jump 2 [y53,y52]))) (.jump 1 [y41,y43,y42])))) (.jump 0 [y43,(.az 1 y39)]))) (.jump 0 [y28,(.az 1 y26)])) (ah [(.ev (.ay 1 y3)),
 (.ev (.ld false 1 y34 y35)),
 (.ev (.rep 8 y36 (.v (.int .i64 0)))),
 (.ev (.aR y16))]
 (.join 0 4 (.loop 1 [(.const (.bq [])),(.const (.v (.int .i64 0))),y37] (ah [(.ev (.bin .lss .int y40 y38))]
 (.ite y42 (.join 2 31 (ah [(.ev (.aj 1 y16 y40)),
 (.ev (.ld false 1 y34 y43)),
 (.ev (.aj 3 y1 y44)),
 (.ev (.ay 0 y45)),
 (.ev (.ld false 1 y34 y46)),
 (.ev (.idx y41 y47)),
 (.ev (.cell 0 (.idx y41 y47))),
 (.ev (.bin .add .int y49 (.const (.v (.int .i64 1))))),
 (.ev (.idx y41 y47)),
 (.ev (.set y41 y47 0 y50)),
 (.ev (.ld false 1 y34 (.aU (.a_ 1000000000 1 (.a_ 1000000000 1 (.a_ 1000000000 1 y7 y10) y12) y14)))),
 (.ev (.aj 1 y53 y44)),
 (.ev (.ld false 1 y34 y54)),
 (.ev (.bin .add .int y40 (.const (.v (.int .i64 1))))),
 (.ev (.idx y52 y47)),
 (.ev (.cell 0 (.idx y52 y47))),
 (.ev (.ay 2 y3)),
 (.ev (.ay 10 y59)),
 (.ev (.ld false 1 y34 y60)),
 (.call [] 78 y34 [y61,y40] [true]),
 (.ev (.idx y33 y44)),
 (.ev (.cell 0 (.idx y33 y44))),
 (.ev (.bin .add .int y62 y64)),
 (.ev (.cons (.bt y44) (.cons (.bt (.const (.v (.bool true)))) (.cons (.bt (.const (.v (.int .i64 (-1))))) (.cons (.bt y55) (.cons (.bt y56) (.cons (.bt y58) (.cons (.bt y65) .nil)))))))),
 (.ev (.bz (.bB 7 y66) (.const (.bq [])))),
 (.ev (.app 7 56 y39 y67))]
 (.jump 2 [y68,y44,y47,y43,y44,y44,y45,y46,y47,y47,y49,y50,y44,y53,y44,y54,y55,y56,y47,y58,y59,y60,y61,y62,y44,y64,y65,y66,y67,y68,y52])) (ah [(.ev (.bin .add .int y40 (.const (.v (.int .i64 1)))))]
 (.jump 1 [y43,y74,y73]))) (.jump 0 [y39,y40,y42,y41])))) (ah [(.ev (.aR y17))]
 (.join 0 3 (.loop 1 [y39,(.const (.v (.int .i64 0)))] (ah [(.ev (.bin .lss .int y45 y43))]
 (.ite y46 (.join 2 19 (ah [(.ev (.aj 1 y17 y45)),
 (.ev (.ld false 1 y34 y47)),
 (.ev (.ld false 1 y34 (.aU y2))),
 (.ev (.nn y49)),
 (.ev (.ay 15 y50)),
 (.ev (.ld false 1 y34 y51)),
 (.ev (.aj 1 y52 y48)),
 (.ev (.ld false 1 y34 y53)),
 (.ev (.ld false 1 y34 (.aU (.a_ 1000000000 1 (.a_ 1000000000 1 (.a_ 1000000000 1 y7 y10) y12) y14)))),
 (.ev (.aj 1 y55 y48)),
 (.ev (.ld false 1 y34 y56)),
 (.ev (.cons (.bt y48) (.cons (.const (.agg [(.v (.bool false))])) (.cons (.bt y54) (.cons (.bt y57) (.cons (.const (.agg [(.v (.int .i64 0))])) (.cons (.const (.agg [(.v (.int .i64 0))])) (.cons (.const (.agg [(.v (.int .i64 0))])) .nil)))))))),
 (.ev (.bz (.bB 7 y58) (.const (.bq [])))),
 (.ev (.app 7 56 y44 y59))]
 (.jump 2 [y60,y48,y47,y48,y48,y49,y50,y51,y52,y48,y53,y54,y55,y48,y56,y57,y58,y59,y60])) (ah [(.ev (.bin .add .int y45 (.const (.v (.int .i64 1)))))]
 (.jump 1 [y47,y66]))) (.jump 0 [y44,y45,y46])))) (.ret (.aa (.aa y44 (.aa (.const (.v (.int .i64 0))) .ax)) (.aa y34 .ax)))))))))))))
noncomputable def e29:Entry:={ f:=29,kn:=.plain,cf:=(scg [64,67] [6,8] true [(7,1000037),(7,1000040),(7,1000043),(7,1000010),(7,1000011),(7,1000012)] Tryz.f29),own:=true,bX:=[false,true],t:=t29 }
theorem XP:aV Tryz.prog e29:=aV.bw Tryz.func29 (by kernel_rfl) (by kernel_rfl)


end Go.Am.Sc

/-
 The chapter's examples,part by part.
-/
namespace Go.Am.Sc
open Go.Proofs
set_option maxRecDepth 100000
def fS0:Fact:=⟨56,[xE,i 0,i 1],i 300000⟩
def fS1:Fact:=⟨56,[xE,i 1,i 1],i 310000⟩
theorem agD:(fS0:Fact).ok Tryz.prog:=nM (l:=G1) ⟨Tryz.func57,Tryz.func54,Tryz.func55,Tryz.func56,Tryz.func108,Tryz.func109,Tryz.func123,Tryz.func103,Tryz.func64,Tryz.func66,Tryz.func67,Tryz.func104,Tryz.func105,Tryz.func106,Tryz.func107,Tryz.func88,Tryz.func119,Tryz.func96,Tryz.func125,Tryz.func140,Tryz.func115,Tryz.func146,trivial⟩ iM fS0 200 30 (by kernel_rfl) oI (by kernel_rfl)
theorem agC:(fS1:Fact).ok Tryz.prog:=nM (l:=G1) ⟨Tryz.func57,Tryz.func54,Tryz.func55,Tryz.func56,Tryz.func108,Tryz.func109,Tryz.func123,Tryz.func103,Tryz.func64,Tryz.func66,Tryz.func67,Tryz.func104,Tryz.func105,Tryz.func106,Tryz.func107,Tryz.func88,Tryz.func119,Tryz.func96,Tryz.func125,Tryz.func140,Tryz.func115,Tryz.func146,trivial⟩ iM fS1 200 30 (by kernel_rfl) oI (by kernel_rfl)
noncomputable def fsR:List Fact:=[fB,fT0,fT1,fT2,fS,fS0,fS1]
def fR:Fact:=⟨29,[xP,xL],.bh [.bq [.agg [i 2,b true,i (-1),i 300000,i 1,i 1,i 10],.agg [i 0,b true,i (-1),i 310000,i 2,i 2,i 9],.agg [i 1,b true,i (-1),i 400000,i 3,i 3,i 0]],i 0]⟩

noncomputable def amy:List Spec:=[⟨54,Tryz.f54,(bE true [] [] Tryz.f54),false⟩,⟨55,Tryz.f55,(bE true [] [] Tryz.f55),false⟩,⟨65,Tryz.f65,(bE true [] [] Tryz.f65),false⟩,⟨111,Tryz.f111,(bE true [] [] Tryz.f111),false⟩,⟨66,Tryz.f66,(bE true [] [] Tryz.f66),false⟩,⟨64,Tryz.f64,(bE false [] [7] Tryz.f64),true⟩,⟨67,Tryz.f67,(bE false [] [7] Tryz.f67),true⟩,⟨96,Tryz.f96,(bE false [] [] Tryz.f96),false⟩,⟨125,Tryz.f125,(bE false [] [] Tryz.f125),false⟩,⟨140,Tryz.f140,(bE false [] [] Tryz.f140),false⟩,⟨146,Tryz.f146,(bE true [] [] Tryz.f146),false⟩,⟨115,Tryz.f115,(bE true [] [] Tryz.f115),false⟩,⟨69,Tryz.f69,(bE true [] [] Tryz.f69),false⟩,⟨70,Tryz.f70,(bE true [] [] Tryz.f70),false⟩,⟨72,Tryz.f72,(bE true [] [] Tryz.f72),false⟩,⟨73,Tryz.f73,(bE true [] [] Tryz.f73),false⟩,⟨75,Tryz.f75,(bE true [] [] Tryz.f75),false⟩,⟨77,Tryz.f77,(bE true [] [] Tryz.f77),false⟩,⟨114,Tryz.f114,(bE true [] [] Tryz.f114),false⟩,⟨71,Tryz.f71,(bE true [] [] Tryz.f71),false⟩,⟨74,Tryz.f74,(bE true [] [] Tryz.f74),false⟩,⟨78,Tryz.f78,(bE true [] [] Tryz.f78),false⟩,⟨68,Tryz.f68,(bE false [] [] Tryz.f68),false⟩,⟨76,Tryz.f76,(bE false [] [] Tryz.f76),false⟩,⟨112,Tryz.f112,(bE false [] [] Tryz.f112),false⟩,⟨116,Tryz.f116,(bE false [] [] Tryz.f116),false⟩,⟨128,Tryz.f128,(bE false [] [] Tryz.f128),false⟩]
theorem amz:(fR:Fact).ok Tryz.prog:=nM (l:=amy) ⟨Tryz.func54,Tryz.func55,Tryz.func65,Tryz.func111,Tryz.func66,Tryz.func64,Tryz.func67,Tryz.func96,Tryz.func125,Tryz.func140,Tryz.func146,Tryz.func115,Tryz.func69,Tryz.func70,Tryz.func72,Tryz.func73,Tryz.func75,Tryz.func77,Tryz.func114,Tryz.func71,Tryz.func74,Tryz.func78,Tryz.func68,Tryz.func76,Tryz.func112,Tryz.func116,Tryz.func128,trivial⟩ ((EI (l:=fsR) ⟨agG,ZN,ZM,ZL,agB,agD,agC,trivial⟩).or iM) fR 200 30 (by kernel_rfl) (tb0:=[e29]) (fun e he=>List.mem_singleton.1 he ▸ XP) (by kernel_rfl)

end Go.Am.Sc

/-
 The chapter's examples,part by part.
-/
namespace Go.Am.Sc
open Go.Proofs
set_option maxRecDepth 100000
def fCh:Fact:=⟨31,[.bq [.bq [i 10,i 6,i 0],.bq [i 8,i 8,i 4]],i 1],.bh [.bq [i 0,i 1],.bq [i 16,i 16],i 0]⟩

noncomputable def agE:List Spec:=[⟨31,Tryz.f31,(scg [] [11] false [(10,1000053),(10,1000056),(10,1000009),(10,1000010)] Tryz.f31),true⟩,⟨47,Tryz.f47,(bE true [] [] Tryz.f47),false⟩,⟨99,Tryz.f99,(bE true [] [] Tryz.f99),false⟩,⟨126,Tryz.f126,(bE true [] [] Tryz.f126),false⟩,⟨100,Tryz.f100,(bE true [] [] Tryz.f100),false⟩,⟨46,Tryz.f46,(bE true [] [] Tryz.f46),false⟩,⟨71,Tryz.f71,(bE true [] [] Tryz.f71),false⟩,⟨74,Tryz.f74,(bE true [] [] Tryz.f74),false⟩,⟨115,Tryz.f115,(bE true [] [] Tryz.f115),false⟩,⟨83,Tryz.f83,(bE true [] [] Tryz.f83),false⟩,⟨84,Tryz.f84,(bE true [] [] Tryz.f84),false⟩,⟨85,Tryz.f85,(bE true [] [] Tryz.f85),false⟩,⟨82,Tryz.f82,(bE false [] [5] Tryz.f82),false⟩,⟨68,Tryz.f68,(bE false [] [] Tryz.f68),false⟩,⟨76,Tryz.f76,(bE false [] [] Tryz.f76),false⟩,⟨112,Tryz.f112,(bE false [] [] Tryz.f112),false⟩,⟨116,Tryz.f116,(bE false [] [] Tryz.f116),false⟩,⟨128,Tryz.f128,(bE false [] [] Tryz.f128),false⟩]
theorem agF:(fCh:Fact).ok Tryz.prog:=nM (l:=agE) ⟨Tryz.func31,Tryz.func47,Tryz.func99,Tryz.func126,Tryz.func100,Tryz.func46,Tryz.func71,Tryz.func74,Tryz.func115,Tryz.func83,Tryz.func84,Tryz.func85,Tryz.func82,Tryz.func68,Tryz.func76,Tryz.func112,Tryz.func116,Tryz.func128,trivial⟩ iM fCh 200 30 (by kernel_rfl) oI (by kernel_rfl)
end Go.Am.Sc

/-
 The chapter's examples,part by part.
-/
namespace Go.Am.Sc
open Go.Proofs
set_option maxRecDepth 100000
noncomputable def fsK:List Fact:=[fB,fT0,fT1,fT2,fS,fR,fCh]
def fK:Fact:=⟨17,[],.v (.bool true)⟩

noncomputable def amA:List Spec:=[⟨17,Tryz.f17,(bE true [] [] Tryz.f17),false⟩,⟨44,Tryz.f44,(bE true [] [] Tryz.f44),false⟩,⟨45,Tryz.f45,(bE true [] [] Tryz.f45),false⟩,⟨35,Tryz.f35,(bE true [] [] Tryz.f35),false⟩,⟨23,Tryz.f23,(bE true [] [] Tryz.f23),false⟩,⟨22,Tryz.f22,(bE true [] [] Tryz.f22),false⟩,⟨34,Tryz.f34,(bE true [] [] Tryz.f34),false⟩,⟨19,Tryz.f19,(bE true [] [] Tryz.f19),false⟩,⟨18,Tryz.f18,(bE true [] [] Tryz.f18),false⟩,⟨46,Tryz.f46,(bE true [] [] Tryz.f46),false⟩,⟨47,Tryz.f47,(bE true [] [] Tryz.f47),false⟩,⟨99,Tryz.f99,(bE true [] [] Tryz.f99),false⟩,⟨126,Tryz.f126,(bE true [] [] Tryz.f126),false⟩,⟨100,Tryz.f100,(bE true [] [] Tryz.f100),false⟩,⟨48,Tryz.f48,(bE true [] [] Tryz.f48),false⟩,⟨88,Tryz.f88,(bE true [] [] Tryz.f88),false⟩,⟨54,Tryz.f54,(bE true [] [] Tryz.f54),false⟩,⟨55,Tryz.f55,(bE true [] [] Tryz.f55),false⟩]
theorem amB:(fK:Fact).ok Tryz.prog:=nM (l:=amA) ⟨Tryz.func17,Tryz.func44,Tryz.func45,Tryz.func35,Tryz.func23,Tryz.func22,Tryz.func34,Tryz.func19,Tryz.func18,Tryz.func46,Tryz.func47,Tryz.func99,Tryz.func126,Tryz.func100,Tryz.func48,Tryz.func88,Tryz.func54,Tryz.func55,trivial⟩ ((EI (l:=fsK) ⟨agG,ZN,ZM,ZL,agB,amz,agF,trivial⟩).or iM) fK 200 30 (by kernel_rfl) oI (by kernel_rfl)

theorem iz (bs:List D):aP Tryz.prog 17 (.st bs) [] (.v (.bool true)):=amB bs

end Go.Am.Sc

/-
 Checks of plans and cards,as texts.
-/
namespace Go.Am.Sc
open Go.Proofs

noncomputable def u15:U:=(aI [.aY (.bB 14 y0),
 .ev (.aR (.cell 0 y0)),
 .ev (.bin .leq .int y2 (ki 12)),
 .chain false y3 (aI [.aY (.cell 6 y0),
 .ev (.aR (.cell 6 y0)),
 .ev (.bin .leq .int y4 (ki 20))]
 (.ret y5)),
 .chain false y4 (aI [.aY (.cell 12 y0),
 .ev (.aR (.cell 12 y0)),
 .ev (.bin .leq .int y5 (ki 80))]
 (.ret y6)),
 .chain false y5 (aI [.aY (.cell 13 y0),
 .ev (.aR (.cell 13 y0)),
 .ev (.bin .leq .int y6 (ki 80))]
 (.ret y7))]
 (.ret (.aa y6 (.aa y1 .ax))))
theorem akS:cm Tryz.prog 15 .plain (bE true [] [] Tryz.f15) [false] u15:=cm.plain Tryz.func15 (by kernel_rfl) (by kernel_rfl)

noncomputable def u16:U:=(aI [.join 0 0 (.loop 1 [(ki 0)] (aI [.ev (.aR y0),
 .ev (.bin .lss .int y3 y4)]
 (.ite y5 (aI [.join 2 0 (aI [.ev (.aj 3 y0 y3),
 .aY (.ay 1 y6),
 .ev (.ld false 1 y2 (.ay 1 y6)),
 .ev (.aR y7),
 .ev (.bin .gtr .int y8 (ki 12)),
 .chain true y9 (aI [.ev (.aj 3 y0 y3),
 .aY (.ay 2 y10),
 .ev (.ld false 1 y2 (.ay 2 y10)),
 .ev (.aR y11),
 .ev (.bin .gtr .int y12 (ki 30))]
 (.ret y13))]
 (.ite y10 (.ret (.aa (kb false) (.aa y2 .ax))) (.jump 2 [] []))),
 .ev (.bin .add .int y3 (ki 1))]
 (.jump 1 [y6] [])) (.jump 0 [] [])))),
 .ev (.aR y0),
 .ev (.bin .leq .int y3 y1),
 .chain true y4 (aI [.ev (.aR y0),
 .ev (.bin .gtr .int y5 (ki 200)),
 .chain false y6 (aI [.ev (.aR y0),
 .ev (.bin .lss .int y7 (ki 300))]
 (.ret y8))]
 (.ret y7))]
 (.ret (.aa y5 (.aa y2 .ax))))
theorem akR:cm Tryz.prog 16 .plain (bE true [] [] Tryz.f16) [true,true] u16:=cm.plain Tryz.func16 (by kernel_rfl) (by kernel_rfl)

noncomputable def u18:U:=(aI [.aY (.bB 14 y0),
 .ev (.aR (.cell 0 y0)),
 .call 46 y1 [y2,(ki 1),(ki 100)] [true],
 .ev (.un .not y3),
 .chain true y4 (aI [.aY (.cell 1 y0),
 .call 46 y1 [(.cell 1 y0),(ki 1),(ki 20)] [true],
 .ev (.un .not y5)]
 (.ret y6)),
 .chain true y5 (aI [.aY (.cell 0 y0),
 .ev (.aj 4 (.cell 0 y0) (ki 0)),
 .aY (.ay 1 y6),
 .ev (.ld false 1 y1 (.ay 1 y6)),
 .ev (.bin .neq .int y7 (ki 0))]
 (.ret y8))]
 (.ite y6 (.ret (.aa (ki 2) (.aa y1 .ax))) (aI [.ev (.aR (.cell 0 y0)),
 .join 0 0 (.loop 1 [(ki 0)] (aI [.ev (.bin .lss .int y8 y7)]
 (.ite y9 (aI [.join 2 0 (aI [.ev (.aj 4 (.cell 0 y0) y8),
 .ev (.ld true 4 y1 y10),
 .aY (.bB 4 y11),
 .ev (.bin .gtr .int y8 (ki 0)),
 .chain false y12 (aI [.aY (.cell 1 y11),
 .aY (.cell 0 y0),
 .ev (.bin .sub .int y8 (ki 1)),
 .ev (.aj 4 (.cell 0 y0) y13),
 .aY (.ay 1 y14),
 .ev (.ld false 1 y1 (.ay 1 y14)),
 .ev (.bin .sub .int (.cell 1 y11) y15),
 .call 46 y1 [y16,(ki 0),(ki 1)] [true],
 .ev (.un .not y17)]
 (.ret y18)),
 .chain true y13 (aI [.aY (.cell 1 y11),
 .ev (.bin .geq .int (.cell 1 y11) (ki 6))]
 (.ret y14))]
 (.ite y14 (.ret (.aa (ki 2) (.aa y1 .ax))) (aI [.join 3 2 (aI [.ev (.bin .eql .int (.cell 0 y11) (ki 1)),
 .join 4 0 (.ite y15 (aI [.call 46 y1 [(.cell 2 y11),(ki 0),(ki 1440)] [true],
 .ev (.un .not y16)]
 (.ite y17 (.ret (.aa (ki 2) (.aa y1 .ax))) (.jump 4 [] []))) (aI [.ev (.bin .eql .int (.cell 0 y11) (ki 2))]
 (.ite y16 (aI [.ev (.bin .neq .int (.cell 2 y11) (ki 0)),
 .chain true y17 (aI [.aY (.cell 3 y11)]
 (.ret (.cell 3 y11)))]
 (.ite y18 (.ret (.aa (ki 2) (.aa y1 .ax))) (.jump 4 [] []))) (.ret (.aa (ki 2) (.aa y1 .ax))))))]
 (.jump 3 [y15,y15] []))]
 (.jump 2 [] [(.cell 0 y11),(.cell 0 y11),(.cell 1 y11),(.cell 2 y11),(.cell 3 y11)])))),
 .ev (.bin .add .int y8 (ki 1))]
 (.jump 1 [y10] [])) (.jump 0 [] [])))),
 .ev (.bz (.bt (.cell 2 y0)) (.bz (.bt (.cell 3 y0)) (.bz (.bt (.cell 8 y0)) (.const (.bq []))))),
 .call 47 y1 [y8,(ki 3),(ki 3),(ki 36000000)] [true],
 .ev (.un .not y9),
 .chain true y10 (aI [.aY (.cell 4 y0),
 .aY (.cell 5 y0),
 .ev (.bz (.bt (.cell 4 y0)) (.bz (.bt (.cell 5 y0)) (.const (.bq [])))),
 .call 47 y1 [y11,(ki 2),(ki 2),(ki 1440)] [true],
 .ev (.un .not y12)]
 (.ret y13)),
 .chain true y11 (aI [.aY (.cell 6 y0),
 .call 47 y1 [(.cell 6 y0),(ki 1),(ki 10),(ki 36000000)] [true],
 .ev (.un .not y12)]
 (.ret y13))]
 (.ite y12 (.ret (.aa (ki 2) (.aa y1 .ax))) (aI [.ev (.bin .lss .int (.cell 9 y0) (ki 1)),
 .chain true y13 (aI [.aY (.cell 9 y0),
 .ev (.bin .gtr .int (.cell 9 y0) (ki 4))]
 (.ret y14)),
 .chain true y14 (aI [.aY (.cell 10 y0),
 .call 46 y1 [(.cell 10 y0),(ki 100),(ki 1000)] [true],
 .ev (.un .not y15)]
 (.ret y16)),
 .chain true y15 (aI [.aY (.cell 12 y0),
 .call 47 y1 [(.cell 12 y0),(ki 0),(ki 60),(ki 1000)] [true],
 .ev (.un .not y16)]
 (.ret y17)),
 .chain true y16 (aI [.aY (.cell 13 y0),
 .call 47 y1 [(.cell 13 y0),(ki 0),(ki 60),(ki 1000)] [true],
 .ev (.un .not y17)]
 (.ret y18))]
 (.ite y17 (.ret (.aa (ki 2) (.aa y1 .ax))) (aI [.ev (.aR (.cell 0 y0)),
 .ev (.bin .sub .int y18 (ki 1)),
 .call 46 y1 [(.cell 11 y0),(ki (-1)),y19] [true],
 .ev (.un .not y20),
 .chain true y21 (aI [.aY (.cell 11 y0),
 .ev (.bin .geq .int (.cell 11 y0) (ki 0)),
 .chain false y22 (aI [.aY (.cell 0 y0),
 .aY (.cell 11 y0),
 .ev (.aj 4 (.cell 0 y0) (.cell 11 y0)),
 .aY (.ay 0 y23),
 .ev (.ld false 1 y1 (.ay 0 y23)),
 .ev (.bin .neq .int y24 (ki 2))]
 (.ret y25))]
 (.ret y23))]
 (.ite y22 (.ret (.aa (ki 2) (.aa y1 .ax))) (.ret (.aa (ki 0) (.aa y1 .ax)))))))))))
theorem akQ:cm Tryz.prog 18 .plain (bE true [] [] Tryz.f18) [false] u18:=cm.plain Tryz.func18 (by kernel_rfl) (by kernel_rfl)

noncomputable def u19:U:=(aI [.aY (.bB 14 y0),
 .aY (.bB 3 y1),
 .call 18 y2 [(fN 14 y0)] [true],
 .ev (.bin .neq .int y3 (ki 0)),
 .chain true y4 (aI [.aY (.cell 0 y1),
 .aY (.cell 1 y0),
 .ev (.bin .sub .int (.cell 1 y0) (ki 1)),
 .call 46 y2 [(.cell 0 y1),(ki 0),y5] [true],
 .ev (.un .not y6)]
 (.ret y7)),
 .chain true y5 (aI [.aY (.cell 2 y1),
 .ev (.aR (.cell 2 y1)),
 .aY (.cell 0 y0),
 .ev (.aR (.cell 0 y0)),
 .ev (.bin .neq .int y6 y7)]
 (.ret y8)),
 .chain true y6 (aI [.aY (.cell 1 y1),
 .ev (.aR (.cell 1 y1)),
 .aY (.cell 0 y0),
 .aY (.cell 0 y0),
 .ev (.aR (.cell 0 y0)),
 .ev (.bin .sub .int y8 (ki 1)),
 .ev (.aj 4 (.cell 0 y0) y9),
 .aY (.ay 1 y10),
 .ev (.ld false 1 y2 (.ay 1 y10)),
 .ev (.bin .add .int y11 (ki 1)),
 .ev (.bin .neq .int y7 y12)]
 (.ret y13)),
 .chain true y7 (aI [.aY (.cell 1 y1),
 .call 47 y2 [(.cell 1 y1),(ki 1),(ki 6),(ki 100000)] [true],
 .ev (.un .not y8)]
 (.ret y9))]
 (.ite y8 (.ret (.aa (ki 2) (.aa y2 .ax))) (aI [.ev (.aR (.cell 2 y1)),
 .join 0 0 (.loop 1 [(ki 0)] (aI [.ev (.bin .lss .int y10 y9)]
 (.ite y11 (aI [.join 2 0 (aI [.ev (.aj 4 (.cell 2 y1) y10),
 .ev (.ld true 4 y2 y12),
 .aY (.bB 4 y13),
 .ev (.bin .gtr .int y10 (ki 0)),
 .chain false y14 (aI [.aY (.cell 2 y1),
 .ev (.bin .sub .int y10 (ki 1)),
 .ev (.aj 4 (.cell 2 y1) y15),
 .aY (.ay 3 y16),
 .ev (.ld false 1 y2 (.ay 3 y16)),
 .ev (.bin .eql .int y17 (ki 2))]
 (.ret y18)),
 .chain false y15 (aI [.aY (.cell 0 y0),
 .ev (.bin .sub .int y10 (ki 1)),
 .ev (.aj 4 (.cell 0 y0) y16),
 .aY (.ay 1 y17),
 .ev (.ld false 1 y2 (.ay 1 y17)),
 .aY (.cell 0 y0),
 .ev (.aj 4 (.cell 0 y0) y10),
 .aY (.ay 1 y19),
 .ev (.ld false 1 y2 (.ay 1 y19)),
 .ev (.bin .eql .int y18 y20)]
 (.ret y21)),
 .ev (.aj 4 (.cell 0 y0) y10),
 .ev (.ld true 4 y2 y17),
 .call 48 y2 [y18,(fN 4 y13)] [true],
 .ev (.un .not y19),
 .chain true y20 (aI [.chain false y16 (aI [.aY (.cell 3 y13),
 .ev (.bin .neq .int (.cell 3 y13) (ki 2))]
 (.ret y21))]
 (.ret y21))]
 (.ite y21 (.ret (.aa (ki 2) (.aa y2 .ax))) (.jump 2 [] [(fN 4 y13),(.cell 0 y13),(.cell 1 y13),(.cell 2 y13),(.cell 3 y13)]))),
 .ev (.bin .add .int y10 (ki 1))]
 (.jump 1 [y12] [])) (.jump 0 [] []))))]
 (.ret (.aa (ki 0) (.aa y2 .ax))))))
theorem akP:cm Tryz.prog 19 .plain (bE true [] [] Tryz.f19) [false,false] u19:=cm.plain Tryz.func19 (by kernel_rfl) (by kernel_rfl)

noncomputable def u20:U:=(aI [.aY (.bB 14 y0),
 .ev (.aR (.cell 0 y0)),
 .call 49 y1 [y2,(ki 1),(ki 100)] [true],
 .ev (.un .not y3),
 .chain true y4 (aI [.aY (.cell 1 y0),
 .call 49 y1 [(.cell 1 y0),(ki 1),(ki 20)] [true],
 .ev (.un .not y5)]
 (.ret y6)),
 .chain true y5 (aI [.aY (.cell 0 y0),
 .ev (.aj 4 (.cell 0 y0) (ki 0)),
 .aY (.ay 1 y6),
 .ev (.ld false 1 y1 (.ay 1 y6)),
 .ev (.bin .neq .int y7 (ki 0))]
 (.ret y8))]
 (.ite y6 (.ret (.aa (kb false) (.aa y1 .ax))) (aI [.join 0 0 (.loop 1 [(ki 0)] (aI [.ev (.aR (.cell 0 y0)),
 .ev (.bin .lss .int y7 y8)]
 (.ite y9 (aI [.join 2 0 (aI [.ev (.aj 4 (.cell 0 y0) y7),
 .ev (.ld true 4 y1 y10),
 .aY (.bB 4 y11),
 .ev (.bin .gtr .int y7 (ki 0)),
 .chain false y12 (aI [.aY (.cell 1 y11),
 .aY (.cell 0 y0),
 .ev (.bin .sub .int y7 (ki 1)),
 .ev (.aj 4 (.cell 0 y0) y13),
 .aY (.ay 1 y14),
 .ev (.ld false 1 y1 (.ay 1 y14)),
 .ev (.bin .sub .int (.cell 1 y11) y15),
 .call 49 y1 [y16,(ki 0),(ki 1)] [true],
 .ev (.un .not y17)]
 (.ret y18)),
 .chain true y13 (aI [.aY (.cell 1 y11),
 .ev (.bin .geq .int (.cell 1 y11) (ki 6))]
 (.ret y14))]
 (.ite y14 (.ret (.aa (kb false) (.aa y1 .ax))) (aI [.ev (.bin .neq .int (.cell 0 y11) (ki 1)),
 .chain false y15 (aI [.aY (.cell 0 y11),
 .ev (.bin .neq .int (.cell 0 y11) (ki 2))]
 (.ret y16)),
 .chain true y16 (aI [.aY (.cell 0 y11),
 .ev (.bin .eql .int (.cell 0 y11) (ki 1)),
 .chain false y17 (aI [.aY (.cell 2 y11),
 .call 49 y1 [(.cell 2 y11),(ki 0),(ki 1440)] [true],
 .ev (.un .not y18)]
 (.ret y19))]
 (.ret y18)),
 .chain true y17 (aI [.aY (.cell 0 y11),
 .ev (.bin .eql .int (.cell 0 y11) (ki 2)),
 .chain false y18 (aI [.aY (.cell 2 y11),
 .ev (.bin .neq .int (.cell 2 y11) (ki 0)),
 .chain true y19 (aI [.aY (.cell 3 y11)]
 (.ret (.cell 3 y11)))]
 (.ret y20))]
 (.ret y19))]
 (.ite y18 (.ret (.aa (kb false) (.aa y1 .ax))) (.jump 2 [] [(.cell 0 y11),(.cell 0 y11),(.cell 1 y11),(.cell 2 y11),(.cell 3 y11)]))))),
 .ev (.bin .add .int y7 (ki 1))]
 (.jump 1 [y10] [])) (.jump 0 [] [])))),
 .call 49 y1 [(.cell 2 y0),(ki 0),(ki 36000000)] [true],
 .ev (.un .not y7),
 .chain true y8 (aI [.aY (.cell 3 y0),
 .call 49 y1 [(.cell 3 y0),(ki 0),(ki 36000000)] [true],
 .ev (.un .not y9)]
 (.ret y10)),
 .chain true y9 (aI [.aY (.cell 8 y0),
 .call 49 y1 [(.cell 8 y0),(ki 0),(ki 36000000)] [true],
 .ev (.un .not y10)]
 (.ret y11)),
 .chain true y10 (aI [.aY (.cell 4 y0),
 .call 49 y1 [(.cell 4 y0),(ki 0),(ki 1440)] [true],
 .ev (.un .not y11)]
 (.ret y12)),
 .chain true y11 (aI [.aY (.cell 5 y0),
 .call 49 y1 [(.cell 5 y0),(ki 0),(ki 1440)] [true],
 .ev (.un .not y12)]
 (.ret y13)),
 .chain true y12 (aI [.aY (.cell 6 y0),
 .call 50 y1 [(.cell 6 y0),(ki 1),(ki 10),(ki 0),(ki 36000000)] [true],
 .ev (.un .not y13)]
 (.ret y14))]
 (.ite y13 (.ret (.aa (kb false) (.aa y1 .ax))) (aI [.ev (.bin .lss .int (.cell 9 y0) (ki 1)),
 .chain true y14 (aI [.aY (.cell 9 y0),
 .ev (.bin .gtr .int (.cell 9 y0) (ki 4))]
 (.ret y15)),
 .chain true y15 (aI [.aY (.cell 10 y0),
 .call 49 y1 [(.cell 10 y0),(ki 100),(ki 1000)] [true],
 .ev (.un .not y16)]
 (.ret y17)),
 .chain true y16 (aI [.aY (.cell 11 y0),
 .aY (.cell 0 y0),
 .ev (.aR (.cell 0 y0)),
 .ev (.bin .sub .int y17 (ki 1)),
 .call 49 y1 [(.cell 11 y0),(ki (-1)),y18] [true],
 .ev (.un .not y19)]
 (.ret y20)),
 .chain true y17 (aI [.aY (.cell 11 y0),
 .ev (.bin .geq .int (.cell 11 y0) (ki 0)),
 .chain false y18 (aI [.aY (.cell 0 y0),
 .aY (.cell 11 y0),
 .ev (.aj 4 (.cell 0 y0) (.cell 11 y0)),
 .aY (.ay 0 y19),
 .ev (.ld false 1 y1 (.ay 0 y19)),
 .ev (.bin .neq .int y20 (ki 2))]
 (.ret y21))]
 (.ret y19))]
 (.ite y18 (.ret (.aa (kb false) (.aa y1 .ax))) (aI [.call 50 y1 [(.cell 12 y0),(ki 0),(ki 60),(ki 0),(ki 1000)] [true],
 .chain false y19 (aI [.aY (.cell 13 y0),
 .call 50 y1 [(.cell 13 y0),(ki 0),(ki 60),(ki 0),(ki 1000)] [true]]
 (.ret y20))]
 (.ret (.aa y20 (.aa y1 .ax))))))))))
theorem akO:cm Tryz.prog 20 .plain (bE true [] [] Tryz.f20) [false] u20:=cm.plain Tryz.func20 (by kernel_rfl) (by kernel_rfl)

noncomputable def u21:U:=(aI [.aY (.bB 14 y0),
 .aY (.bB 3 y1),
 .ev (.bin .sub .int (.cell 1 y0) (ki 1)),
 .call 49 y2 [(.cell 0 y1),(ki 0),y3] [true],
 .ev (.un .not y4),
 .chain true y5 (aI [.aY (.cell 1 y1),
 .call 51 y2 [(fN 14 y0)] [true],
 .call 51 y2 [(fN 14 y0)] [true],
 .call 50 y2 [(.cell 1 y1),y6,y7,(ki 0),(ki 100000)] [true],
 .ev (.un .not y8)]
 (.ret y9)),
 .chain true y6 (aI [.aY (.cell 2 y1),
 .ev (.aR (.cell 2 y1)),
 .aY (.cell 0 y0),
 .ev (.aR (.cell 0 y0)),
 .ev (.bin .neq .int y7 y8)]
 (.ret y9))]
 (.ite y7 (.ret (.aa (kb false) (.aa y2 .ax))) (aI [.join 0 0 (.loop 1 [(ki 0)] (aI [.ev (.aR (.cell 0 y0)),
 .ev (.bin .lss .int y8 y9)]
 (.ite y10 (aI [.join 2 0 (aI [.ev (.aj 4 (.cell 0 y0) y8),
 .ev (.ld true 4 y2 y11),
 .ev (.aj 4 (.cell 2 y1) y8),
 .ev (.ld true 4 y2 y13),
 .call 52 y2 [y12,y14] [true],
 .ev (.un .not y15)]
 (.ite y16 (.ret (.aa (kb false) (.aa y2 .ax))) (aI [.ev (.bin .gtr .int y8 (ki 0)),
 .chain false y17 (aI [.aY (.cell 0 y0),
 .ev (.aj 4 (.cell 0 y0) y8),
 .aY (.ay 1 y18),
 .ev (.ld false 1 y2 (.ay 1 y18)),
 .aY (.cell 0 y0),
 .ev (.bin .sub .int y8 (ki 1)),
 .ev (.aj 4 (.cell 0 y0) y20),
 .aY (.ay 1 y21),
 .ev (.ld false 1 y2 (.ay 1 y21)),
 .ev (.bin .eql .int y19 y22)]
 (.ret y23)),
 .chain false y18 (aI [.aY (.cell 2 y1),
 .ev (.bin .sub .int y8 (ki 1)),
 .ev (.aj 4 (.cell 2 y1) y19),
 .aY (.ay 3 y20),
 .ev (.ld false 1 y2 (.ay 3 y20)),
 .ev (.bin .eql .int y21 (ki 2))]
 (.ret y22)),
 .chain false y19 (aI [.aY (.cell 2 y1),
 .ev (.aj 4 (.cell 2 y1) y8),
 .aY (.ay 3 y20),
 .ev (.ld false 1 y2 (.ay 3 y20)),
 .ev (.bin .neq .int y21 (ki 2))]
 (.ret y22))]
 (.ite y20 (.ret (.aa (kb false) (.aa y2 .ax))) (.jump 2 [] []))))),
 .ev (.bin .add .int y8 (ki 1))]
 (.jump 1 [y11] [])) (.jump 0 [] []))))]
 (.ret (.aa (kb true) (.aa y2 .ax))))))
theorem akN:cm Tryz.prog 21 .plain (bE true [] [] Tryz.f21) [false,false] u21:=cm.plain Tryz.func21 (by kernel_rfl) (by kernel_rfl)

noncomputable def u46:U:=(aI [.ev (.bin .geq .int y0 y1),
 .chain false y4 (aI [.ev (.bin .leq .int y0 y2)]
 (.ret y5))]
 (.ret (.aa y5 (.aa y3 .ax))))
theorem akA:cm Tryz.prog 46 .plain (bE true [] [] Tryz.f46) [true,true,true] u46:=cm.plain Tryz.func46 (by kernel_rfl) (by kernel_rfl)

noncomputable def u47:U:=(aI [.ev (.gE (.cons (.bt y3) .nil)),
 .ev (.aR y0),
 .call 46 y4 [y6,y1,y2] [true],
 .chain false y7 (aI [.ev (.gV 100 .ax (.aa y5 .ax)),
 .call 99 y4 [y0,y8] [true],
 .ev (.un .not y9)]
 (.ret y10))]
 (.ret (.aa y8 (.aa y4 .ax))))
theorem akz:cm Tryz.prog 47 .plain (bE true [] [] Tryz.f47) [true,true,true,true] u47:=cm.plain Tryz.func47 (by kernel_rfl) (by kernel_rfl)

noncomputable def u48:U:=(aI [.aY (.bB 4 y0),
 .aY (.bB 4 y1),
 .call 46 y2 [(.cell 0 y1),(ki 0),(ki 100000)] [true],
 .ev (.un .not y3),
 .chain true y4 (aI [.aY (.cell 1 y1),
 .call 46 y2 [(.cell 1 y1),(ki 0),(ki 36000000)] [true],
 .ev (.un .not y5)]
 (.ret y6))]
 (.ite y5 (.ret (.aa (kb false) (.aa y2 .ax))) (aI [.ev (.bin .eql .int (.cell 0 y0) (ki 1)),
 .join 0 0 (aI [.ev (.bin .eql .int (.cell 3 y1) (ki 0))]
 (.ite y7 (aI [.chain false y6 (aI [.aY (.cell 1 y1),
 .ev (.bin .eql .int (.cell 1 y1) (ki 0))]
 (.ret y8)),
 .chain false y8 (aI [.aY (.cell 2 y1),
 .ev (.un .not (.cell 2 y1))]
 (.ret y9)),
 .chain true y9 (aI [.ev (.un .not y6),
 .chain false y10 (aI [.aY (.cell 1 y1),
 .ev (.bin .gtr .int (.cell 1 y1) (ki 0))]
 (.ret y11))]
 (.ret y11))]
 (.ret (.aa y10 (.aa y2 .ax)))) (aI [.ev (.bin .eql .int (.cell 3 y1) (ki 1))]
 (.ite y8 (aI [.ev (.un .not y6),
 .chain false y9 (aI [.aY (.cell 1 y1),
 .ev (.bin .eql .int (.cell 1 y1) (ki 0))]
 (.ret y10))]
 (.ret (.aa y10 (.aa y2 .ax)))) (aI [.ev (.bin .eql .int (.cell 3 y1) (ki 2))]
 (.ite y9 (aI [.ev (.bin .eql .int (.cell 0 y1) (ki 0)),
 .chain false y10 (aI [.aY (.cell 1 y1),
 .ev (.bin .eql .int (.cell 1 y1) (ki 0))]
 (.ret y11)),
 .chain false y11 (aI [.aY (.cell 2 y1),
 .ev (.un .not (.cell 2 y1))]
 (.ret y12))]
 (.ret (.aa y12 (.aa y2 .ax)))) (.jump 0 [] [])))))))]
 (.ret (.aa (kb false) (.aa y2 .ax))))))
theorem aky:cm Tryz.prog 48 .plain (bE true [] [] Tryz.f48) [false,false] u48:=cm.plain Tryz.func48 (by kernel_rfl) (by kernel_rfl)

noncomputable def u49:U:=(aI [.ev (.bin .geq .int y0 y1),
 .chain false y4 (aI [.ev (.bin .leq .int y0 y2)]
 (.ret y5))]
 (.ret (.aa y5 (.aa y3 .ax))))
theorem akx:cm Tryz.prog 49 .plain (bE true [] [] Tryz.f49) [true,true,true] u49:=cm.plain Tryz.func49 (by kernel_rfl) (by kernel_rfl)

noncomputable def u50:U:=(aI [.join 0 0 (.loop 1 [(ki 0)] (aI [.ev (.aR y0),
 .ev (.bin .lss .int y6 y7)]
 (.ite y8 (aI [.join 2 0 (aI [.ev (.aj 1 y0 y6),
 .ev (.ld false 1 y5 y9),
 .call 49 y5 [y10,y3,y4] [true],
 .ev (.un .not y11)]
 (.ite y12 (.ret (.aa (kb false) (.aa y5 .ax))) (.jump 2 [] []))),
 .ev (.bin .add .int y6 (ki 1))]
 (.jump 1 [y9] [])) (.jump 0 [] [])))),
 .ev (.aR y0),
 .call 49 y5 [y6,y1,y2] [true]]
 (.ret (.aa y7 (.aa y5 .ax))))
theorem akw:cm Tryz.prog 50 .plain (bE true [] [] Tryz.f50) [true,true,true,true,true] u50:=cm.plain Tryz.func50 (by kernel_rfl) (by kernel_rfl)

noncomputable def u51:U:=(aI [.aY (.bB 14 y0),
 .ev (.aR (.cell 0 y0)),
 .ev (.bin .sub .int y2 (ki 1)),
 .ev (.aj 4 (.cell 0 y0) y3),
 .aY (.ay 1 y4),
 .ev (.ld false 1 y1 (.ay 1 y4)),
 .ev (.bin .add .int y5 (ki 1))]
 (.ret (.aa y6 (.aa y1 .ax))))
theorem akv:cm Tryz.prog 51 .plain (bE true [] [] Tryz.f51) [false] u51:=cm.plain Tryz.func51 (by kernel_rfl) (by kernel_rfl)

noncomputable def u52:U:=(aI [.aY (.bB 4 y0),
 .aY (.bB 4 y1),
 .call 49 y2 [(.cell 0 y1),(ki 0),(ki 100000)] [true],
 .ev (.un .not y3),
 .chain true y4 (aI [.aY (.cell 1 y1),
 .call 49 y2 [(.cell 1 y1),(ki 0),(ki 36000000)] [true],
 .ev (.un .not y5)]
 (.ret y6)),
 .chain true y5 (aI [.aY (.cell 3 y1),
 .ev (.bin .lss .int (.cell 3 y1) (ki 0))]
 (.ret y6)),
 .chain true y6 (aI [.aY (.cell 3 y1),
 .ev (.bin .gtr .int (.cell 3 y1) (ki 2))]
 (.ret y7))]
 (.ite y7 (.ret (.aa (kb false) (.aa y2 .ax))) (aI [.ev (.bin .eql .int (.cell 0 y0) (ki 1)),
 .chain false y8 (aI [.aY (.cell 1 y1),
 .ev (.bin .neq .int (.cell 1 y1) (ki 0)),
 .chain true y9 (aI [.aY (.cell 2 y1)]
 (.ret (.cell 2 y1))),
 .chain true y10 (aI [.aY (.cell 3 y1),
 .ev (.bin .eql .int (.cell 3 y1) (ki 1))]
 (.ret y11))]
 (.ret y11))]
 (.ite y9 (.ret (.aa (kb false) (.aa y2 .ax))) (aI [.ev (.bin .eql .int (.cell 3 y1) (ki 2))]
 (.ite y10 (aI [.ev (.bin .eql .int (.cell 0 y1) (ki 0)),
 .chain false y11 (aI [.aY (.cell 1 y1),
 .ev (.bin .eql .int (.cell 1 y1) (ki 0))]
 (.ret y12)),
 .chain false y12 (aI [.aY (.cell 2 y1),
 .ev (.un .not (.cell 2 y1))]
 (.ret y13))]
 (.ret (.aa y13 (.aa y2 .ax)))) (aI [.ev (.bin .eql .int (.cell 3 y1) (ki 1))]
 (.ite y11 (aI [.ev (.bin .eql .int (.cell 1 y1) (ki 0))]
 (.ret (.aa y12 (.aa y2 .ax)))) (aI [.ev (.bin .eql .int (.cell 0 y0) (ki 1)),
 .chain true y12 (aI [.aY (.cell 1 y1),
 .ev (.bin .gtr .int (.cell 1 y1) (ki 0))]
 (.ret y13))]
 (.ret (.aa y13 (.aa y2 .ax))))))))))))
theorem aku:cm Tryz.prog 52 .plain (bE true [] [] Tryz.f52) [false,false] u52:=cm.plain Tryz.func52 (by kernel_rfl) (by kernel_rfl)

noncomputable def u99:U:=(aI [.call 126 y2 [y0,y1] [true],
 .ev (.bin .geq .int y3 (ki 0))]
 (.ret (.aa y4 (.aa y2 .ax))))
theorem aj5:cm Tryz.prog 99 .plain (bE true [] [] Tryz.f99) [true,true] u99:=cm.plain Tryz.func99 (by kernel_rfl) (by kernel_rfl)

noncomputable def adt:U:=(aI [.ev (.ld false 1 y2 y1),
 .call 46 y2 [y0,(ki 0),y3] [true],
 .ev (.un .not y4)]
 (.ret (.aa y5 (.aa y2 .ax))))
theorem ae7:cm Tryz.prog 100 .plain (bE true [] [] Tryz.f100) [true,true] adt:=cm.plain Tryz.func100 (by kernel_rfl) (by kernel_rfl)

noncomputable def ada:U:=(aI [.ev (.aR y0),
 .join 0 0 (.loop 1 [(ki 0)] (aI [.ev (.bin .lss .int y4 y3)]
 (.ite y5 (aI [.join 2 0 (aI [.ev (.aj 1 y0 y4),
 .ev (.ld false 1 y2 y6),
 .fu y1 y2 [y7] [true]]
 (.ite y8 (.ret (.aa y4 (.aa y2 .ax))) (.jump 2 [] []))),
 .ev (.bin .add .int y4 (ki 1))]
 (.jump 1 [y6] [])) (.jump 0 [] []))))]
 (.ret (.aa (ki (-1)) (.aa y2 .ax))))
theorem aeQ:cm Tryz.prog 126 .plain (bE true [] [] Tryz.f126) [true,true] ada:=cm.plain Tryz.func126 (by kernel_rfl) (by kernel_rfl)

end Go.Am.Sc

/-
 Plans and cards,as Lean structures,and which bX are as defined.
-/
namespace Go.Am.Sc

structure Item where
 kind:Int
 iy:Int
 target:Int
 free:Bool
deriving Inhabited,DecidableEq

structure aL where
 items:List Item
 dW:Int
 late:Int
 early:Int
 jW:Int
 jX:Int
 jumps:List Int
 ret:Bool
 mG:Int
 ez:Int
 jV:Int
 power:Int
 points:List Int
 extra:List Int

structure gL where
 minute:Int
 time:Int
 jump:Bool
 mark:Int
deriving Inhabited,DecidableEq

structure aS where
 cls:Int
 dH:List Int
 lines:List gL
deriving Inhabited

def gR (x lo hi:Int):Bool:=decide (lo≤x)&&decide (x≤hi)

theorem iG {x lo hi:Int}(h:gR x lo hi=true):lo≤x∧x≤hi:=by simpa[gR] using h
theorem uQ {x lo hi:Int}(h:lo≤x∧x≤hi):gR x lo hi=true:=by simpa[gR] using h
theorem aoz {x lo hi:Int}(h:gR x lo hi=false):x<lo∨hi<x:=by
 simp only[gR,Bool.and_eq_false_iff,decide_eq_false_iff_not] at h
 omega
theorem Ej {x lo hi:Int}(h:x<lo∨hi<x):gR x lo hi=false:=by
 simp only[gR,Bool.and_eq_false_iff,decide_eq_false_iff_not]
 omega

def fV (l:List Int)(least most lo hi:Int):Bool:=l.all (fun x=>gR x lo hi)&&gR l.length least most

namespace aL
variable (p:aL)
def it (i:Nat):Item:=p.items.getD i default
def n:Nat:=p.items.length
def yY (i:Nat):Bool:=(i==0||gR ((p.it i).iy-(p.it (i-1)).iy) 0 1)&&(decide ((p.it i).iy<6)&&((p.it i).kind==1&&gR (p.it i).target 0 1440||(p.it i).kind==2&&((p.it i).target==0&&!(p.it i).free)))
def og:Bool:=gR p.n 1 100&&(gR p.dW 1 20&&(p.it 0).iy==0)
def oN:Bool:=(List.range p.n).all p.yY
def iZ:Bool:=gR p.late 0 36000000&&(gR p.early 0 36000000&&(gR p.mG 0 36000000&&(gR p.jW 0 1440&&(gR p.jX 0 1440&&fV p.jumps 1 10 0 36000000))))
def kg:Bool:=(decide (1≤p.ez)&&decide (p.ez≤4))&&(gR p.jV 100 1000&&(gR p.power (-1) (p.n-1)&&(decide (p.power<0)||(p.it p.power.toNat).kind==2)))
def uA:Bool:=fV p.points 0 60 0 1000&&fV p.extra 0 60 0 1000
def ok:Bool:=p.og&&(p.oN&&(p.iZ&&(p.kg&&p.uA)))
end aL

def dQ (x:Item)(l:gL):Bool:=gR l.minute 0 100000&&(gR l.time 0 36000000&&(l.mark==0&&(x.kind==1&&(l.time==0&&!l.jump)||x.kind != 1&&decide (0<l.time))||(l.mark==1&&(x.kind != 1&&l.time==0)||l.mark==2&&(l.minute==0&&(l.time==0&&!l.jump)))))

def aS.ln (c:aS)(i:Nat):gL:=c.lines.getD i default

def aL.js (p:aL):Int:=(p.it (p.n-1)).iy+1

def AD (p:aL)(c:aS)(i:Nat):Bool:=dQ (p.it i) (c.ln i)&&!(i != 0&&((p.it i).iy==(p.it (i-1)).iy&&((c.ln (i-1)).mark==2&&(c.ln i).mark != 2)))

def fe (p:aL)(c:aS):Bool:=gR c.cls 0 (p.dW-1)&&(fV c.dH p.js p.js 0 100000&&(c.lines.length==p.n&&(List.range p.n).all (AD p c)))

variable {p:aL} {c:aS}

theorem aL.H6 (h:p.oN=true){i:Nat}(hi:i<p.n):p.yY i=true:=(List.all_eq_true.1 h) i (List.mem_range.2 hi)

theorem aL.vO {i:Nat}(hi:i<p.n)(h:p.yY i=false):p.oN=false:=by
 rw[aL.oN,List.all_eq_false]
 exact⟨i,List.mem_range.2 hi,by simp[h]⟩

theorem aL.K9 (h:∀i,i<p.n→p.yY i=true):p.oN=true:=List.all_eq_true.2 fun i hi=>h i (List.mem_range.1 hi)

theorem aL.Im (h0:(p.it 0).iy=0):∀{i:Nat},(∀k,k≤i→p.yY k=true)→0≤(p.it i).iy∧(p.it i).iy≤5
 | 0,h=>by omega
 | i+1,h=>by
  have ih:=aL.Im h0 (i:=i) fun k hk=>h k (by omega)
  have hs:=h (i+1) (Nat.le_refl _)
  simp only[aL.yY,Bool.and_eq_true,decide_eq_true_eq,Nat.add_sub_cancel,Bool.or_eq_true,beq_iff_eq] at hs
  obtain⟨h1,h2,_⟩:=hs
  rcases h1 with h1 | h1
  ·omega
  ·have:=iG h1
   omega

theorem aL.s6 {i:Nat}(h:i<p.n):p.items[i]? = some (p.it i):=by
 have h':i<p.items.length:=h
 simp[aL.it,List.getD,h']

theorem aS.nu {i:Nat}(h:i<c.lines.length):c.lines[i]? = some (c.ln i):=by
 simp[aS.ln,List.getD,h]

theorem ahy (a b lo hi:Int):fV [a,b] 2 2 lo hi=(gR a lo hi&&gR b lo hi):=by
 simp[fV,gR]
theorem ahx (a b c lo hi:Int):fV [a,b,c] 3 3 lo hi=(gR a lo hi&&(gR b lo hi&&gR c lo hi)):=by
 simp[fV,gR]

theorem QE {l:List Int}{k a b lo hi:Int}(h:(l.length:Int)=k)(hk:a≤k∧k≤b):fV l k k lo hi=fV l a b lo hi:=by
 unfold fV
 rw[uQ (x:=(l.length:Int)) (by omega),uQ (by omega)]
theorem YV {l:List Int}{k lo hi:Int}(h:(l.length:Int)≠k):fV l k k lo hi=false:=by
 unfold fV
 rw[Ej (x:=(l.length:Int)) (by omega),Bool.and_false]

theorem aL.nV (h:p.ok=true):p.og=true∧p.oN=true∧p.iZ=true∧p.kg=true∧p.uA=true:=by simpa[aL.ok] using h

theorem aL.gi (h:p.ok=true):(1≤p.n∧p.n≤100)∧(1≤p.dW∧p.dW≤20)∧(p.it 0).iy=0:=by
 have h:=(aL.nV h).1
 simp only[aL.og,Bool.and_eq_true,beq_iff_eq] at h
 have h1:=iG h.1
 exact⟨by omega,iG h.2.1,h.2.2⟩

theorem aL.qR (h:p.ok=true){i:Nat}(hi:i<p.n):0≤(p.it i).iy∧(p.it i).iy≤5:=aL.Im (aL.gi h).2.2 fun k hk=>aL.H6 (aL.nV h).2.1 (by omega)

theorem aL.yK (h:p.ok=true):1≤p.js∧p.js≤6:=by
 have:=aL.gi h
 have:=aL.qR h (i:=p.n-1) (by omega)
 unfold aL.js
 omega

theorem vN {i:Nat}(hi:i<p.n)(h:AD p c i=false):fe p c=false:=by
 have:(List.range p.n).all (AD p c)=false:=by
  rw[List.all_eq_false]
  exact⟨i,List.mem_range.2 hi,by simp[h]⟩
 simp[fe,this]

theorem D5 (h:∀i,i<p.n→AD p c i=true):(List.range p.n).all (AD p c)=true:=List.all_eq_true.2 fun i hi=>h i (List.mem_range.1 hi)

theorem aL.aot (h:p.og=false):p.ok=false:=by simp[aL.ok,h]
theorem aL.PX (h:p.oN=false):p.ok=false:=by simp[aL.ok,h]

end Go.Am.Sc

/-
 Plans and cards as data.
-/
namespace Go.Am.Sc

abbrev I (n:Int):D:=.v (.int .i64 n)
abbrev B (b:Bool):D:=.v (.bool b)
abbrev Is (l:List Int):D:=.bq (l.map I)
abbrev In (i:Nat):D:=I (i:Int)
abbrev Ix (l:List Nat):D:=.bq (l.map In)

def i64 (n:Int):Prop:=-9223372036854775808≤n∧n<9223372036854775808

theorem ofI {ds:List D}(h:jN (.int .i64) ds):∃n,ds=[I n]∧i64 n:=by
 simp only[jN] at h
 obtain⟨n,h,h1,h2⟩:=h
 refine⟨n,h,?_⟩
 simp[IntKind.min,IntKind.max,IntKind.bits,IntKind.signed] at h1 h2
 exact⟨h1,by omega⟩

theorem aex:∀{es:List D},(∀x,x∈es→jN (.int .i64) [x])→∃xs:List Int,es=xs.map I∧∀x,x∈xs→i64 x
 | [],_=>⟨[],rfl,by simp⟩
 | e :: es,h=>by
  obtain⟨n,hn,hb⟩:=ofI (h e (by simp))
  cases hn
  obtain⟨xs,rfl,hx⟩:=aex (es:=es) fun x hx=>h x (by simp[hx])
  exact⟨n :: xs,rfl,by simpa using⟨hb,hx⟩⟩

def Mu (l:List Int):Prop:=(∀x,x∈l→i64 x)∧l.length≤maxLen

theorem Rm {ds:List D}(h:jN (.sl (.int .i64)) ds):∃xs:List Int,ds=[Is xs]∧Mu xs:=by
 simp only[jN] at h
 obtain⟨es,rfl,hl,nL⟩:=h
 obtain⟨xs,rfl,hx⟩:=aex fun x hx=>by
  have:=(nL x hx).2 rfl
  simpa only[jN] using this
 exact⟨xs,rfl,hx,by simpa using hl⟩

def Item.cs (x:Item):List D:=[I x.kind,I x.iy,I x.target,B x.free]
def Item.d (x:Item):D:=.agg x.cs
def aL.cs (p:aL):List D:=[.bq (p.items.map Item.d),I p.dW,I p.late,I p.early,I p.jW,I p.jX,Is p.jumps,B p.ret,I p.mG,I p.ez,I p.jV,I p.power,Is p.points,Is p.extra]
def aL.d (p:aL):D:=.agg p.cs
def gL.cs (l:gL):List D:=[I l.minute,I l.time,B l.jump,I l.mark]
def gL.d (l:gL):D:=.agg l.cs
def aS.cs (c:aS):List D:=[I c.cls,Is c.dH,.bq (c.lines.map gL.d)]
def aS.d (c:aS):D:=.agg c.cs
abbrev dM (l:List aS):D:=.bq (l.map aS.d)

structure Item.Ok (x:Item):Prop where
 kind:i64 x.kind
 iy:i64 x.iy
 target:i64 x.target

structure aL.Ok (p:aL):Prop where
 items:∀x,x∈p.items→x.Ok
 UH:p.items.length≤maxLen
 dW:i64 p.dW
 late:i64 p.late
 early:i64 p.early
 jW:i64 p.jW
 jX:i64 p.jX
 jumps:Mu p.jumps
 mG:i64 p.mG
 ez:i64 p.ez
 jV:i64 p.jV
 power:i64 p.power
 points:Mu p.points
 extra:Mu p.extra

structure gL.Ok (l:gL):Prop where
 minute:i64 l.minute
 time:i64 l.time
 mark:i64 l.mark

structure aS.Ok (c:aS):Prop where
 cls:i64 c.cls
 dH:Mu c.dH
 lines:∀x,x∈c.lines→x.Ok
 Ux:c.lines.length≤maxLen

def Qbz (l:List aS):Prop:=(∀c,c∈l→c.Ok)∧l.length≤maxLen

def M5:Sh:=.st [.int .i64,.int .i64,.int .i64,.bool]
def PJ:Sh:=.st [.int .i64,.int .i64,.int .i64,.int .i64,.sl (.int .i64),.bool,.int .i64,.int .i64,.int .i64,.int .i64,.sl (.int .i64),.sl (.int .i64)]
def jA:Sh:=.st [.sl M5,.int .i64,PJ]
def M4:Sh:=.st [.int .i64,.int .i64,.bool,.int .i64]
def jb:Sh:=.st [.int .i64,.sl (.int .i64),.sl M4]

theorem cv {ds:List D}(h:∃n:Int,ds=[.v (.int .i64 n)]∧IntKind.i64.min≤n∧n≤IntKind.i64.max):∃n,ds=[I n]∧i64 n:=ofI (by simpa only[jN] using h)

theorem aax {cs:List D}(h:jN M5 cs):∃r:Item,.agg cs=r.d∧r.Ok:=by
 simp only[M5,jN,qb] at h
 obtain⟨_,_,rfl,h1,_,_,rfl,h2,_,_,rfl,h3,_,_,rfl,⟨b4,rfl⟩,rfl⟩:=h
 obtain⟨n1,rfl,b1⟩:=cv h1
 obtain⟨n2,rfl,b2⟩:=cv h2
 obtain⟨n3,rfl,b3⟩:=cv h3
 exact⟨⟨n1,n2,n3,b4⟩,rfl,⟨b1,b2,b3⟩⟩

theorem aaw {cs:List D}(h:jN M4 cs):∃r:gL,.agg cs=r.d∧r.Ok:=by
 simp only[M4,jN,qb] at h
 obtain⟨_,_,rfl,h1,_,_,rfl,h2,_,_,rfl,⟨b4,rfl⟩,_,_,rfl,h3,rfl⟩:=h
 obtain⟨n1,rfl,b1⟩:=cv h1
 obtain⟨n2,rfl,b2⟩:=cv h2
 obtain⟨n3,rfl,b3⟩:=cv h3
 exact⟨⟨n1,n2,b4,n3⟩,rfl,⟨b1,b2,b3⟩⟩

theorem PY {α:Type}{d:α→D}{sh:Sh}{ok:α→Prop}(hd:∀{cs:List D},jN sh cs→∃a:α,.agg cs=d a∧ok a):∀{es:List D},(∀x,x∈es→∃cs,x=.agg cs∧jN sh cs)→∃xs:List α,es=xs.map d∧∀a,a∈xs→ok a
 | [],_=>⟨[],rfl,by simp⟩
 | e :: es,h=>by
  obtain⟨cs,rfl,h1⟩:=h e (by simp)
  obtain⟨a,ha,ho⟩:=hd h1
  obtain⟨xs,rfl,hx⟩:=PY hd (es:=es) fun x hx=>h x (by simp[hx])
  exact⟨a :: xs,by rw[ha];rfl,by simpa using⟨ho,hx⟩⟩

theorem Ug {cs:List D}(h:jN jb cs):∃r:aS,.agg cs=r.d∧r.Ok:=by
 simp only[jb,jN,qb] at h
 obtain⟨_,_,rfl,h1,_,_,rfl,h2,_,_,rfl,h3,rfl⟩:=h
 obtain⟨n1,rfl,b1⟩:=cv h1
 obtain⟨xs,rfl,b2⟩:=Rm (by simpa only[jN] using h2)
 obtain⟨e3,rfl,l3,h3⟩:=h3
 obtain⟨ls,rfl,o3⟩:=PY (d:=gL.d) aaw fun x hx=>(h3 x hx).1 rfl
 exact⟨⟨n1,xs,ls⟩,rfl,⟨b1,b2,o3,by simpa using l3⟩⟩

theorem aav {cs:List D}(h:jN jA cs):∃r:aL,.agg cs=r.d∧r.Ok:=by
 simp only[jA,PJ,jN,qb] at h
 obtain⟨_,_,rfl,⟨e1,rfl,l1,h1⟩,_,_,rfl,h2,_,_,rfl,⟨_,_,rfl,h3,_,_,rfl,h4,_,_,rfl,h5,_,_,rfl,h6,_,_,rfl,h7,_,_,rfl,⟨b8,rfl⟩,_,_,rfl,h9,_,_,rfl,tV,_,_,rfl,VM,_,_,rfl,h12,_,_,rfl,h13,_,_,rfl,VK,rfl⟩,rfl⟩:=h
 obtain⟨xs,rfl,o1⟩:=PY (d:=Item.d) aax fun x hx=>(h1 x hx).1 rfl
 obtain⟨n2,rfl,b2⟩:=cv h2
 obtain⟨n3,rfl,b3⟩:=cv h3
 obtain⟨n4,rfl,b4⟩:=cv h4
 obtain⟨n5,rfl,b5⟩:=cv h5
 obtain⟨n6,rfl,b6⟩:=cv h6
 obtain⟨x7,rfl,b7⟩:=Rm (by simpa only[jN] using h7)
 obtain⟨n9,rfl,b9⟩:=cv h9
 obtain⟨n10,rfl,b10⟩:=cv tV
 obtain⟨n11,rfl,b11⟩:=cv VM
 obtain⟨n12,rfl,b12⟩:=cv h12
 obtain⟨x13,rfl,b13⟩:=Rm (by simpa only[jN] using h13)
 obtain⟨x14,rfl,b14⟩:=Rm (by simpa only[jN] using VK)
 exact⟨⟨xs,n2,n3,n4,n5,n6,x7,b8,n9,n10,n11,n12,x13,x14⟩,rfl,⟨o1,by simpa using l1,b2,b3,b4,b5,b6,b7,b9,b10,b11,b12,b13,b14⟩⟩

theorem Qcv {x:D}(h:zQ jA x):∃p:aL,x=p.d∧p.Ok:=by
 obtain⟨cs,rfl,hh⟩:=h.1 rfl
 exact aav hh

theorem sq {x:D}(h:zQ (.sl jb) x):∃l:List aS,x=dM l∧Qbz l:=by
 have h:=h.2 rfl
 simp only[jN] at h
 obtain⟨es,hx,hl,nL⟩:=h
 cases hx
 obtain⟨xs,rfl,ho⟩:=PY (d:=aS.d) Ug fun x hx=>(nL x hx).1 rfl
 exact⟨xs,rfl,ho,by simpa using hl⟩

end Go.Am.Sc
