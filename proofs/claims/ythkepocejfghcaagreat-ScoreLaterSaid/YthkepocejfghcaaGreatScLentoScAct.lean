/-
  Several texts, one behind the other.
-/
import Derived.Shelf.Small.Bits
import Derived.Shelf.Strconv.Itoa0
import Derived.Ground.Names2Prog
import Derived.Test.YthkepocejfghcaaGreatProg
import Derived.Test.YthkepocejfghcaaGreatAmFntoAmSt2
import Derived.Test.YthkepocejfghcaaGreatScTab
import Derived.Test.YthkepocejfghcaaGreatScCfg
set_option linter.unusedSimpArgs false
set_option linter.unusedVariables false
/-
 DERIVED: THE SHELF's CONTRACTS AT THIS DUMP,IN PLAIN WORDS (tools/lay-plain.mjs out of 'ScLen.lean',which tools/lay-shelf.mjs wrote): THE SAME DECLARATIONS UNDER THE SAME NAMES: 'import','namespace','open','def','theorem' AND NOTHING ELSE: no command of the shelf's: FOR A HAND-IN. Each laying: the table of numbers ('.._ren') and one theorem,a field a fact of the dump's own or the kernel's comparison;each contract: ONE APPLICATION.
-/
namespace Go.Proofs
open Go.Shelf
def Tryz.lays125_ren:Go.Shelf.Ren:=⟨fun | 125=>113 | 128=>136 | 129=>137 | n=>n,fun | 46=>134 | 3=>3 | 51=>157 | 53=>159 | 4=>4 | 5=>5 | 9=>9 | n=>n,fun | n=>n⟩
theorem Tryz.lays125:Go.Proofs.Lays.n125 Tryz.prog Tryz.lays125_ren:={
 mixed:=by kernel_rfl
 f125:=Tryz.func113.trans (congrArg some (by kernel_rfl))
 f128:=Tryz.func136.trans (congrArg some (by kernel_rfl))
 f129:=Tryz.func137.trans (congrArg some (by kernel_rfl))
 t3:=Tryz.underlying3
 a3:=Tryz.isAgg3
 z3:=Tryz.sizeOf3
 v3:=Tryz.zeroValue3
 t4:=Tryz.underlying4
 a4:=Tryz.isAgg4
 z4:=Tryz.sizeOf4
 v4:=Tryz.zeroValue4
 t5:=Tryz.underlying5
 a5:=Tryz.isAgg5
 z5:=Tryz.sizeOf5
 v5:=Tryz.zeroValue5
 t9:=Tryz.underlying9
 a9:=Tryz.isAgg9
 z9:=Tryz.sizeOf9
 v9:=Tryz.zeroValue9
 t46:=Tryz.underlying134
 a46:=Tryz.isAgg134
 z46:=Tryz.sizeOf134
 v46:=Tryz.zeroValue134
 t51:=Tryz.underlying157
 a51:=Tryz.isAgg157
 z51:=Tryz.sizeOf157
 v51:=Tryz.zeroValue157
 t53:=Tryz.underlying159
 a53:=Tryz.isAgg159
 z53:=Tryz.sizeOf159
 v53:=Tryz.zeroValue159 }
theorem Tryz.bits_Len (x:Int)(w:World)(h0:0≤x)(h1:x≤18446744073709551615) :
  Calls Tryz.prog 113 #[.int .u64 x] w fun e w'=>e=.returned (.int .i64 (Lib.bitLen x.toNat))∧w'=w:=Any.bits_Len Tryz.lays125 x w h0 h1
end Go.Proofs

/-
 What is known besides the texts.
-/
namespace Go.Am.Sc
open Go.Proofs

def lenOrc:Orc where
 R:=fun f st ds=>match st,ds with
  | .st _,[.v (.int .u64 (.ofNat n))]=>if f=113∧n≤64 then some (.ret (.v (.int .i64 (Lib.bitLen n)))) else none
  | _,_=>none
 W:=fun _ _ _=>none
 F:=fun _ _ _ _=>none
 I:=fun _ _ _ _ _=>none

theorem lenOrc_ok:OrcOk Tryz.prog lenOrc:=by
 refine⟨fun f st ds r h=>?_,fun _ _ _ _ _ h=>(by cases h),fun _ _ _ _ _ h=>(by cases h),fun _ _ _ _ _ _ _ h=>(by cases h)⟩
 simp only[lenOrc] at h
 split at h
 ·rename_i bs n
  split at h
  ·rename_i hc
   obtain⟨rfl,hn⟩:=hc
   cases h
   intro w S foot bs0 vs hb hst hhold hfl hS hvl hrd
   obtain⟨v,rfl⟩:∃v,vs=#[v]:=by
    obtain⟨l⟩:=vs
    simp at hvl
    obtain⟨v,rfl⟩:=List.length_eq_one_iff.1 hvl
    exact⟨v,rfl⟩
   have hv:=(hrd 0 v _ rfl rfl).v_eq
   subst hv
   refine(Tryz.bits_Len (n:Int) w (by omega) (by omega)).mono ?_
   rintro e w' ⟨rfl,rfl⟩
   exact⟨_,S,⟨rfl,.v rfl⟩,⟨⟨rfl,rfl,rfl,Nat.le_refl _,fun _ _=>rfl⟩,Nat.le_refl _⟩,Sets.le_refl _,rfl,fun _ _ h=>.inl h,hS⟩
  ·cases h
 ·cases h

end Go.Am.Sc

/-
 The chapter's examples answer as they say.
-/
namespace Go.Am.Sc
open Go.Proofs

noncomputable def e17o:Entry:={ f:=17,kn:=.plain,cf:=(scf true [] [] Tryz.f17),own:=true,ones:=[],t:=t17 }
theorem ok17o:EntOk Tryz.prog e17o:=EntOk.ofPlain Tryz.func17 (by kernel_rfl) (by kernel_rfl)

noncomputable def tabKn:Tab:=e17o :: tabKnown
theorem tabKn_ok:∀e,e∈tabKn→EntOk Tryz.prog e:=by
 intro e he
 rcases List.mem_cons.1 he with rfl | he
 ·exact ok17o
 ·exact tabKnown_ok e he

theorem known_spec (bs:List D):FSpecR Tryz.prog 17 (.st bs) [] (.v (.bool true)):=
 (runOrcB_ok (n:=200) tabKn_ok lenOrc_ok 30).R 17 (.st bs) [] _ (by kernel_rfl)

end Go.Am.Sc

/-
  Checks of plans and cards, as texts.
-/
namespace Go.Am.Sc
open Go.Proofs

noncomputable def u15 : U := (ups [.chk (.aggN 14 y0),
  .ev (.lenL (.cell 0 y0)),
  .ev (.bin .leq .int y2 (ki 12)),
  .chain false y3 (ups [.chk (.cell 6 y0),
  .ev (.lenL (.cell 6 y0)),
  .ev (.bin .leq .int y4 (ki 20))]
  (.ret y5)),
  .chain false y4 (ups [.chk (.cell 12 y0),
  .ev (.lenL (.cell 12 y0)),
  .ev (.bin .leq .int y5 (ki 80))]
  (.ret y6)),
  .chain false y5 (ups [.chk (.cell 13 y0),
  .ev (.lenL (.cell 13 y0)),
  .ev (.bin .leq .int y6 (ki 80))]
  (.ret y7))]
  (.ret (.tcons y6 (.tcons y1 .tnil))))
theorem ku15 : UOk Tryz.prog 15 .plain (scf true [] [] Tryz.f15) [false] u15 := UOk.plain Tryz.func15 (by kernel_rfl) (by kernel_rfl)

noncomputable def u16 : U := (ups [.join 0 0 (.loop 1 [(ki 0)] (ups [.ev (.lenL y0),
  .ev (.bin .lss .int y3 y4)]
  (.ite y5 (ups [.join 2 0 (ups [.ev (.eaddr 3 y0 y3),
  .chk (.padd 1 y6),
  .ev (.ld false 1 y2 (.padd 1 y6)),
  .ev (.lenL y7),
  .ev (.bin .gtr .int y8 (ki 12)),
  .chain true y9 (ups [.ev (.eaddr 3 y0 y3),
  .chk (.padd 2 y10),
  .ev (.ld false 1 y2 (.padd 2 y10)),
  .ev (.lenL y11),
  .ev (.bin .gtr .int y12 (ki 30))]
  (.ret y13))]
  (.ite y10 (.ret (.tcons (kb false) (.tcons y2 .tnil))) (.jump 2 [] []))),
  .ev (.bin .add .int y3 (ki 1))]
  (.jump 1 [y6] [])) (.jump 0 [] [])))),
  .ev (.lenL y0),
  .ev (.bin .leq .int y3 y1),
  .chain true y4 (ups [.ev (.lenL y0),
  .ev (.bin .gtr .int y5 (ki 200)),
  .chain false y6 (ups [.ev (.lenL y0),
  .ev (.bin .lss .int y7 (ki 300))]
  (.ret y8))]
  (.ret y7))]
  (.ret (.tcons y5 (.tcons y2 .tnil))))
theorem ku16 : UOk Tryz.prog 16 .plain (scf true [] [] Tryz.f16) [true, true] u16 := UOk.plain Tryz.func16 (by kernel_rfl) (by kernel_rfl)

noncomputable def u18 : U := (ups [.chk (.aggN 14 y0),
  .ev (.lenL (.cell 0 y0)),
  .call 46 y1 [y2, (ki 1), (ki 100)] [true],
  .ev (.un .not y3),
  .chain true y4 (ups [.chk (.cell 1 y0),
  .call 46 y1 [(.cell 1 y0), (ki 1), (ki 20)] [true],
  .ev (.un .not y5)]
  (.ret y6)),
  .chain true y5 (ups [.chk (.cell 0 y0),
  .ev (.eaddr 4 (.cell 0 y0) (ki 0)),
  .chk (.padd 1 y6),
  .ev (.ld false 1 y1 (.padd 1 y6)),
  .ev (.bin .neq .int y7 (ki 0))]
  (.ret y8))]
  (.ite y6 (.ret (.tcons (ki 2) (.tcons y1 .tnil))) (ups [.ev (.lenL (.cell 0 y0)),
  .join 0 0 (.loop 1 [(ki 0)] (ups [.ev (.bin .lss .int y8 y7)]
  (.ite y9 (ups [.join 2 0 (ups [.ev (.eaddr 4 (.cell 0 y0) y8),
  .ev (.ld true 4 y1 y10),
  .chk (.aggN 4 y11),
  .ev (.bin .gtr .int y8 (ki 0)),
  .chain false y12 (ups [.chk (.cell 1 y11),
  .chk (.cell 0 y0),
  .ev (.bin .sub .int y8 (ki 1)),
  .ev (.eaddr 4 (.cell 0 y0) y13),
  .chk (.padd 1 y14),
  .ev (.ld false 1 y1 (.padd 1 y14)),
  .ev (.bin .sub .int (.cell 1 y11) y15),
  .call 46 y1 [y16, (ki 0), (ki 1)] [true],
  .ev (.un .not y17)]
  (.ret y18)),
  .chain true y13 (ups [.chk (.cell 1 y11),
  .ev (.bin .geq .int (.cell 1 y11) (ki 6))]
  (.ret y14))]
  (.ite y14 (.ret (.tcons (ki 2) (.tcons y1 .tnil))) (ups [.join 3 2 (ups [.ev (.bin .eql .int (.cell 0 y11) (ki 1)),
  .join 4 0 (.ite y15 (ups [.call 46 y1 [(.cell 2 y11), (ki 0), (ki 1440)] [true],
  .ev (.un .not y16)]
  (.ite y17 (.ret (.tcons (ki 2) (.tcons y1 .tnil))) (.jump 4 [] []))) (ups [.ev (.bin .eql .int (.cell 0 y11) (ki 2))]
  (.ite y16 (ups [.ev (.bin .neq .int (.cell 2 y11) (ki 0)),
  .chain true y17 (ups [.chk (.cell 3 y11)]
  (.ret (.cell 3 y11)))]
  (.ite y18 (.ret (.tcons (ki 2) (.tcons y1 .tnil))) (.jump 4 [] []))) (.ret (.tcons (ki 2) (.tcons y1 .tnil))))))]
  (.jump 3 [y15, y15] []))]
  (.jump 2 [] [(.cell 0 y11), (.cell 0 y11), (.cell 1 y11), (.cell 2 y11), (.cell 3 y11)])))),
  .ev (.bin .add .int y8 (ki 1))]
  (.jump 1 [y10] [])) (.jump 0 [] [])))),
  .ev (.lcons (.scal (.cell 2 y0)) (.lcons (.scal (.cell 3 y0)) (.lcons (.scal (.cell 8 y0)) (.const (.lst []))))),
  .call 47 y1 [y8, (ki 3), (ki 3), (ki 36000000)] [true],
  .ev (.un .not y9),
  .chain true y10 (ups [.chk (.cell 4 y0),
  .chk (.cell 5 y0),
  .ev (.lcons (.scal (.cell 4 y0)) (.lcons (.scal (.cell 5 y0)) (.const (.lst [])))),
  .call 47 y1 [y11, (ki 2), (ki 2), (ki 1440)] [true],
  .ev (.un .not y12)]
  (.ret y13)),
  .chain true y11 (ups [.chk (.cell 6 y0),
  .call 47 y1 [(.cell 6 y0), (ki 1), (ki 10), (ki 36000000)] [true],
  .ev (.un .not y12)]
  (.ret y13))]
  (.ite y12 (.ret (.tcons (ki 2) (.tcons y1 .tnil))) (ups [.ev (.bin .lss .int (.cell 9 y0) (ki 1)),
  .chain true y13 (ups [.chk (.cell 9 y0),
  .ev (.bin .gtr .int (.cell 9 y0) (ki 4))]
  (.ret y14)),
  .chain true y14 (ups [.chk (.cell 10 y0),
  .call 46 y1 [(.cell 10 y0), (ki 100), (ki 1000)] [true],
  .ev (.un .not y15)]
  (.ret y16)),
  .chain true y15 (ups [.chk (.cell 12 y0),
  .call 47 y1 [(.cell 12 y0), (ki 0), (ki 60), (ki 1000)] [true],
  .ev (.un .not y16)]
  (.ret y17)),
  .chain true y16 (ups [.chk (.cell 13 y0),
  .call 47 y1 [(.cell 13 y0), (ki 0), (ki 60), (ki 1000)] [true],
  .ev (.un .not y17)]
  (.ret y18))]
  (.ite y17 (.ret (.tcons (ki 2) (.tcons y1 .tnil))) (ups [.ev (.lenL (.cell 0 y0)),
  .ev (.bin .sub .int y18 (ki 1)),
  .call 46 y1 [(.cell 11 y0), (ki (-1)), y19] [true],
  .ev (.un .not y20),
  .chain true y21 (ups [.chk (.cell 11 y0),
  .ev (.bin .geq .int (.cell 11 y0) (ki 0)),
  .chain false y22 (ups [.chk (.cell 0 y0),
  .chk (.cell 11 y0),
  .ev (.eaddr 4 (.cell 0 y0) (.cell 11 y0)),
  .chk (.padd 0 y23),
  .ev (.ld false 1 y1 (.padd 0 y23)),
  .ev (.bin .neq .int y24 (ki 2))]
  (.ret y25))]
  (.ret y23))]
  (.ite y22 (.ret (.tcons (ki 2) (.tcons y1 .tnil))) (.ret (.tcons (ki 0) (.tcons y1 .tnil)))))))))))
theorem ku18 : UOk Tryz.prog 18 .plain (scf true [] [] Tryz.f18) [false] u18 := UOk.plain Tryz.func18 (by kernel_rfl) (by kernel_rfl)

noncomputable def u19 : U := (ups [.chk (.aggN 14 y0),
  .chk (.aggN 3 y1),
  .call 18 y2 [(agc 14 y0)] [true],
  .ev (.bin .neq .int y3 (ki 0)),
  .chain true y4 (ups [.chk (.cell 0 y1),
  .chk (.cell 1 y0),
  .ev (.bin .sub .int (.cell 1 y0) (ki 1)),
  .call 46 y2 [(.cell 0 y1), (ki 0), y5] [true],
  .ev (.un .not y6)]
  (.ret y7)),
  .chain true y5 (ups [.chk (.cell 2 y1),
  .ev (.lenL (.cell 2 y1)),
  .chk (.cell 0 y0),
  .ev (.lenL (.cell 0 y0)),
  .ev (.bin .neq .int y6 y7)]
  (.ret y8)),
  .chain true y6 (ups [.chk (.cell 1 y1),
  .ev (.lenL (.cell 1 y1)),
  .chk (.cell 0 y0),
  .chk (.cell 0 y0),
  .ev (.lenL (.cell 0 y0)),
  .ev (.bin .sub .int y8 (ki 1)),
  .ev (.eaddr 4 (.cell 0 y0) y9),
  .chk (.padd 1 y10),
  .ev (.ld false 1 y2 (.padd 1 y10)),
  .ev (.bin .add .int y11 (ki 1)),
  .ev (.bin .neq .int y7 y12)]
  (.ret y13)),
  .chain true y7 (ups [.chk (.cell 1 y1),
  .call 47 y2 [(.cell 1 y1), (ki 1), (ki 6), (ki 100000)] [true],
  .ev (.un .not y8)]
  (.ret y9))]
  (.ite y8 (.ret (.tcons (ki 2) (.tcons y2 .tnil))) (ups [.ev (.lenL (.cell 2 y1)),
  .join 0 0 (.loop 1 [(ki 0)] (ups [.ev (.bin .lss .int y10 y9)]
  (.ite y11 (ups [.join 2 0 (ups [.ev (.eaddr 4 (.cell 2 y1) y10),
  .ev (.ld true 4 y2 y12),
  .chk (.aggN 4 y13),
  .ev (.bin .gtr .int y10 (ki 0)),
  .chain false y14 (ups [.chk (.cell 2 y1),
  .ev (.bin .sub .int y10 (ki 1)),
  .ev (.eaddr 4 (.cell 2 y1) y15),
  .chk (.padd 3 y16),
  .ev (.ld false 1 y2 (.padd 3 y16)),
  .ev (.bin .eql .int y17 (ki 2))]
  (.ret y18)),
  .chain false y15 (ups [.chk (.cell 0 y0),
  .ev (.bin .sub .int y10 (ki 1)),
  .ev (.eaddr 4 (.cell 0 y0) y16),
  .chk (.padd 1 y17),
  .ev (.ld false 1 y2 (.padd 1 y17)),
  .chk (.cell 0 y0),
  .ev (.eaddr 4 (.cell 0 y0) y10),
  .chk (.padd 1 y19),
  .ev (.ld false 1 y2 (.padd 1 y19)),
  .ev (.bin .eql .int y18 y20)]
  (.ret y21)),
  .ev (.eaddr 4 (.cell 0 y0) y10),
  .ev (.ld true 4 y2 y17),
  .call 48 y2 [y18, (agc 4 y13)] [true],
  .ev (.un .not y19),
  .chain true y20 (ups [.chain false y16 (ups [.chk (.cell 3 y13),
  .ev (.bin .neq .int (.cell 3 y13) (ki 2))]
  (.ret y21))]
  (.ret y21))]
  (.ite y21 (.ret (.tcons (ki 2) (.tcons y2 .tnil))) (.jump 2 [] [(agc 4 y13), (.cell 0 y13), (.cell 1 y13), (.cell 2 y13), (.cell 3 y13)]))),
  .ev (.bin .add .int y10 (ki 1))]
  (.jump 1 [y12] [])) (.jump 0 [] []))))]
  (.ret (.tcons (ki 0) (.tcons y2 .tnil))))))
theorem ku19 : UOk Tryz.prog 19 .plain (scf true [] [] Tryz.f19) [false, false] u19 := UOk.plain Tryz.func19 (by kernel_rfl) (by kernel_rfl)

noncomputable def u20 : U := (ups [.chk (.aggN 14 y0),
  .ev (.lenL (.cell 0 y0)),
  .call 49 y1 [y2, (ki 1), (ki 100)] [true],
  .ev (.un .not y3),
  .chain true y4 (ups [.chk (.cell 1 y0),
  .call 49 y1 [(.cell 1 y0), (ki 1), (ki 20)] [true],
  .ev (.un .not y5)]
  (.ret y6)),
  .chain true y5 (ups [.chk (.cell 0 y0),
  .ev (.eaddr 4 (.cell 0 y0) (ki 0)),
  .chk (.padd 1 y6),
  .ev (.ld false 1 y1 (.padd 1 y6)),
  .ev (.bin .neq .int y7 (ki 0))]
  (.ret y8))]
  (.ite y6 (.ret (.tcons (kb false) (.tcons y1 .tnil))) (ups [.join 0 0 (.loop 1 [(ki 0)] (ups [.ev (.lenL (.cell 0 y0)),
  .ev (.bin .lss .int y7 y8)]
  (.ite y9 (ups [.join 2 0 (ups [.ev (.eaddr 4 (.cell 0 y0) y7),
  .ev (.ld true 4 y1 y10),
  .chk (.aggN 4 y11),
  .ev (.bin .gtr .int y7 (ki 0)),
  .chain false y12 (ups [.chk (.cell 1 y11),
  .chk (.cell 0 y0),
  .ev (.bin .sub .int y7 (ki 1)),
  .ev (.eaddr 4 (.cell 0 y0) y13),
  .chk (.padd 1 y14),
  .ev (.ld false 1 y1 (.padd 1 y14)),
  .ev (.bin .sub .int (.cell 1 y11) y15),
  .call 49 y1 [y16, (ki 0), (ki 1)] [true],
  .ev (.un .not y17)]
  (.ret y18)),
  .chain true y13 (ups [.chk (.cell 1 y11),
  .ev (.bin .geq .int (.cell 1 y11) (ki 6))]
  (.ret y14))]
  (.ite y14 (.ret (.tcons (kb false) (.tcons y1 .tnil))) (ups [.ev (.bin .neq .int (.cell 0 y11) (ki 1)),
  .chain false y15 (ups [.chk (.cell 0 y11),
  .ev (.bin .neq .int (.cell 0 y11) (ki 2))]
  (.ret y16)),
  .chain true y16 (ups [.chk (.cell 0 y11),
  .ev (.bin .eql .int (.cell 0 y11) (ki 1)),
  .chain false y17 (ups [.chk (.cell 2 y11),
  .call 49 y1 [(.cell 2 y11), (ki 0), (ki 1440)] [true],
  .ev (.un .not y18)]
  (.ret y19))]
  (.ret y18)),
  .chain true y17 (ups [.chk (.cell 0 y11),
  .ev (.bin .eql .int (.cell 0 y11) (ki 2)),
  .chain false y18 (ups [.chk (.cell 2 y11),
  .ev (.bin .neq .int (.cell 2 y11) (ki 0)),
  .chain true y19 (ups [.chk (.cell 3 y11)]
  (.ret (.cell 3 y11)))]
  (.ret y20))]
  (.ret y19))]
  (.ite y18 (.ret (.tcons (kb false) (.tcons y1 .tnil))) (.jump 2 [] [(.cell 0 y11), (.cell 0 y11), (.cell 1 y11), (.cell 2 y11), (.cell 3 y11)]))))),
  .ev (.bin .add .int y7 (ki 1))]
  (.jump 1 [y10] [])) (.jump 0 [] [])))),
  .call 49 y1 [(.cell 2 y0), (ki 0), (ki 36000000)] [true],
  .ev (.un .not y7),
  .chain true y8 (ups [.chk (.cell 3 y0),
  .call 49 y1 [(.cell 3 y0), (ki 0), (ki 36000000)] [true],
  .ev (.un .not y9)]
  (.ret y10)),
  .chain true y9 (ups [.chk (.cell 8 y0),
  .call 49 y1 [(.cell 8 y0), (ki 0), (ki 36000000)] [true],
  .ev (.un .not y10)]
  (.ret y11)),
  .chain true y10 (ups [.chk (.cell 4 y0),
  .call 49 y1 [(.cell 4 y0), (ki 0), (ki 1440)] [true],
  .ev (.un .not y11)]
  (.ret y12)),
  .chain true y11 (ups [.chk (.cell 5 y0),
  .call 49 y1 [(.cell 5 y0), (ki 0), (ki 1440)] [true],
  .ev (.un .not y12)]
  (.ret y13)),
  .chain true y12 (ups [.chk (.cell 6 y0),
  .call 50 y1 [(.cell 6 y0), (ki 1), (ki 10), (ki 0), (ki 36000000)] [true],
  .ev (.un .not y13)]
  (.ret y14))]
  (.ite y13 (.ret (.tcons (kb false) (.tcons y1 .tnil))) (ups [.ev (.bin .lss .int (.cell 9 y0) (ki 1)),
  .chain true y14 (ups [.chk (.cell 9 y0),
  .ev (.bin .gtr .int (.cell 9 y0) (ki 4))]
  (.ret y15)),
  .chain true y15 (ups [.chk (.cell 10 y0),
  .call 49 y1 [(.cell 10 y0), (ki 100), (ki 1000)] [true],
  .ev (.un .not y16)]
  (.ret y17)),
  .chain true y16 (ups [.chk (.cell 11 y0),
  .chk (.cell 0 y0),
  .ev (.lenL (.cell 0 y0)),
  .ev (.bin .sub .int y17 (ki 1)),
  .call 49 y1 [(.cell 11 y0), (ki (-1)), y18] [true],
  .ev (.un .not y19)]
  (.ret y20)),
  .chain true y17 (ups [.chk (.cell 11 y0),
  .ev (.bin .geq .int (.cell 11 y0) (ki 0)),
  .chain false y18 (ups [.chk (.cell 0 y0),
  .chk (.cell 11 y0),
  .ev (.eaddr 4 (.cell 0 y0) (.cell 11 y0)),
  .chk (.padd 0 y19),
  .ev (.ld false 1 y1 (.padd 0 y19)),
  .ev (.bin .neq .int y20 (ki 2))]
  (.ret y21))]
  (.ret y19))]
  (.ite y18 (.ret (.tcons (kb false) (.tcons y1 .tnil))) (ups [.call 50 y1 [(.cell 12 y0), (ki 0), (ki 60), (ki 0), (ki 1000)] [true],
  .chain false y19 (ups [.chk (.cell 13 y0),
  .call 50 y1 [(.cell 13 y0), (ki 0), (ki 60), (ki 0), (ki 1000)] [true]]
  (.ret y20))]
  (.ret (.tcons y20 (.tcons y1 .tnil))))))))))
theorem ku20 : UOk Tryz.prog 20 .plain (scf true [] [] Tryz.f20) [false] u20 := UOk.plain Tryz.func20 (by kernel_rfl) (by kernel_rfl)

noncomputable def u21 : U := (ups [.chk (.aggN 14 y0),
  .chk (.aggN 3 y1),
  .ev (.bin .sub .int (.cell 1 y0) (ki 1)),
  .call 49 y2 [(.cell 0 y1), (ki 0), y3] [true],
  .ev (.un .not y4),
  .chain true y5 (ups [.chk (.cell 1 y1),
  .call 51 y2 [(agc 14 y0)] [true],
  .call 51 y2 [(agc 14 y0)] [true],
  .call 50 y2 [(.cell 1 y1), y6, y7, (ki 0), (ki 100000)] [true],
  .ev (.un .not y8)]
  (.ret y9)),
  .chain true y6 (ups [.chk (.cell 2 y1),
  .ev (.lenL (.cell 2 y1)),
  .chk (.cell 0 y0),
  .ev (.lenL (.cell 0 y0)),
  .ev (.bin .neq .int y7 y8)]
  (.ret y9))]
  (.ite y7 (.ret (.tcons (kb false) (.tcons y2 .tnil))) (ups [.join 0 0 (.loop 1 [(ki 0)] (ups [.ev (.lenL (.cell 0 y0)),
  .ev (.bin .lss .int y8 y9)]
  (.ite y10 (ups [.join 2 0 (ups [.ev (.eaddr 4 (.cell 0 y0) y8),
  .ev (.ld true 4 y2 y11),
  .ev (.eaddr 4 (.cell 2 y1) y8),
  .ev (.ld true 4 y2 y13),
  .call 52 y2 [y12, y14] [true],
  .ev (.un .not y15)]
  (.ite y16 (.ret (.tcons (kb false) (.tcons y2 .tnil))) (ups [.ev (.bin .gtr .int y8 (ki 0)),
  .chain false y17 (ups [.chk (.cell 0 y0),
  .ev (.eaddr 4 (.cell 0 y0) y8),
  .chk (.padd 1 y18),
  .ev (.ld false 1 y2 (.padd 1 y18)),
  .chk (.cell 0 y0),
  .ev (.bin .sub .int y8 (ki 1)),
  .ev (.eaddr 4 (.cell 0 y0) y20),
  .chk (.padd 1 y21),
  .ev (.ld false 1 y2 (.padd 1 y21)),
  .ev (.bin .eql .int y19 y22)]
  (.ret y23)),
  .chain false y18 (ups [.chk (.cell 2 y1),
  .ev (.bin .sub .int y8 (ki 1)),
  .ev (.eaddr 4 (.cell 2 y1) y19),
  .chk (.padd 3 y20),
  .ev (.ld false 1 y2 (.padd 3 y20)),
  .ev (.bin .eql .int y21 (ki 2))]
  (.ret y22)),
  .chain false y19 (ups [.chk (.cell 2 y1),
  .ev (.eaddr 4 (.cell 2 y1) y8),
  .chk (.padd 3 y20),
  .ev (.ld false 1 y2 (.padd 3 y20)),
  .ev (.bin .neq .int y21 (ki 2))]
  (.ret y22))]
  (.ite y20 (.ret (.tcons (kb false) (.tcons y2 .tnil))) (.jump 2 [] []))))),
  .ev (.bin .add .int y8 (ki 1))]
  (.jump 1 [y11] [])) (.jump 0 [] []))))]
  (.ret (.tcons (kb true) (.tcons y2 .tnil))))))
theorem ku21 : UOk Tryz.prog 21 .plain (scf true [] [] Tryz.f21) [false, false] u21 := UOk.plain Tryz.func21 (by kernel_rfl) (by kernel_rfl)

noncomputable def u46 : U := (ups [.ev (.bin .geq .int y0 y1),
  .chain false y4 (ups [.ev (.bin .leq .int y0 y2)]
  (.ret y5))]
  (.ret (.tcons y5 (.tcons y3 .tnil))))
theorem ku46 : UOk Tryz.prog 46 .plain (scf true [] [] Tryz.f46) [true, true, true] u46 := UOk.plain Tryz.func46 (by kernel_rfl) (by kernel_rfl)

noncomputable def u47 : U := (ups [.ev (.mkptr (.cons (.scal y3) .nil)),
  .ev (.lenL y0),
  .call 46 y4 [y6, y1, y2] [true],
  .chain false y7 (ups [.ev (.mkfn 100 .tnil (.tcons y5 .tnil)),
  .call 99 y4 [y0, y8] [true],
  .ev (.un .not y9)]
  (.ret y10))]
  (.ret (.tcons y8 (.tcons y4 .tnil))))
theorem ku47 : UOk Tryz.prog 47 .plain (scf true [] [] Tryz.f47) [true, true, true, true] u47 := UOk.plain Tryz.func47 (by kernel_rfl) (by kernel_rfl)

noncomputable def u48 : U := (ups [.chk (.aggN 4 y0),
  .chk (.aggN 4 y1),
  .call 46 y2 [(.cell 0 y1), (ki 0), (ki 100000)] [true],
  .ev (.un .not y3),
  .chain true y4 (ups [.chk (.cell 1 y1),
  .call 46 y2 [(.cell 1 y1), (ki 0), (ki 36000000)] [true],
  .ev (.un .not y5)]
  (.ret y6))]
  (.ite y5 (.ret (.tcons (kb false) (.tcons y2 .tnil))) (ups [.ev (.bin .eql .int (.cell 0 y0) (ki 1)),
  .join 0 0 (ups [.ev (.bin .eql .int (.cell 3 y1) (ki 0))]
  (.ite y7 (ups [.chain false y6 (ups [.chk (.cell 1 y1),
  .ev (.bin .eql .int (.cell 1 y1) (ki 0))]
  (.ret y8)),
  .chain false y8 (ups [.chk (.cell 2 y1),
  .ev (.un .not (.cell 2 y1))]
  (.ret y9)),
  .chain true y9 (ups [.ev (.un .not y6),
  .chain false y10 (ups [.chk (.cell 1 y1),
  .ev (.bin .gtr .int (.cell 1 y1) (ki 0))]
  (.ret y11))]
  (.ret y11))]
  (.ret (.tcons y10 (.tcons y2 .tnil)))) (ups [.ev (.bin .eql .int (.cell 3 y1) (ki 1))]
  (.ite y8 (ups [.ev (.un .not y6),
  .chain false y9 (ups [.chk (.cell 1 y1),
  .ev (.bin .eql .int (.cell 1 y1) (ki 0))]
  (.ret y10))]
  (.ret (.tcons y10 (.tcons y2 .tnil)))) (ups [.ev (.bin .eql .int (.cell 3 y1) (ki 2))]
  (.ite y9 (ups [.ev (.bin .eql .int (.cell 0 y1) (ki 0)),
  .chain false y10 (ups [.chk (.cell 1 y1),
  .ev (.bin .eql .int (.cell 1 y1) (ki 0))]
  (.ret y11)),
  .chain false y11 (ups [.chk (.cell 2 y1),
  .ev (.un .not (.cell 2 y1))]
  (.ret y12))]
  (.ret (.tcons y12 (.tcons y2 .tnil)))) (.jump 0 [] [])))))))]
  (.ret (.tcons (kb false) (.tcons y2 .tnil))))))
theorem ku48 : UOk Tryz.prog 48 .plain (scf true [] [] Tryz.f48) [false, false] u48 := UOk.plain Tryz.func48 (by kernel_rfl) (by kernel_rfl)

noncomputable def u49 : U := (ups [.ev (.bin .geq .int y0 y1),
  .chain false y4 (ups [.ev (.bin .leq .int y0 y2)]
  (.ret y5))]
  (.ret (.tcons y5 (.tcons y3 .tnil))))
theorem ku49 : UOk Tryz.prog 49 .plain (scf true [] [] Tryz.f49) [true, true, true] u49 := UOk.plain Tryz.func49 (by kernel_rfl) (by kernel_rfl)

noncomputable def u50 : U := (ups [.join 0 0 (.loop 1 [(ki 0)] (ups [.ev (.lenL y0),
  .ev (.bin .lss .int y6 y7)]
  (.ite y8 (ups [.join 2 0 (ups [.ev (.eaddr 1 y0 y6),
  .ev (.ld false 1 y5 y9),
  .call 49 y5 [y10, y3, y4] [true],
  .ev (.un .not y11)]
  (.ite y12 (.ret (.tcons (kb false) (.tcons y5 .tnil))) (.jump 2 [] []))),
  .ev (.bin .add .int y6 (ki 1))]
  (.jump 1 [y9] [])) (.jump 0 [] [])))),
  .ev (.lenL y0),
  .call 49 y5 [y6, y1, y2] [true]]
  (.ret (.tcons y7 (.tcons y5 .tnil))))
theorem ku50 : UOk Tryz.prog 50 .plain (scf true [] [] Tryz.f50) [true, true, true, true, true] u50 := UOk.plain Tryz.func50 (by kernel_rfl) (by kernel_rfl)

noncomputable def u51 : U := (ups [.chk (.aggN 14 y0),
  .ev (.lenL (.cell 0 y0)),
  .ev (.bin .sub .int y2 (ki 1)),
  .ev (.eaddr 4 (.cell 0 y0) y3),
  .chk (.padd 1 y4),
  .ev (.ld false 1 y1 (.padd 1 y4)),
  .ev (.bin .add .int y5 (ki 1))]
  (.ret (.tcons y6 (.tcons y1 .tnil))))
theorem ku51 : UOk Tryz.prog 51 .plain (scf true [] [] Tryz.f51) [false] u51 := UOk.plain Tryz.func51 (by kernel_rfl) (by kernel_rfl)

noncomputable def u52 : U := (ups [.chk (.aggN 4 y0),
  .chk (.aggN 4 y1),
  .call 49 y2 [(.cell 0 y1), (ki 0), (ki 100000)] [true],
  .ev (.un .not y3),
  .chain true y4 (ups [.chk (.cell 1 y1),
  .call 49 y2 [(.cell 1 y1), (ki 0), (ki 36000000)] [true],
  .ev (.un .not y5)]
  (.ret y6)),
  .chain true y5 (ups [.chk (.cell 3 y1),
  .ev (.bin .lss .int (.cell 3 y1) (ki 0))]
  (.ret y6)),
  .chain true y6 (ups [.chk (.cell 3 y1),
  .ev (.bin .gtr .int (.cell 3 y1) (ki 2))]
  (.ret y7))]
  (.ite y7 (.ret (.tcons (kb false) (.tcons y2 .tnil))) (ups [.ev (.bin .eql .int (.cell 0 y0) (ki 1)),
  .chain false y8 (ups [.chk (.cell 1 y1),
  .ev (.bin .neq .int (.cell 1 y1) (ki 0)),
  .chain true y9 (ups [.chk (.cell 2 y1)]
  (.ret (.cell 2 y1))),
  .chain true y10 (ups [.chk (.cell 3 y1),
  .ev (.bin .eql .int (.cell 3 y1) (ki 1))]
  (.ret y11))]
  (.ret y11))]
  (.ite y9 (.ret (.tcons (kb false) (.tcons y2 .tnil))) (ups [.ev (.bin .eql .int (.cell 3 y1) (ki 2))]
  (.ite y10 (ups [.ev (.bin .eql .int (.cell 0 y1) (ki 0)),
  .chain false y11 (ups [.chk (.cell 1 y1),
  .ev (.bin .eql .int (.cell 1 y1) (ki 0))]
  (.ret y12)),
  .chain false y12 (ups [.chk (.cell 2 y1),
  .ev (.un .not (.cell 2 y1))]
  (.ret y13))]
  (.ret (.tcons y13 (.tcons y2 .tnil)))) (ups [.ev (.bin .eql .int (.cell 3 y1) (ki 1))]
  (.ite y11 (ups [.ev (.bin .eql .int (.cell 1 y1) (ki 0))]
  (.ret (.tcons y12 (.tcons y2 .tnil)))) (ups [.ev (.bin .eql .int (.cell 0 y0) (ki 1)),
  .chain true y12 (ups [.chk (.cell 1 y1),
  .ev (.bin .gtr .int (.cell 1 y1) (ki 0))]
  (.ret y13))]
  (.ret (.tcons y13 (.tcons y2 .tnil))))))))))))
theorem ku52 : UOk Tryz.prog 52 .plain (scf true [] [] Tryz.f52) [false, false] u52 := UOk.plain Tryz.func52 (by kernel_rfl) (by kernel_rfl)

noncomputable def u99 : U := (ups [.call 126 y2 [y0, y1] [true],
  .ev (.bin .geq .int y3 (ki 0))]
  (.ret (.tcons y4 (.tcons y2 .tnil))))
theorem ku99 : UOk Tryz.prog 99 .plain (scf true [] [] Tryz.f99) [true, true] u99 := UOk.plain Tryz.func99 (by kernel_rfl) (by kernel_rfl)

noncomputable def u100 : U := (ups [.ev (.ld false 1 y2 y1),
  .call 46 y2 [y0, (ki 0), y3] [true],
  .ev (.un .not y4)]
  (.ret (.tcons y5 (.tcons y2 .tnil))))
theorem ku100 : UOk Tryz.prog 100 .plain (scf true [] [] Tryz.f100) [true, true] u100 := UOk.plain Tryz.func100 (by kernel_rfl) (by kernel_rfl)

noncomputable def u126 : U := (ups [.ev (.lenL y0),
  .join 0 0 (.loop 1 [(ki 0)] (ups [.ev (.bin .lss .int y4 y3)]
  (.ite y5 (ups [.join 2 0 (ups [.ev (.eaddr 1 y0 y4),
  .ev (.ld false 1 y2 y6),
  .callv y1 y2 [y7] [true]]
  (.ite y8 (.ret (.tcons y4 (.tcons y2 .tnil))) (.jump 2 [] []))),
  .ev (.bin .add .int y4 (ki 1))]
  (.jump 1 [y6] [])) (.jump 0 [] []))))]
  (.ret (.tcons (ki (-1)) (.tcons y2 .tnil))))
theorem ku126 : UOk Tryz.prog 126 .plain (scf true [] [] Tryz.f126) [true, true] u126 := UOk.plain Tryz.func126 (by kernel_rfl) (by kernel_rfl)

end Go.Am.Sc

/-
 Plans and cards,as Lean structures,and which ones are as defined.
-/
namespace Go.Am.Sc

structure Item where
 kind:Int
 leg:Int
 target:Int
 free:Bool
deriving Inhabited,DecidableEq

structure Plan where
 items:List Item
 classes:Int
 late:Int
 early:Int
 maxLate:Int
 legLate:Int
 jumps:List Int
 ret:Bool
 missed:Int
 notional:Int
 percent:Int
 power:Int
 points:List Int
 extra:List Int

structure Line where
 minute:Int
 time:Int
 jump:Bool
 mark:Int
deriving Inhabited,DecidableEq

structure Card where
 cls:Int
 starts:List Int
 lines:List Line
deriving Inhabited

def inR (x lo hi:Int):Bool:=decide (lo≤x)&&decide (x≤hi)

theorem inR_t {x lo hi:Int}(h:inR x lo hi=true):lo≤x∧x≤hi:=by simpa[inR] using h
theorem inR_i {x lo hi:Int}(h:lo≤x∧x≤hi):inR x lo hi=true:=by simpa[inR] using h
theorem inR_f {x lo hi:Int}(h:inR x lo hi=false):x<lo∨hi<x:=by
 simp only[inR,Bool.and_eq_false_iff,decide_eq_false_iff_not] at h
 omega
theorem inR_n {x lo hi:Int}(h:x<lo∨hi<x):inR x lo hi=false:=by
 simp only[inR,Bool.and_eq_false_iff,decide_eq_false_iff_not]
 omega

def allR (l:List Int)(least most lo hi:Int):Bool:=l.all (fun x=>inR x lo hi)&&inR l.length least most

namespace Plan
variable (p:Plan)
def it (i:Nat):Item:=p.items.getD i default
def n:Nat:=p.items.length
def itOk (i:Nat):Bool:=(i==0||inR ((p.it i).leg-(p.it (i-1)).leg) 0 1)&&(decide ((p.it i).leg<6)&&((p.it i).kind==1&&inR (p.it i).target 0 1440||(p.it i).kind==2&&((p.it i).target==0&&!(p.it i).free)))
def headOk:Bool:=inR p.n 1 100&&(inR p.classes 1 20&&(p.it 0).leg==0)
def itemsOk:Bool:=(List.range p.n).all p.itOk
def rulesOk:Bool:=inR p.late 0 36000000&&(inR p.early 0 36000000&&(inR p.missed 0 36000000&&(inR p.maxLate 0 1440&&(inR p.legLate 0 1440&&allR p.jumps 1 10 0 36000000))))
def moreOk:Bool:=(decide (1≤p.notional)&&decide (p.notional≤4))&&(inR p.percent 100 1000&&(inR p.power (-1) (p.n-1)&&(decide (p.power<0)||(p.it p.power.toNat).kind==2)))
def ptsOk:Bool:=allR p.points 0 60 0 1000&&allR p.extra 0 60 0 1000
def ok:Bool:=p.headOk&&(p.itemsOk&&(p.rulesOk&&(p.moreOk&&p.ptsOk)))
end Plan

def lineOk (x:Item)(l:Line):Bool:=inR l.minute 0 100000&&(inR l.time 0 36000000&&(l.mark==0&&(x.kind==1&&(l.time==0&&!l.jump)||x.kind != 1&&decide (0<l.time))||(l.mark==1&&(x.kind != 1&&l.time==0)||l.mark==2&&(l.minute==0&&(l.time==0&&!l.jump)))))

def Card.ln (c:Card)(i:Nat):Line:=c.lines.getD i default

def Plan.legs (p:Plan):Int:=(p.it (p.n-1)).leg+1

def lnOk (p:Plan)(c:Card)(i:Nat):Bool:=lineOk (p.it i) (c.ln i)&&!(i != 0&&((p.it i).leg==(p.it (i-1)).leg&&((c.ln (i-1)).mark==2&&(c.ln i).mark != 2)))

def cardOk (p:Plan)(c:Card):Bool:=inR c.cls 0 (p.classes-1)&&(allR c.starts p.legs p.legs 0 100000&&(c.lines.length==p.n&&(List.range p.n).all (lnOk p c)))

variable {p:Plan} {c:Card}

theorem Plan.ok_itOk (h:p.itemsOk=true){i:Nat}(hi:i<p.n):p.itOk i=true:=(List.all_eq_true.1 h) i (List.mem_range.2 hi)

theorem Plan.not_items {i:Nat}(hi:i<p.n)(h:p.itOk i=false):p.itemsOk=false:=by
 rw[Plan.itemsOk,List.all_eq_false]
 exact⟨i,List.mem_range.2 hi,by simp[h]⟩

theorem Plan.items_of (h:∀i,i<p.n→p.itOk i=true):p.itemsOk=true:=List.all_eq_true.2 fun i hi=>h i (List.mem_range.1 hi)

theorem Plan.leg_of (h0:(p.it 0).leg=0):∀{i:Nat},(∀k,k≤i→p.itOk k=true)→0≤(p.it i).leg∧(p.it i).leg≤5
 | 0,h=>by omega
 | i+1,h=>by
  have ih:=Plan.leg_of h0 (i:=i) fun k hk=>h k (by omega)
  have hs:=h (i+1) (Nat.le_refl _)
  simp only[Plan.itOk,Bool.and_eq_true,decide_eq_true_eq,Nat.add_sub_cancel,Bool.or_eq_true,beq_iff_eq] at hs
  obtain⟨h1,h2,_⟩:=hs
  rcases h1 with h1 | h1
  ·omega
  ·have:=inR_t h1
   omega

theorem Plan.it_getElem {i:Nat}(h:i<p.n):p.items[i]? = some (p.it i):=by
 have h':i<p.items.length:=h
 simp[Plan.it,List.getD,h']

theorem Card.ln_getElem {i:Nat}(h:i<c.lines.length):c.lines[i]? = some (c.ln i):=by
 simp[Card.ln,List.getD,h]

theorem allR2 (a b lo hi:Int):allR [a,b] 2 2 lo hi=(inR a lo hi&&inR b lo hi):=by
 simp[allR,inR]
theorem allR3 (a b c lo hi:Int):allR [a,b,c] 3 3 lo hi=(inR a lo hi&&(inR b lo hi&&inR c lo hi)):=by
 simp[allR,inR]

theorem allR_eq {l:List Int}{k a b lo hi:Int}(h:(l.length:Int)=k)(hk:a≤k∧k≤b):allR l k k lo hi=allR l a b lo hi:=by
 unfold allR
 rw[inR_i (x:=(l.length:Int)) (by omega),inR_i (by omega)]
theorem allR_ne {l:List Int}{k lo hi:Int}(h:(l.length:Int)≠k):allR l k k lo hi=false:=by
 unfold allR
 rw[inR_n (x:=(l.length:Int)) (by omega),Bool.and_false]

theorem Plan.ok_parts (h:p.ok=true):p.headOk=true∧p.itemsOk=true∧p.rulesOk=true∧p.moreOk=true∧p.ptsOk=true:=by simpa[Plan.ok] using h

theorem Plan.ok_head (h:p.ok=true):(1≤p.n∧p.n≤100)∧(1≤p.classes∧p.classes≤20)∧(p.it 0).leg=0:=by
 have h:=(Plan.ok_parts h).1
 simp only[Plan.headOk,Bool.and_eq_true,beq_iff_eq] at h
 have h1:=inR_t h.1
 exact⟨by omega,inR_t h.2.1,h.2.2⟩

theorem Plan.ok_leg (h:p.ok=true){i:Nat}(hi:i<p.n):0≤(p.it i).leg∧(p.it i).leg≤5:=Plan.leg_of (Plan.ok_head h).2.2 fun k hk=>Plan.ok_itOk (Plan.ok_parts h).2.1 (by omega)

theorem Plan.ok_legs (h:p.ok=true):1≤p.legs∧p.legs≤6:=by
 have:=Plan.ok_head h
 have:=Plan.ok_leg h (i:=p.n-1) (by omega)
 unfold Plan.legs
 omega

theorem not_lines {i:Nat}(hi:i<p.n)(h:lnOk p c i=false):cardOk p c=false:=by
 have:(List.range p.n).all (lnOk p c)=false:=by
  rw[List.all_eq_false]
  exact⟨i,List.mem_range.2 hi,by simp[h]⟩
 simp[cardOk,this]

theorem lines_of (h:∀i,i<p.n→lnOk p c i=true):(List.range p.n).all (lnOk p c)=true:=List.all_eq_true.2 fun i hi=>h i (List.mem_range.1 hi)

theorem Plan.ok_f1 (h:p.headOk=false):p.ok=false:=by simp[Plan.ok,h]
theorem Plan.ok_f2 (h:p.itemsOk=false):p.ok=false:=by simp[Plan.ok,h]

end Go.Am.Sc

/-
 Plans and cards as data.
-/
namespace Go.Am.Sc

abbrev I (n:Int):D:=.v (.int .i64 n)
abbrev B (b:Bool):D:=.v (.bool b)
abbrev Is (l:List Int):D:=.lst (l.map I)
abbrev In (i:Nat):D:=I (i:Int)
abbrev Ix (l:List Nat):D:=.lst (l.map In)

def i64 (n:Int):Prop:=-9223372036854775808≤n∧n<9223372036854775808

theorem ofI {ds:List D}(h:OfSh (.int .i64) ds):∃n,ds=[I n]∧i64 n:=by
 simp only[OfSh] at h
 obtain⟨n,h,h1,h2⟩:=h
 refine⟨n,h,?_⟩
 simp[IntKind.min,IntKind.max,IntKind.bits,IntKind.signed] at h1 h2
 exact⟨h1,by omega⟩

theorem ofIs:∀{es:List D},(∀x,x∈es→OfSh (.int .i64) [x])→∃xs:List Int,es=xs.map I∧∀x,x∈xs→i64 x
 | [],_=>⟨[],rfl,by simp⟩
 | e :: es,h=>by
  obtain⟨n,hn,hb⟩:=ofI (h e (by simp))
  cases hn
  obtain⟨xs,rfl,hx⟩:=ofIs (es:=es) fun x hx=>h x (by simp[hx])
  exact⟨n :: xs,rfl,by simpa using⟨hb,hx⟩⟩

def IsOk (l:List Int):Prop:=(∀x,x∈l→i64 x)∧l.length≤maxLen

theorem ofSl {ds:List D}(h:OfSh (.sl (.int .i64)) ds):∃xs:List Int,ds=[Is xs]∧IsOk xs:=by
 simp only[OfSh] at h
 obtain⟨es,rfl,hl,hes⟩:=h
 obtain⟨xs,rfl,hx⟩:=ofIs fun x hx=>by
  have:=(hes x hx).2 rfl
  simpa only[OfSh] using this
 exact⟨xs,rfl,hx,by simpa using hl⟩

def Item.cs (x:Item):List D:=[I x.kind,I x.leg,I x.target,B x.free]
def Item.d (x:Item):D:=.agg x.cs
def Plan.cs (p:Plan):List D:=[.lst (p.items.map Item.d),I p.classes,I p.late,I p.early,I p.maxLate,I p.legLate,Is p.jumps,B p.ret,I p.missed,I p.notional,I p.percent,I p.power,Is p.points,Is p.extra]
def Plan.d (p:Plan):D:=.agg p.cs
def Line.cs (l:Line):List D:=[I l.minute,I l.time,B l.jump,I l.mark]
def Line.d (l:Line):D:=.agg l.cs
def Card.cs (c:Card):List D:=[I c.cls,Is c.starts,.lst (c.lines.map Line.d)]
def Card.d (c:Card):D:=.agg c.cs
abbrev Cards (l:List Card):D:=.lst (l.map Card.d)

structure Item.Ok (x:Item):Prop where
 kind:i64 x.kind
 leg:i64 x.leg
 target:i64 x.target

structure Plan.Ok (p:Plan):Prop where
 items:∀x,x∈p.items→x.Ok
 itemsL:p.items.length≤maxLen
 classes:i64 p.classes
 late:i64 p.late
 early:i64 p.early
 maxLate:i64 p.maxLate
 legLate:i64 p.legLate
 jumps:IsOk p.jumps
 missed:i64 p.missed
 notional:i64 p.notional
 percent:i64 p.percent
 power:i64 p.power
 points:IsOk p.points
 extra:IsOk p.extra

structure Line.Ok (l:Line):Prop where
 minute:i64 l.minute
 time:i64 l.time
 mark:i64 l.mark

structure Card.Ok (c:Card):Prop where
 cls:i64 c.cls
 starts:IsOk c.starts
 lines:∀x,x∈c.lines→x.Ok
 linesL:c.lines.length≤maxLen

def CardsOk (l:List Card):Prop:=(∀c,c∈l→c.Ok)∧l.length≤maxLen

def shItem:Sh:=.st [.int .i64,.int .i64,.int .i64,.bool]
def shRules:Sh:=.st [.int .i64,.int .i64,.int .i64,.int .i64,.sl (.int .i64),.bool,.int .i64,.int .i64,.int .i64,.int .i64,.sl (.int .i64),.sl (.int .i64)]
def shPlan:Sh:=.st [.sl shItem,.int .i64,shRules]
def shLine:Sh:=.st [.int .i64,.int .i64,.bool,.int .i64]
def shCard:Sh:=.st [.int .i64,.sl (.int .i64),.sl shLine]

theorem cv {ds:List D}(h:∃n:Int,ds=[.v (.int .i64 n)]∧IntKind.i64.min≤n∧n≤IntKind.i64.max):∃n,ds=[I n]∧i64 n:=ofI (by simpa only[OfSh] using h)

theorem ofItem {cs:List D}(h:OfSh shItem cs):∃r:Item,.agg cs=r.d∧r.Ok:=by
 simp only[shItem,OfSh,OfAll] at h
 obtain⟨_,_,rfl,h1,_,_,rfl,h2,_,_,rfl,h3,_,_,rfl,⟨b4,rfl⟩,rfl⟩:=h
 obtain⟨n1,rfl,b1⟩:=cv h1
 obtain⟨n2,rfl,b2⟩:=cv h2
 obtain⟨n3,rfl,b3⟩:=cv h3
 exact⟨⟨n1,n2,n3,b4⟩,rfl,⟨b1,b2,b3⟩⟩

theorem ofLine {cs:List D}(h:OfSh shLine cs):∃r:Line,.agg cs=r.d∧r.Ok:=by
 simp only[shLine,OfSh,OfAll] at h
 obtain⟨_,_,rfl,h1,_,_,rfl,h2,_,_,rfl,⟨b4,rfl⟩,_,_,rfl,h3,rfl⟩:=h
 obtain⟨n1,rfl,b1⟩:=cv h1
 obtain⟨n2,rfl,b2⟩:=cv h2
 obtain⟨n3,rfl,b3⟩:=cv h3
 exact⟨⟨n1,n2,b4,n3⟩,rfl,⟨b1,b2,b3⟩⟩

theorem ofAll {α:Type}{d:α→D}{sh:Sh}{ok:α→Prop}(hd:∀{cs:List D},OfSh sh cs→∃a:α,.agg cs=d a∧ok a):∀{es:List D},(∀x,x∈es→∃cs,x=.agg cs∧OfSh sh cs)→∃xs:List α,es=xs.map d∧∀a,a∈xs→ok a
 | [],_=>⟨[],rfl,by simp⟩
 | e :: es,h=>by
  obtain⟨cs,rfl,h1⟩:=h e (by simp)
  obtain⟨a,ha,ho⟩:=hd h1
  obtain⟨xs,rfl,hx⟩:=ofAll hd (es:=es) fun x hx=>h x (by simp[hx])
  exact⟨a :: xs,by rw[ha];rfl,by simpa using⟨ho,hx⟩⟩

theorem ofCard {cs:List D}(h:OfSh shCard cs):∃r:Card,.agg cs=r.d∧r.Ok:=by
 simp only[shCard,OfSh,OfAll] at h
 obtain⟨_,_,rfl,h1,_,_,rfl,h2,_,_,rfl,h3,rfl⟩:=h
 obtain⟨n1,rfl,b1⟩:=cv h1
 obtain⟨xs,rfl,b2⟩:=ofSl (by simpa only[OfSh] using h2)
 obtain⟨e3,rfl,l3,h3⟩:=h3
 obtain⟨ls,rfl,o3⟩:=ofAll (d:=Line.d) ofLine fun x hx=>(h3 x hx).1 rfl
 exact⟨⟨n1,xs,ls⟩,rfl,⟨b1,b2,o3,by simpa using l3⟩⟩

theorem ofPlan {cs:List D}(h:OfSh shPlan cs):∃r:Plan,.agg cs=r.d∧r.Ok:=by
 simp only[shPlan,shRules,OfSh,OfAll] at h
 obtain⟨_,_,rfl,⟨e1,rfl,l1,h1⟩,_,_,rfl,h2,_,_,rfl,⟨_,_,rfl,h3,_,_,rfl,h4,_,_,rfl,h5,_,_,rfl,h6,_,_,rfl,h7,_,_,rfl,⟨b8,rfl⟩,_,_,rfl,h9,_,_,rfl,h10,_,_,rfl,h11,_,_,rfl,h12,_,_,rfl,h13,_,_,rfl,h14,rfl⟩,rfl⟩:=h
 obtain⟨xs,rfl,o1⟩:=ofAll (d:=Item.d) ofItem fun x hx=>(h1 x hx).1 rfl
 obtain⟨n2,rfl,b2⟩:=cv h2
 obtain⟨n3,rfl,b3⟩:=cv h3
 obtain⟨n4,rfl,b4⟩:=cv h4
 obtain⟨n5,rfl,b5⟩:=cv h5
 obtain⟨n6,rfl,b6⟩:=cv h6
 obtain⟨x7,rfl,b7⟩:=ofSl (by simpa only[OfSh] using h7)
 obtain⟨n9,rfl,b9⟩:=cv h9
 obtain⟨n10,rfl,b10⟩:=cv h10
 obtain⟨n11,rfl,b11⟩:=cv h11
 obtain⟨n12,rfl,b12⟩:=cv h12
 obtain⟨x13,rfl,b13⟩:=ofSl (by simpa only[OfSh] using h13)
 obtain⟨x14,rfl,b14⟩:=ofSl (by simpa only[OfSh] using h14)
 exact⟨⟨xs,n2,n3,n4,n5,n6,x7,b8,n9,n10,n11,n12,x13,x14⟩,rfl,⟨o1,by simpa using l1,b2,b3,b4,b5,b6,b7,b9,b10,b11,b12,b13,b14⟩⟩

theorem argInt {x:D}(h:ArgSh (.int .i64) x):∃n,x=I n∧i64 n:=by
 obtain⟨n,hn,hb⟩:=ofI (h.2 rfl)
 cases hn
 exact⟨n,rfl,hb⟩

theorem argPlan {x:D}(h:ArgSh shPlan x):∃p:Plan,x=p.d∧p.Ok:=by
 obtain⟨cs,rfl,hh⟩:=h.1 rfl
 exact ofPlan hh

theorem argCards {x:D}(h:ArgSh (.sl shCard) x):∃l:List Card,x=Cards l∧CardsOk l:=by
 have h:=h.2 rfl
 simp only[OfSh] at h
 obtain⟨es,hx,hl,hes⟩:=h
 cases hx
 obtain⟨xs,rfl,ho⟩:=ofAll (d:=Card.d) ofCard fun x hx=>(hes x hx).1 rfl
 exact⟨xs,rfl,ho,by simpa using hl⟩

end Go.Am.Sc
