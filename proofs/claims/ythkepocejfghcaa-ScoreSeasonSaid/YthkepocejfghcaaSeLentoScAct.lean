/-
  Several texts, one behind the other.
-/
import Derived.Shelf.Small.Bits
import Derived.Shelf.Strconv.Itoa0
import Derived.Ground.Names2Prog
import Derived.Test.YthkepocejfghcaaProg
import Derived.Test.YthkepocejfghcaaAmFntoAmSt2
import Derived.Test.YthkepocejfghcaaSeTab
import Derived.Test.YthkepocejfghcaaSeCfg
set_option linter.unusedSimpArgs false
set_option linter.unusedVariables false
/-
 DERIVED: THE SHELF's CONTRACTS AT THIS DUMP,IN PLAIN WORDS (tools/lay-plain.mjs out of 'SeLen.lean',which tools/lay-shelf.mjs wrote): THE SAME DECLARATIONS UNDER THE SAME NAMES: 'import','namespace','open','def','theorem' AND NOTHING ELSE: no command of the shelf's: FOR A HAND-IN. Each laying: the table of numbers ('.._ren') and one theorem,a field a fact of the dump's own or the kernel's comparison;each contract: ONE APPLICATION.
-/
namespace Go.Proofs
open Go.Shelf
def Try.lays125_ren:Go.Shelf.Ren:=⟨fun | 125=>47 | 128=>74 | 129=>75 | n=>n,fun | 46=>84 | 3=>3 | 51=>107 | 53=>109 | 4=>4 | 5=>5 | 9=>9 | n=>n,fun | n=>n⟩
theorem Try.lays125:Go.Proofs.Lays.n125 Try.prog Try.lays125_ren:={
 mixed:=by kernel_rfl
 f125:=Try.func47.trans (congrArg some (by kernel_rfl))
 f128:=Try.func74.trans (congrArg some (by kernel_rfl))
 f129:=Try.func75.trans (congrArg some (by kernel_rfl))
 t3:=Try.underlying3
 a3:=Try.isAgg3
 z3:=Try.sizeOf3
 v3:=Try.zeroValue3
 t4:=Try.underlying4
 a4:=Try.isAgg4
 z4:=Try.sizeOf4
 v4:=Try.zeroValue4
 t5:=Try.underlying5
 a5:=Try.isAgg5
 z5:=Try.sizeOf5
 v5:=Try.zeroValue5
 t9:=Try.underlying9
 a9:=Try.isAgg9
 z9:=Try.sizeOf9
 v9:=Try.zeroValue9
 t46:=Try.underlying84
 a46:=Try.isAgg84
 z46:=Try.sizeOf84
 v46:=Try.zeroValue84
 t51:=Try.underlying107
 a51:=Try.isAgg107
 z51:=Try.sizeOf107
 v51:=Try.zeroValue107
 t53:=Try.underlying109
 a53:=Try.isAgg109
 z53:=Try.sizeOf109
 v53:=Try.zeroValue109 }
theorem Try.bits_Len (x:Int)(w:World)(h0:0≤x)(h1:x≤18446744073709551615) :
  Calls Try.prog 47 #[.int .u64 x] w fun e w'=>e=.returned (.int .i64 (Lib.bitLen x.toNat))∧w'=w:=Any.bits_Len Try.lays125 x w h0 h1
end Go.Proofs

/-
 What is known besides the texts.
-/
namespace Go.Am.Sc
open Go.Proofs

def lenOrc:Orc where
 R:=fun f st ds=>match st,ds with
  | .st _,[.v (.int .u64 (.ofNat n))]=>if f=47∧n≤64 then some (.ret (.v (.int .i64 (Lib.bitLen n)))) else none
  | _,_=>none
 W:=fun _ _ _=>none
 F:=fun _ _ _ _=>none
 I:=fun _ _ _ _ _=>none

theorem lenOrc_ok:OrcOk Try.prog lenOrc:=by
 refine⟨fun f st ds r h=>?_,fun _ _ _ _ _ h=>(by cases h),fun _ _ _ _ _ h=>(by cases h),fun _ _ _ _ _ _ _ h=>(by cases h)⟩
 simp only[lenOrc] at h
 split at h
 ·rename_i bs n
  split at h
  ·rename_i hc
   obtain⟨rfl,hn⟩:=hc
   cases h
   intro w S foot bs0 vs hb hst hhold hfl hS hvl hrd
   obtain⟨v,rfl⟩:∃v,vs=#[v]:=by
    obtain⟨l⟩:=vs
    simp at hvl
    obtain⟨v,rfl⟩:=List.length_eq_one_iff.1 hvl
    exact⟨v,rfl⟩
   have hv:=(hrd 0 v _ rfl rfl).v_eq
   subst hv
   refine(Try.bits_Len (n:Int) w (by omega) (by omega)).mono ?_
   rintro e w' ⟨rfl,rfl⟩
   exact⟨_,S,⟨rfl,.v rfl⟩,⟨⟨rfl,rfl,rfl,Nat.le_refl _,fun _ _=>rfl⟩,Nat.le_refl _⟩,Sets.le_refl _,rfl,fun _ _ h=>.inl h,hS⟩
  ·cases h
 ·cases h

end Go.Am.Sc

/-
 The chapter's examples answer as they say.
-/
namespace Go.Am.Sc
open Go.Proofs

noncomputable def e17o:Entry:={ f:=5,kn:=.plain,cf:=(scf true [] [] Try.f5),own:=true,ones:=[],t:=t5 }
theorem ok17o:EntOk Try.prog e17o:=EntOk.ofPlain Try.func5 (by kernel_rfl) (by kernel_rfl)

noncomputable def tabKn:Tab:=e17o :: tabKnown
theorem tabKn_ok:∀e,e∈tabKn→EntOk Try.prog e:=by
 intro e he
 rcases List.mem_cons.1 he with rfl | he
 ·exact ok17o
 ·exact tabKnown_ok e he

theorem known_spec (bs:List D):FSpecR Try.prog 5 (.st bs) [] (.v (.bool true)):=
 (runOrcB_ok (n:=200) tabKn_ok lenOrc_ok 30).R 5 (.st bs) [] _ (by kernel_rfl)

end Go.Am.Sc

/-
 Championships,as texts.
-/
namespace Go.Am.Sc
open Go.Proofs

noncomputable def u4:U:=(ups [.ev (.lenL y0),
 .ev (.bin .gtr .int y3 (ki 500)),
 .chain true y4 (ups [.ev (.bin .lss .int y1 (ki 0))]
 (.ret y5))]
 (.ite y5 (.ret (.tcons (kb false) (.tcons y2 .tnil))) (ups [.join 0 0 (.loop 1 [(ki 0)] (ups [.ev (.lenL y0),
 .ev (.bin .lss .int y6 y7)]
 (.ite y8 (ups [.join 2 0 (ups [.ev (.eaddr 1 y0 y6),
 .ev (.ld false 1 y2 y9),
 .ev (.lenL y10),
 .ev (.eaddr 1 y0 (ki 0)),
 .ev (.ld false 1 y2 y12),
 .ev (.lenL y13),
 .ev (.bin .neq .int y11 y14),
 .chain true y15 (ups [.ev (.eaddr 1 y0 y6),
 .ev (.ld false 1 y2 y16),
 .call 8 y2 [y17,(ki 1),(ki 40),(ki 0),(ki 100000)] [true],
 .ev (.un .not y18)]
 (.ret y19)),
 .chain true y16 (ups [.ev (.eaddr 1 y0 y6),
 .ev (.ld false 1 y2 y17),
 .ev (.lenL y18),
 .ev (.bin .geq .int y1 y19)]
 (.ret y20))]
 (.ite y17 (.ret (.tcons (kb false) (.tcons y2 .tnil))) (.jump 2 [] []))),
 .ev (.bin .add .int y6 (ki 1))]
 (.jump 1 [y9] [])) (.jump 0 [] []))))]
 (.ret (.tcons (kb true) (.tcons y2 .tnil))))))
theorem ku4:UOk Try.prog 4 .plain (scf true [] [] Try.f4) [true,true] u4:=UOk.plain Try.func4 (by kernel_rfl) (by kernel_rfl)

noncomputable def u7:U:=(ups [.ev (.lenL y0),
 .ev (.lenL y1),
 .ev (.bin .neq .int y3 y4)]
 (.ite y5 (.ret (.tcons (kb false) (.tcons y2 .tnil))) (ups [.join 0 0 (.loop 1 [(ki 0)] (ups [.ev (.lenL y0),
 .ev (.bin .lss .int y6 y7)]
 (.ite y8 (ups [.join 2 0 (ups [.ev (.eaddr 1 y0 y6),
 .ev (.ld false 1 y2 y9),
 .ev (.eaddr 1 y1 y6),
 .ev (.ld false 1 y2 y11),
 .ev (.bin .neq .int y10 y12)]
 (.ite y13 (.ret (.tcons (kb false) (.tcons y2 .tnil))) (.jump 2 [] []))),
 .ev (.bin .add .int y6 (ki 1))]
 (.jump 1 [y9] [])) (.jump 0 [] []))))]
 (.ret (.tcons (kb true) (.tcons y2 .tnil))))))
theorem ku7:UOk Try.prog 7 .plain (scf true [] [] Try.f7) [true,true] u7:=UOk.plain Try.func7 (by kernel_rfl) (by kernel_rfl)

noncomputable def u22:U:=(ups [.call 49 y2 [y0] [true],
 .call 49 y2 [y1] [true]]
 (.ite y3 (.ite y4 (.ret (.tcons (ki 0) (.tcons y2 .tnil))) (.ret (.tcons (ki (-1)) (.tcons y2 .tnil)))) (.ite y4 (.ret (.tcons (ki 1) (.tcons y2 .tnil))) (ups [.ev (.bin .lss .int y0 y1)]
 (.ite y5 (.ret (.tcons (ki (-1)) (.tcons y2 .tnil))) (ups [.ev (.bin .gtr .int y0 y1)]
 (.ite y6 (.ret (.tcons (ki 1) (.tcons y2 .tnil))) (.ret (.tcons (ki 0) (.tcons y2 .tnil))))))))))
theorem ku22:UOk Try.prog 22 .plain (scf true [] [] Try.f22) [true,true] u22:=UOk.plain Try.func22 (by kernel_rfl) (by kernel_rfl)

noncomputable def u23:U:=(ups [.ev (.lenL y0),
 .join 0 0 (.loop 1 [(ki 0)] (ups [.ev (.bin .lss .int y4 y3)]
 (.ite y5 (ups [.join 2 0 (ups [.ev (.eaddr 1 y0 y4),
 .ev (.ld false 1 y2 y6),
 .ev (.lenL y1),
 .ev (.bin .geq .int y4 y8)]
 (.ite y9 (.ret (.tcons (ki 1) (.tcons y2 .tnil))) (ups [.ev (.eaddr 1 y1 y4),
 .ev (.ld false 1 y2 y10),
 .call 22 y2 [y7,y11] [true],
 .ev (.bin .neq .int y12 (ki 0))]
 (.ite y13 (.ret (.tcons y12 (.tcons y2 .tnil))) (.jump 2 [] []))))),
 .ev (.bin .add .int y4 (ki 1))]
 (.jump 1 [y6] [])) (.jump 0 [] [])))),
 .ev (.lenL y0),
 .ev (.lenL y1),
 .ev (.bin .lss .int y4 y5)]
 (.ite y6 (.ret (.tcons (ki (-1)) (.tcons y2 .tnil))) (.ret (.tcons (ki 0) (.tcons y2 .tnil)))))
theorem ku23:UOk Try.prog 23 .plain (scf true [] [] Try.f23) [true,true] u23:=UOk.plain Try.func23 (by kernel_rfl) (by kernel_rfl)

noncomputable def u18:U:=(ups [.ev (.bin .sub .int y1 y0)]
 (.ret (.tcons y3 (.tcons y2 .tnil))))
theorem ku18:UOk Try.prog 18 .plain (scf true [] [] Try.f18) [true,true] u18:=UOk.plain Try.func18 (by kernel_rfl) (by kernel_rfl)

noncomputable def u20:U:=(ups [.ev (.ld false 1 y4 y2),
 .ev (.eaddr 1 y5 y1),
 .ev (.ld false 1 y4 y6),
 .ev (.ld false 1 y4 y2),
 .ev (.eaddr 1 y8 y0),
 .ev (.ld false 1 y4 y9),
 .call 22 y4 [y7,y10] [true],
 .ev (.ld false 1 y4 y3),
 .ev (.eaddr 1 y12 y1),
 .ev (.ld false 1 y4 y13),
 .ev (.ld false 1 y4 y3),
 .ev (.eaddr 1 y15 y0),
 .ev (.ld false 1 y4 y16),
 .call 23 y4 [y14,y17] [true],
 .ev (.lcons (.scal y11) (.lcons (.scal y18) (.const (.lst [])))),
 .call 21 y4 [y19] [true]]
 (.ret (.tcons y20 (.tcons y4 .tnil))))
theorem ku20:UOk Try.prog 20 .plain (scf true [] [] Try.f20) [true,true,true,true] u20:=UOk.plain Try.func20 (by kernel_rfl) (by kernel_rfl)

noncomputable def u21:U:=(ups [.ev (.lenL y0),
 .join 0 0 (.loop 1 [(ki 0)] (ups [.ev (.bin .lss .int y3 y2)]
 (.ite y4 (ups [.join 2 0 (ups [.ev (.eaddr 1 y0 y3),
 .ev (.ld false 1 y1 y5),
 .ev (.bin .neq .int y6 (ki 0))]
 (.ite y7 (.ret (.tcons y6 (.tcons y1 .tnil))) (.jump 2 [] []))),
 .ev (.bin .add .int y3 (ki 1))]
 (.jump 1 [y5] [])) (.jump 0 [] []))))]
 (.ret (.tcons (ki 0) (.tcons y1 .tnil))))
theorem ku21:UOk Try.prog 21 .plain (scf true [] [] Try.f21) [true] u21:=UOk.plain Try.func21 (by kernel_rfl) (by kernel_rfl)

noncomputable def u49:U:=(ups [.ev (.bin .neq .int y0 y0)]
 (.ret (.tcons y2 (.tcons y1 .tnil))))
theorem ku49:UOk Try.prog 49 .plain (scf true [] [] Try.f49) [true] u49:=UOk.plain Try.func49 (by kernel_rfl) (by kernel_rfl)

noncomputable def u26:U:=(ups [.ev (.bin .geq .int y0 y1),
 .chain false y4 (ups [.ev (.bin .leq .int y0 y2)]
 (.ret y5))]
 (.ret (.tcons y5 (.tcons y3 .tnil))))
theorem ku26:UOk Try.prog 26 .plain (scf true [] [] Try.f26) [true,true,true] u26:=UOk.plain Try.func26 (by kernel_rfl) (by kernel_rfl)

noncomputable def u15:U:=(ups [.ev (.mkptr (.cons (.scal y3) .nil)),
 .ev (.lenL y0),
 .call 26 y4 [y6,y1,y2] [true],
 .chain false y7 (ups [.ev (.mkfn 45 .tnil (.tcons y5 .tnil)),
 .call 44 y4 [y0,y8] [true],
 .ev (.un .not y9)]
 (.ret y10))]
 (.ret (.tcons y8 (.tcons y4 .tnil))))
theorem ku15:UOk Try.prog 15 .plain (scf true [] [] Try.f15) [true,true,true,true] u15:=UOk.plain Try.func15 (by kernel_rfl) (by kernel_rfl)

noncomputable def u24:U:=(ups [.ev (.bin .geq .int y0 y1),
 .chain false y4 (ups [.ev (.bin .leq .int y0 y2)]
 (.ret y5))]
 (.ret (.tcons y5 (.tcons y3 .tnil))))
theorem ku24:UOk Try.prog 24 .plain (scf true [] [] Try.f24) [true,true,true] u24:=UOk.plain Try.func24 (by kernel_rfl) (by kernel_rfl)

noncomputable def u8:U:=(ups [.join 0 0 (.loop 1 [(ki 0)] (ups [.ev (.lenL y0),
 .ev (.bin .lss .int y6 y7)]
 (.ite y8 (ups [.join 2 0 (ups [.ev (.eaddr 1 y0 y6),
 .ev (.ld false 1 y5 y9),
 .call 24 y5 [y10,y3,y4] [true],
 .ev (.un .not y11)]
 (.ite y12 (.ret (.tcons (kb false) (.tcons y5 .tnil))) (.jump 2 [] []))),
 .ev (.bin .add .int y6 (ki 1))]
 (.jump 1 [y9] [])) (.jump 0 [] [])))),
 .ev (.lenL y0),
 .call 24 y5 [y6,y1,y2] [true]]
 (.ret (.tcons y7 (.tcons y5 .tnil))))
theorem ku8:UOk Try.prog 8 .plain (scf true [] [] Try.f8) [true,true,true,true,true] u8:=UOk.plain Try.func8 (by kernel_rfl) (by kernel_rfl)

noncomputable def u44:U:=(ups [.call 65 y2 [y0,y1] [true],
 .ev (.bin .geq .int y3 (ki 0))]
 (.ret (.tcons y4 (.tcons y2 .tnil))))
theorem ku44:UOk Try.prog 44 .plain (scf true [] [] Try.f44) [true,true] u44:=UOk.plain Try.func44 (by kernel_rfl) (by kernel_rfl)

noncomputable def u45:U:=(ups [.ev (.ld false 1 y2 y1),
 .call 26 y2 [y0,(ki 0),y3] [true],
 .ev (.un .not y4)]
 (.ret (.tcons y5 (.tcons y2 .tnil))))
theorem ku45:UOk Try.prog 45 .plain (scf true [] [] Try.f45) [true,true] u45:=UOk.plain Try.func45 (by kernel_rfl) (by kernel_rfl)

noncomputable def u65:U:=(ups [.ev (.lenL y0),
 .join 0 0 (.loop 1 [(ki 0)] (ups [.ev (.bin .lss .int y4 y3)]
 (.ite y5 (ups [.join 2 0 (ups [.ev (.eaddr 1 y0 y4),
 .ev (.ld false 1 y2 y6),
 .callv y1 y2 [y7] [true]]
 (.ite y8 (.ret (.tcons y4 (.tcons y2 .tnil))) (.jump 2 [] []))),
 .ev (.bin .add .int y4 (ki 1))]
 (.jump 1 [y6] [])) (.jump 0 [] []))))]
 (.ret (.tcons (ki (-1)) (.tcons y2 .tnil))))
theorem ku65:UOk Try.prog 65 .plain (scf true [] [] Try.f65) [true,true] u65:=UOk.plain Try.func65 (by kernel_rfl) (by kernel_rfl)

noncomputable def u6:U:=(ups [.ev (.lenL y0),
 .ev (.bin .gtr .int y3 (ki 500)),
 .chain true y4 (ups [.ev (.bin .lss .int y1 (ki 0))]
 (.ret y5))]
 (.ite y5 (.ret (.tcons (.tcons (.const (.lst [])) (.tcons (.const (.lst [])) (.tcons (ki 2) .tnil))) (.tcons y2 .tnil))) (ups [.ev (.lenL y0),
 .join 0 0 (.loop 1 [(ki 0)] (ups [.ev (.bin .lss .int y7 y6)]
 (.ite y8 (ups [.join 2 0 (ups [.ev (.eaddr 1 y0 y7),
 .ev (.ld false 1 y2 y9),
 .ev (.lenL y10),
 .ev (.eaddr 1 y0 (ki 0)),
 .ev (.ld false 1 y2 y12),
 .ev (.lenL y13),
 .ev (.bin .neq .int y11 y14),
 .chain true y15 (ups [.ev (.lenL y10),
 .ev (.bin .geq .int y1 y16)]
 (.ret y17)),
 .chain true y16 (ups [.call 15 y2 [y10,(ki 1),(ki 40),(ki 100000)] [true],
 .ev (.un .not y17)]
 (.ret y18))]
 (.ite y17 (.ret (.tcons (.tcons (.const (.lst [])) (.tcons (.const (.lst [])) (.tcons (ki 2) .tnil))) (.tcons y2 .tnil))) (.jump 2 [] []))),
 .ev (.bin .add .int y7 (ki 1))]
 (.jump 1 [y9] [])) (.jump 0 [] [])))),
 .ev (.lenL y0),
 .ev (.rep 8 y7 (.v (.int .i64 0))),
 .ev (.lenL y0),
 .ev (.rep 24 y9 (.lst [])),
 .ev (.lenL y0),
 .join 0 2 (.loop 1 [(.const .snil),(ki 0),(.newb 1000000000 1 (.newb 1000000000 1 (.newv 1000000000 1 (.newv 1000000000 1 y2 y8) y10) (.cons (.fstsl y2 y8) .nil)) (.cons (.fstsl (.newv 1000000000 1 y2 y8) y10) .nil))] (ups [.ev (.bin .lss .int y13 y11)]
 (.ite y15 (ups [.join 2 2 (ups [.ev (.eaddr 1 y0 y13),
 .ev (.ld false 1 y14 y16),
 .ev (.lcons (.scal y13) (.const (.lst []))),
 .ev (.apph 3 1 8 y14 y12 y18),
 .ev (.ld false 1 y19 (.fstid (.newb 1000000000 1 (.newv 1000000000 1 (.newv 1000000000 1 y2 y8) y10) (.cons (.fstsl y2 y8) .nil)))),
 .wcall 16 y19 [y17] [true],
 .ev (.eaddr 1 y20 y13),
 .ev (.sto 1 y22 y23 y21),
 .ev (.m4 .same (.ld false 1 y19 (.fstid (.newb 1000000000 1 (.newv 1000000000 1 (.newv 1000000000 1 y2 y8) y10) (.cons (.fstsl y2 y8) .nil)))) (.ld false 1 y22 (.fstid (.newb 1000000000 1 (.newv 1000000000 1 (.newv 1000000000 1 y2 y8) y10) (.cons (.fstsl y2 y8) .nil)))) .nil .nil),
 .ev (.ld false 1 y24 (.fstid (.newb 1000000000 1 (.newv 1000000000 1 (.newv 1000000000 1 y2 y8) y10) (.cons (.fstsl y2 y8) .nil)))),
 .ev (.eaddr 1 y26 y13),
 .ev (.ld false 1 y24 y27),
 .wcall 17 y24 [y28,(.const (.fn 18 [] []))] [],
 .ev (.ld false 1 y30 (.fstid (.newb 1000000000 1 (.newv 1000000000 1 (.newv 1000000000 1 y2 y8) y10) (.cons (.fstsl y2 y8) .nil)))),
 .ev (.eaddr 1 y31 y13),
 .ev (.ld false 1 y30 y32),
 .ev (.lenL y17),
 .ev (.bin .sub .int y34 y1),
 .ev (.sub 1 y33 (ki 0) y35),
 .ev (.lenL y36),
 .join 3 3 (.loop 4 [(ki 0),y30] (ups [.ev (.bin .lss .int y38 y37)]
 (.ite y40 (ups [.join 5 1 (ups [.ev (.eaddr 1 y36 y38),
 .ev (.ld false 1 y39 y41),
 .ev (.ld false 1 y39 (.fstid (.newv 1000000000 1 (.newv 1000000000 1 y2 y8) y10))),
 .ev (.eaddr 1 y43 y13),
 .ev (.ld false 1 y39 y44),
 .ev (.bin .add .int y45 y42),
 .ev (.eaddr 1 y43 y13),
 .ev (.sto 1 y39 y47 y46)]
 (.jump 5 [y48] [])),
 .ev (.bin .add .int y38 (ki 1))]
 (.jump 4 [y42,y41] [])) (.jump 3 [y38,y40,y39] []))))]
 (.jump 2 [(.apps y14 y12 y18),y40] [(.apps y14 y12 y18),y21])),
 .ev (.bin .add .int y13 (ki 1))]
 (.jump 1 [y16,y18,y17] [])) (.jump 0 [y12,y14] [])))),
 .ev (.mkfn 20 .tnil (.tcons (.fstid (.newv 1000000000 1 (.newv 1000000000 1 y2 y8) y10)) (.tcons (.fstid (.newb 1000000000 1 (.newv 1000000000 1 (.newv 1000000000 1 y2 y8) y10) (.cons (.fstsl y2 y8) .nil))) .tnil))),
 .wcall 19 y13 [y12,y14] [],
 .ev (.lenL y12),
 .join 0 1 (.loop 1 [(.const (.lst [])),(ki 0)] (ups [.ev (.bin .lss .int y19 y17)]
 (.ite y20 (ups [.join 2 1 (ups [.ev (.eaddr 1 y12 y19),
 .ev (.ld false 1 y16 y21),
 .ev (.ld false 1 y16 (.fstid (.newv 1000000000 1 (.newv 1000000000 1 y2 y8) y10))),
 .ev (.eaddr 1 y23 y22),
 .ev (.ld false 1 y16 y24),
 .ev (.lcons (.scal y25) (.const (.lst []))),
 .ev (.app 1 8 y18 y26)]
 (.jump 2 [y27] [])),
 .ev (.bin .add .int y19 (ki 1))]
 (.jump 1 [y21,y22] [])) (.jump 0 [y18] []))))]
 (.ret (.tcons (.tcons y12 (.tcons y18 (.tcons (ki 0) .tnil))) (.tcons y16 .tnil))))))
theorem ku6:UOk Try.prog 6 .plain (scg [] [11] false [(10,1000053),(10,1000056),(10,1000009),(10,1000010)] Try.f6) [true,true] u6:=UOk.plain Try.func6 (by kernel_rfl) (by kernel_rfl)

noncomputable def u3:U:=(ups [.ev (.lenL y0),
 .ev (.bin .gtr .int y3 (ki 12)),
 .chain true y4 (ups [.call 4 y2 [y0,y1] [true],
 .ev (.un .not y5)]
 (.ret y6)),
 .chain true y5 (ups [.ev (.lenL y0),
 .ev (.bin .gtr .int y6 (ki 0)),
 .chain false y7 (ups [.ev (.eaddr 1 y0 (ki 0)),
 .ev (.ld false 1 y2 y8),
 .ev (.lenL y9),
 .ev (.bin .gtr .int y10 (ki 30))]
 (.ret y11))]
 (.ret y8))]
 (.ite y6 (ups [.call 5 y2 [] [true]]
 (.ret (.tcons y7 (.tcons y2 .tnil)))) (ups [.call 6 y2 [y0,y1] [true,true,true],
 .ev (.bin .neq .int (.tget 2 y7) (ki 0)),
 .chain true y8 (ups [.chk (.tget 0 y7),
 .ev (.lenL (.tget 0 y7)),
 .ev (.lenL y0),
 .ev (.bin .neq .int y9 y10)]
 (.ret y11)),
 .chain true y9 (ups [.chk (.tget 1 y7),
 .ev (.lenL (.tget 1 y7)),
 .ev (.lenL y0),
 .ev (.bin .neq .int y10 y11)]
 (.ret y12))]
 (.ite y10 (.ret (.tcons (kb false) (.tcons y2 .tnil))) (ups [.ev (.lenL y0),
 .ev (.rep 8 y11 (.v (.int .i64 0))),
 .ev (.lenL y0),
 .ev (.rep 1 y13 (.v (.bool false))),
 .join 0 1 (.loop 1 [(ki 0),y12,y14] (ups [.ev (.lenL (.tget 0 y7)),
 .ev (.bin .lss .int y15 y18)]
 (.ite y19 (ups [.join 2 2 (ups [.ev (.eaddr 1 (.tget 0 y7) y15),
 .ev (.ld false 1 y2 y20),
 .ev (.bin .lss .int y21 (ki 0)),
 .chain true y22 (ups [.chk (.tget 0 y7),
 .ev (.eaddr 1 (.tget 0 y7) y15),
 .ev (.ld false 1 y2 y23),
 .ev (.lenL y0),
 .ev (.bin .geq .int y24 y25)]
 (.ret y26)),
 .chain true y23 (ups [.chk (.tget 0 y7),
 .ev (.eaddr 1 (.tget 0 y7) y15),
 .ev (.ld false 1 y2 y24),
 .ev (.idx y17 y25),
 .ev (.cell 0 (.idx y17 y25))]
 (.ret y27)),
 .chain true y24 (ups [.ev (.bin .gtr .int y15 (ki 0)),
 .chain false y25 (ups [.chk (.tget 1 y7),
 .ev (.eaddr 1 (.tget 1 y7) y15),
 .ev (.ld false 1 y2 y26),
 .chk (.tget 1 y7),
 .ev (.bin .sub .int y15 (ki 1)),
 .ev (.eaddr 1 (.tget 1 y7) y28),
 .ev (.ld false 1 y2 y29),
 .ev (.bin .gtr .int y27 y30)]
 (.ret y31))]
 (.ret y26))]
 (.ite y25 (.ret (.tcons (kb false) (.tcons y2 .tnil))) (ups [.ev (.eaddr 1 (.tget 0 y7) y15),
 .ev (.ld false 1 y2 y26),
 .ev (.idx y17 y27),
 .ev (.set y17 y27 0 (kb true)),
 .ev (.eaddr 1 (.tget 0 y7) y15),
 .ev (.ld false 1 y2 y30),
 .ev (.eaddr 1 (.tget 1 y7) y15),
 .ev (.ld false 1 y2 y32),
 .ev (.idx y16 y31),
 .ev (.set y16 y31 0 y33)]
 (.jump 2 [y35,y29] [])))),
 .ev (.bin .add .int y15 (ki 1))]
 (.jump 1 [y22,y20,y21] [])) (.jump 0 [y16] [])))),
 .join 0 1 (.loop 1 [(.const (.lst [])),(ki 0)] (ups [.ev (.lenL y0),
 .ev (.bin .lss .int y17 y18)]
 (.ite y19 (ups [.join 2 1 (ups [.ev (.eaddr 1 y0 y17),
 .ev (.ld false 1 y2 y20),
 .ev (.app 1 8 (.const (.lst [])) y21),
 .ev (.lcons (.scal (ki 0)) (.const (.lst []))),
 .ev (.app 1 8 y22 y23),
 .ev (.lcons (.scal y24) (.const (.lst []))),
 .ev (.app 1 24 y16 y25)]
 (.jump 2 [y26] [])),
 .ev (.bin .add .int y17 (ki 1))]
 (.jump 1 [y20,y21] [])) (.jump 0 [y16] [])))),
 .ev (.lenL y0),
 .ev (.bin .gtr .int y17 (ki 0)),
 .chain false y18 (ups [.ev (.eaddr 1 y0 (ki 0)),
 .ev (.ld false 1 y2 y19),
 .ev (.lenL y20),
 .ev (.bin .lss .int y21 (ki 40))]
 (.ret y22)),
 .join 0 0 (.ite y19 (ups [.ev (.bin .add .int y1 (ki 1)),
 .call 6 y2 [y16,y20] [true,true,true],
 .ev (.bin .neq .int (.tget 2 y21) (ki 0)),
 .chain true y22 (ups [.chk (.tget 0 y21),
 .chk (.tget 0 y7),
 .call 7 y2 [(.tget 0 y21),(.tget 0 y7)] [true],
 .ev (.un .not y23)]
 (.ret y24)),
 .chain true y23 (ups [.chk (.tget 1 y21),
 .chk (.tget 1 y7),
 .call 7 y2 [(.tget 1 y21),(.tget 1 y7)] [true],
 .ev (.un .not y24)]
 (.ret y25))]
 (.ite y24 (.ret (.tcons (kb false) (.tcons y2 .tnil))) (.jump 0 [] []))) (.jump 0 [] [])),
 .ev (.lenL y0),
 .ev (.bin .eql .int y20 (ki 0)),
 .chain true y21 (ups [.ev (.bin .eql .int y1 (ki 0))]
 (.ret y22))]
 (.ite y22 (ups [.call 5 y2 [] [true]]
 (.ret (.tcons y23 (.tcons y2 .tnil)))) (ups [.ev (.bin .sub .int y1 (ki 1)),
 .call 6 y2 [y0,y23] [true,true,true],
 .ev (.bin .neq .int (.tget 2 y24) (ki 0)),
 .chain true y25 (ups [.chk (.tget 0 y24),
 .ev (.lenL (.tget 0 y24)),
 .ev (.lenL y0),
 .ev (.bin .neq .int y26 y27)]
 (.ret y28)),
 .chain true y26 (ups [.chk (.tget 1 y24),
 .ev (.lenL (.tget 1 y24)),
 .ev (.lenL y0),
 .ev (.bin .neq .int y27 y28)]
 (.ret y29))]
 (.ite y27 (.ret (.tcons (kb false) (.tcons y2 .tnil))) (ups [.join 0 0 (.loop 1 [(ki 0)] (ups [.ev (.lenL (.tget 0 y24)),
 .ev (.bin .lss .int y28 y29)]
 (.ite y30 (ups [.join 2 0 (ups [.ev (.eaddr 1 (.tget 0 y24) y28),
 .ev (.ld false 1 y2 y31),
 .ev (.bin .lss .int y32 (ki 0)),
 .chain true y33 (ups [.chk (.tget 0 y24),
 .ev (.eaddr 1 (.tget 0 y24) y28),
 .ev (.ld false 1 y2 y34),
 .ev (.lenL y0),
 .ev (.bin .geq .int y35 y36)]
 (.ret y37)),
 .chain true y34 (ups [.chk (.tget 1 y24),
 .ev (.eaddr 1 (.tget 1 y24) y28),
 .ev (.ld false 1 y2 y35),
 .chk (.tget 0 y24),
 .ev (.eaddr 1 (.tget 0 y24) y28),
 .ev (.ld false 1 y2 y37),
 .ev (.idx y15 y38),
 .ev (.cell 0 (.idx y15 y38)),
 .ev (.bin .lss .int y36 y40)]
 (.ret y41))]
 (.ite y35 (.ret (.tcons (kb false) (.tcons y2 .tnil))) (.jump 2 [] []))),
 .ev (.bin .add .int y28 (ki 1))]
 (.jump 1 [y31] [])) (.jump 0 [] [])))),
 .call 5 y2 [] [true]]
 (.ret (.tcons y28 (.tcons y2 .tnil))))))))))))
theorem ku3:UOk Try.prog 3 .plain (scf true [] [] Try.f3) [true,true] u3:=UOk.plain Try.func3 (by kernel_rfl) (by kernel_rfl)

end Go.Am.Sc

/-
 Plans and cards,as Lean structures,and which ones are as defined.
-/
namespace Go.Am.Sc

structure Item where
 kind:Int
 leg:Int
 target:Int
 free:Bool
deriving Inhabited,DecidableEq

structure Plan where
 items:List Item
 classes:Int
 late:Int
 early:Int
 maxLate:Int
 legLate:Int
 jumps:List Int
 ret:Bool
 missed:Int
 notional:Int
 percent:Int
 power:Int
 points:List Int
 extra:List Int

structure Line where
 minute:Int
 time:Int
 jump:Bool
 mark:Int
deriving Inhabited,DecidableEq

structure Card where
 cls:Int
 starts:List Int
 lines:List Line
deriving Inhabited

def inR (x lo hi:Int):Bool:=decide (lo≤x)&&decide (x≤hi)

theorem inR_t {x lo hi:Int}(h:inR x lo hi=true):lo≤x∧x≤hi:=by simpa[inR] using h
theorem inR_i {x lo hi:Int}(h:lo≤x∧x≤hi):inR x lo hi=true:=by simpa[inR] using h
theorem inR_f {x lo hi:Int}(h:inR x lo hi=false):x<lo∨hi<x:=by
 simp only[inR,Bool.and_eq_false_iff,decide_eq_false_iff_not] at h
 omega
theorem inR_n {x lo hi:Int}(h:x<lo∨hi<x):inR x lo hi=false:=by
 simp only[inR,Bool.and_eq_false_iff,decide_eq_false_iff_not]
 omega

def allR (l:List Int)(least most lo hi:Int):Bool:=l.all (fun x=>inR x lo hi)&&inR l.length least most

namespace Plan
variable (p:Plan)
def it (i:Nat):Item:=p.items.getD i default
def n:Nat:=p.items.length
def itOk (i:Nat):Bool:=(i==0||inR ((p.it i).leg-(p.it (i-1)).leg) 0 1)&&(decide ((p.it i).leg<6)&&((p.it i).kind==1&&inR (p.it i).target 0 1440||(p.it i).kind==2&&((p.it i).target==0&&!(p.it i).free)))
def headOk:Bool:=inR p.n 1 100&&(inR p.classes 1 20&&(p.it 0).leg==0)
def itemsOk:Bool:=(List.range p.n).all p.itOk
def rulesOk:Bool:=inR p.late 0 36000000&&(inR p.early 0 36000000&&(inR p.missed 0 36000000&&(inR p.maxLate 0 1440&&(inR p.legLate 0 1440&&allR p.jumps 1 10 0 36000000))))
def moreOk:Bool:=(decide (1≤p.notional)&&decide (p.notional≤4))&&(inR p.percent 100 1000&&(inR p.power (-1) (p.n-1)&&(decide (p.power<0)||(p.it p.power.toNat).kind==2)))
def ptsOk:Bool:=allR p.points 0 60 0 1000&&allR p.extra 0 60 0 1000
def ok:Bool:=p.headOk&&(p.itemsOk&&(p.rulesOk&&(p.moreOk&&p.ptsOk)))
end Plan

def lineOk (x:Item)(l:Line):Bool:=inR l.minute 0 100000&&(inR l.time 0 36000000&&(l.mark==0&&(x.kind==1&&(l.time==0&&!l.jump)||x.kind != 1&&decide (0<l.time))||(l.mark==1&&(x.kind != 1&&l.time==0)||l.mark==2&&(l.minute==0&&(l.time==0&&!l.jump)))))

def Card.ln (c:Card)(i:Nat):Line:=c.lines.getD i default

def Plan.legs (p:Plan):Int:=(p.it (p.n-1)).leg+1

variable {p:Plan} {c:Card}

theorem Plan.ok_itOk (h:p.itemsOk=true){i:Nat}(hi:i<p.n):p.itOk i=true:=(List.all_eq_true.1 h) i (List.mem_range.2 hi)

theorem Plan.leg_of (h0:(p.it 0).leg=0):∀{i:Nat},(∀k,k≤i→p.itOk k=true)→0≤(p.it i).leg∧(p.it i).leg≤5
 | 0,h=>by omega
 | i+1,h=>by
  have ih:=Plan.leg_of h0 (i:=i) fun k hk=>h k (by omega)
  have hs:=h (i+1) (Nat.le_refl _)
  simp only[Plan.itOk,Bool.and_eq_true,decide_eq_true_eq,Nat.add_sub_cancel,Bool.or_eq_true,beq_iff_eq] at hs
  obtain⟨h1,h2,_⟩:=hs
  rcases h1 with h1 | h1
  ·omega
  ·have:=inR_t h1
   omega

theorem Plan.ok_parts (h:p.ok=true):p.headOk=true∧p.itemsOk=true∧p.rulesOk=true∧p.moreOk=true∧p.ptsOk=true:=by simpa[Plan.ok] using h

theorem Plan.ok_head (h:p.ok=true):(1≤p.n∧p.n≤100)∧(1≤p.classes∧p.classes≤20)∧(p.it 0).leg=0:=by
 have h:=(Plan.ok_parts h).1
 simp only[Plan.headOk,Bool.and_eq_true,beq_iff_eq] at h
 have h1:=inR_t h.1
 exact⟨by omega,inR_t h.2.1,h.2.2⟩

theorem Plan.ok_leg (h:p.ok=true){i:Nat}(hi:i<p.n):0≤(p.it i).leg∧(p.it i).leg≤5:=Plan.leg_of (Plan.ok_head h).2.2 fun k hk=>Plan.ok_itOk (Plan.ok_parts h).2.1 (by omega)

end Go.Am.Sc

/-
 Plans and cards as data.
-/
namespace Go.Am.Sc

abbrev I (n:Int):D:=.v (.int .i64 n)
abbrev B (b:Bool):D:=.v (.bool b)
abbrev Is (l:List Int):D:=.lst (l.map I)
abbrev In (i:Nat):D:=I (i:Int)
abbrev Ix (l:List Nat):D:=.lst (l.map In)

def i64 (n:Int):Prop:=-9223372036854775808≤n∧n<9223372036854775808

theorem ofI {ds:List D}(h:OfSh (.int .i64) ds):∃n,ds=[I n]∧i64 n:=by
 simp only[OfSh] at h
 obtain⟨n,h,h1,h2⟩:=h
 refine⟨n,h,?_⟩
 simp[IntKind.min,IntKind.max,IntKind.bits,IntKind.signed] at h1 h2
 exact⟨h1,by omega⟩

theorem ofIs:∀{es:List D},(∀x,x∈es→OfSh (.int .i64) [x])→∃xs:List Int,es=xs.map I∧∀x,x∈xs→i64 x
 | [],_=>⟨[],rfl,by simp⟩
 | e :: es,h=>by
  obtain⟨n,hn,hb⟩:=ofI (h e (by simp))
  cases hn
  obtain⟨xs,rfl,hx⟩:=ofIs (es:=es) fun x hx=>h x (by simp[hx])
  exact⟨n :: xs,rfl,by simpa using⟨hb,hx⟩⟩

def IsOk (l:List Int):Prop:=(∀x,x∈l→i64 x)∧l.length≤maxLen

theorem ofSl {ds:List D}(h:OfSh (.sl (.int .i64)) ds):∃xs:List Int,ds=[Is xs]∧IsOk xs:=by
 simp only[OfSh] at h
 obtain⟨es,rfl,hl,hes⟩:=h
 obtain⟨xs,rfl,hx⟩:=ofIs fun x hx=>by
  have:=(hes x hx).2 rfl
  simpa only[OfSh] using this
 exact⟨xs,rfl,hx,by simpa using hl⟩

def Item.cs (x:Item):List D:=[I x.kind,I x.leg,I x.target,B x.free]
def Item.d (x:Item):D:=.agg x.cs
def Plan.cs (p:Plan):List D:=[.lst (p.items.map Item.d),I p.classes,I p.late,I p.early,I p.maxLate,I p.legLate,Is p.jumps,B p.ret,I p.missed,I p.notional,I p.percent,I p.power,Is p.points,Is p.extra]
def Plan.d (p:Plan):D:=.agg p.cs
def Line.cs (l:Line):List D:=[I l.minute,I l.time,B l.jump,I l.mark]
def Line.d (l:Line):D:=.agg l.cs
def Card.cs (c:Card):List D:=[I c.cls,Is c.starts,.lst (c.lines.map Line.d)]
def Card.d (c:Card):D:=.agg c.cs
abbrev Cards (l:List Card):D:=.lst (l.map Card.d)

structure Item.Ok (x:Item):Prop where
 kind:i64 x.kind
 leg:i64 x.leg
 target:i64 x.target

structure Plan.Ok (p:Plan):Prop where
 items:∀x,x∈p.items→x.Ok
 itemsL:p.items.length≤maxLen
 classes:i64 p.classes
 late:i64 p.late
 early:i64 p.early
 maxLate:i64 p.maxLate
 legLate:i64 p.legLate
 jumps:IsOk p.jumps
 missed:i64 p.missed
 notional:i64 p.notional
 percent:i64 p.percent
 power:i64 p.power
 points:IsOk p.points
 extra:IsOk p.extra

structure Line.Ok (l:Line):Prop where
 minute:i64 l.minute
 time:i64 l.time
 mark:i64 l.mark

structure Card.Ok (c:Card):Prop where
 cls:i64 c.cls
 starts:IsOk c.starts
 lines:∀x,x∈c.lines→x.Ok
 linesL:c.lines.length≤maxLen

theorem cv {ds:List D}(h:∃n:Int,ds=[.v (.int .i64 n)]∧IntKind.i64.min≤n∧n≤IntKind.i64.max):∃n,ds=[I n]∧i64 n:=ofI (by simpa only[OfSh] using h)

theorem argInt {x:D}(h:ArgSh (.int .i64) x):∃n,x=I n∧i64 n:=by
 obtain⟨n,hn,hb⟩:=ofI (h.2 rfl)
 cases hn
 exact⟨n,rfl,hb⟩

def TmsOk (l:List (List Int)):Prop:=(∀a,a∈l→IsOk a)∧l.length≤maxLen

theorem ofTms:∀{es:List D},(∀x,x∈es→OfSh (.sl (.int .i64)) [x])→∃xs:List (List Int),es=xs.map Is∧∀a,a∈xs→IsOk a
 | [],_=>⟨[],rfl,by simp⟩
 | e :: es,h=>by
  obtain⟨l,hx,h1⟩:=ofSl (h e (by simp))
  cases hx
  obtain⟨xs,rfl,hx⟩:=ofTms (es:=es) fun x hx=>h x (by simp[hx])
  exact⟨l :: xs,rfl,by simpa using⟨h1,hx⟩⟩

theorem argTms {x:D}(h:ArgSh (.sl (.sl (.int .i64))) x):∃l:List (List Int),x=.lst (l.map Is)∧TmsOk l:=by
 have h:=h.2 rfl
 rw[OfSh] at h
 obtain⟨es,hx,hl,hes⟩:=h
 cases hx
 obtain⟨xs,rfl,ho⟩:=ofTms fun x hx=>(hes x hx).2 rfl
 exact⟨xs,rfl,ho,by simpa using hl⟩

end Go.Am.Sc
