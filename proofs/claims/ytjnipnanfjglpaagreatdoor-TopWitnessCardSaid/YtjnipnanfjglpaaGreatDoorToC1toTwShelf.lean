/- Texts. -/
import Derived.Test.YtjnipnanfjglpaaGreatDoorToBasetoScAct
import Derived.Test.YtjnipnanfjglpaaGreatDoorAmUtoAmTabK
import Derived.Test.YtjnipnanfjglpaaGreatDoorAmKilltoAmOut
import Derived.Test.YtjnipnanfjglpaaGreatDoorAmSoundtoAmUT
import Derived.Test.YtjnipnanfjglpaaGreatDoorAmBasetoAmTok
import Derived.Shelf.SlGeneric
import Derived.Shelf.SlSortCmp.WholeK
import Derived.Shelf.SlMaps.Clone
import Derived.Ground.SlsfProg
import Derived.Ground.SlmcProg
import Derived.Test.YtjnipnanfjglpaaGreatDoorProg
set_option linter.unusedSimpArgs false
set_option linter.unusedVariables false
namespace Go.Am.To
section
open Go.Proofs Go.Am.Sc
set_option maxRecDepth 100000
set_option maxHeartbeats 4000000
variable {bs:List D}
theorem c41 (x lo hi:Int):aQ Tryz.prog 41 (.st bs) [I x,I lo,I hi] (B (fK x lo hi)):=by
 refine am9.R rfl rfl ?_;unfold u41;simp only[aB,aI,A0i,A0j]
 repeat' (first|(apply dX;simp only[au];rfl)|(apply aU;rfl;simp only[au];rfl)|(apply fp;rfl)|exact aH rfl rfl|(intro hz;(try simp only[gq] at hz)))
attribute [local irreducible] fK
theorem ue {x lo hi:Int}:fK x lo hi=true↔lo≤x∧x≤hi:=by unfold fK;simp
end
end Go.Am.To
namespace Go.Am.Tw
section
open Go.Proofs
open Go.Am.To (y0 y1 y2 y3 y4 y5 y6 y7 y8 y9 y10 y11 y12 y13 y14 y15 y16 y17 y18 y19 y20 y21 y22 y23 y24 y25 y26 y27 y28 y29 y30 y31 y32 y33 y34 y35 y36 y37 y38 y39 y40 y41 y42 y43 y44 y45 y46 y47 y48 y49 y50 y51 y52 y53 y54 y55 y56 y57 y58 y59 y60 y61 y62 y63 y64 y65 y66 y67 y68 y69 y70 y71 y72 y73 y74 y75 y76 y77 y78 y79 y80 y81 y82 y83 y84 y85 y86 y87 y88 y89 y90 y91 y92 y93 y94 y95 y96 y97 y98 y99 l' g' f' G' F' v' t' s' p' q' C' D' R' X' P' M' Q' c' w' W' Z' k' K' m' n' o' z' j' i' J' I' N' E' e')
theorem U' {P : Program} {f : FuncId} {cf : cF} {bn : List Bool} {u : U} {fn : Func} (hf : P.funcs[f]? = some fn) (h1 : bK P fn = bn := by kernel_rfl) (h2 : (jE P cf fn).bind (qO (bn.length + 1)) = some u := by kernel_rfl) : bP P f .plain cf bn u := bP.plain hf h1 h2
def WRA:List Nat:=[161,121,33,62,63,175,204,123,124,125,178,122,177,1999999]
def wo (ro:Bool)(wr:List Nat)(aS:Bool)(more:List Nat)(M3:List (Nat×Nat))(fn:Func):cF:={ aq ro (wr++WRA) [] more M3 fn with maps:=[148,221,227],aS:=aS }
noncomputable def u97:U:=aD [.ev (X' .geq y0 y1),.chain false y4 (aD [.ev (X' .leq y0 y2)] (.ret y5))] (.ret (C' y5 y3))
theorem amK:bP Tryz.prog 97 .plain (wo true [] false [] [] Tryz.f97) [true,true,true] u97:=bP.plain Tryz.func97 (by kernel_rfl) (by kernel_rfl)
noncomputable def aeB:U:=aD [.ev (.bI y0),.join 0 0 (.loop 1 [ki 0] (aD [.ev (X' .lss y4 y3)] (.ite y5 (aD [.join 2 0 (aD [.ev (.ax 7 y0 y4),.ev (.ld true 7 y2 y6),.ei y1 y2 [y7] [true]] (.ite y8 (.ret (C' y4 y2)) (.jump 2 [] []))),.ev (P' y4 (ki 1))] (.jump 1 [y6] [])) (.jump 0 [] []))))] (.ret (C' (ki (-1)) y2))
theorem agt:bP Tryz.prog 231 .plain (wo true [] false [] [] Tryz.f231) [true,true] aeB:=bP.plain Tryz.func231 (by kernel_rfl) (by kernel_rfl)
noncomputable def aeH:U:=aD [.call 231 y2 [y0,y1] [true],.ev (X' .geq y3 (ki 0))] (.ret (C' y4 y2))
theorem agz:bP Tryz.prog 201 .plain (wo true [] false [] [] Tryz.f201) [true,true] aeH:=bP.plain Tryz.func201 (by kernel_rfl) (by kernel_rfl)
noncomputable def aeE:U:=aD [.aR (.bE 7 y0)] (.ret (C' (j' (q' 0 y0) (j' (q' 1 y0) (j' (q' 2 y0) (j' (q' 3 y0) (j' (q' 4 y0) (j' (q' 5 y0) (j' (ki 0) .nil))))))) y1))
theorem agw:bP Tryz.prog 205 .plain (wo true [] false [] [] Tryz.f205) [false] aeE:=bP.plain Tryz.func205 (by kernel_rfl) (by kernel_rfl)
noncomputable def WV:U:=aD [.ev (.bin .neq .ptr y0 (.const (.v (.pointer none)))),.chain false y2 (aD [.aR (.nn y0),.aR (p' 4 y0),.ev (l' y1 (p' 4 y0)),.ev (.bin .neq .mp y3 (.const (.v (.map none))))] (.ret y4))] (.ret (C' y3 y1))
theorem TI:bP Tryz.prog 120 .plain (wo true [] false [] [] Tryz.f120) [true] WV:=bP.plain Tryz.func120 (by kernel_rfl) (by kernel_rfl)
noncomputable def aeF:U:=aD [.aR (.bE 7 y1),.aR (.nn y0),.aR (p' 3 y0),.ev (l' y2 (p' 3 y0)),.ev (.bI y3),.ev (M' y4 (ki 1)),.call 97 y2 [q' 0 y1,ki 0,y5] [true],.ev (N' y6),.chain true y7 (aD [.aR (q' 1 y1),.call 97 y2 [q' 1 y1,ki 0,ki 1000000000] [true],.ev (N' y8)] (.ret y9)),.chain true y8 (aD [.aR (q' 6 y1),.call 97 y2 [q' 6 y1,ki 0,ki 1000000000000] [true],.ev (N' y9)] (.ret y10))] (.ite y9 (.ret (C' (kb false) y2)) (aD [.ev (Q' (q' 2 y1) (ki 4))] (.ite y10 (aD [.ev (M' (q' 1 y1) (ki 1)),.call 97 y2 [q' 3 y1,ki 0,y11] [true],.chain false y12 (aD [.aR (q' 4 y1),.ev (Q' (q' 4 y1) (ki 0))] (.ret y13)),.chain false y13 (aD [.aR (q' 5 y1),.ev (Q' (q' 5 y1) (ki 0))] (.ret y14))] (.ret (C' y14 y2))) (aD [.aR (.nn y0),.aR (p' 0 y0),.aR (p' 0 (p' 0 y0)),.ev (l' y2 (p' 0 (p' 0 y0))),.call 97 y2 [q' 3 y1,ki 1,y11] [true],.ev (N' y12),.chain true y13 (aD [.aR (q' 4 y1),.aR (.nn y0),.aR (p' 0 y0),.aR (p' 1 (p' 0 y0)),.ev (l' y2 (p' 1 (p' 0 y0))),.ev (M' y14 (ki 1)),.call 97 y2 [q' 4 y1,ki 0,y15] [true],.ev (N' y16)] (.ret y17))] (.ite y14 (.ret (C' (kb false) y2)) (aD [.join 0 0 (aD [.ev (Q' (q' 2 y1) (ki 1)),.join 1 1 (.ite y15 (.jump 1 [y15] []) (aD [.ev (Q' (q' 2 y1) (ki 2))] (.jump 1 [y16] [])))] (.ite y16 (aD [.call 97 y2 [q' 5 y1,ki 0,ki 1000000000000] [true]] (.ret (C' y17 y2))) (aD [.ev (Q' (q' 2 y1) (ki 3))] (.ite y17 (aD [.ev (Q' (q' 5 y1) (ki 0))] (.ret (C' y18 y2))) (.jump 0 [] [])))))] (.ret (C' (kb false) y2))))))))
theorem agx:bP Tryz.prog 203 .plain (wo true [] false [] [] Tryz.f203) [true,false] aeF:=bP.plain Tryz.func203 (by kernel_rfl) (by kernel_rfl)
noncomputable def aeG:U:=aD [.aR (.bE 7 y0),.ev (l' y2 y1),.call 203 y2 [y3,r6 7 y0] [true],.ev (N' y4)] (.ret (C' y5 y2))
theorem agy:bP Tryz.prog 202 .plain (wo true [] false [] [] Tryz.f202) [false,true] aeG:=bP.plain Tryz.func202 (by kernel_rfl) (by kernel_rfl)
noncomputable def aeZ:U:=aD [.ev (X' .neq y0 y0)] (.ret (C' y2 y1))
theorem agR:bP Tryz.prog 145 .plain (wo true [] false [] [] Tryz.f145) [true] aeZ:=bP.plain Tryz.func145 (by kernel_rfl) (by kernel_rfl)
noncomputable def aeA:U:=aD [.ev (X' .neq y0 y0)] (.ret (C' y2 y1))
theorem ags:bP Tryz.prog 257 .plain (wo true [] false [] [] Tryz.f257) [true] aeA:=bP.plain Tryz.func257 (by kernel_rfl) (by kernel_rfl)
noncomputable def u90:U:=aD [.call 145 y2 [y0] [true],.call 145 y2 [y1] [true]] (.ite y3 (.ite y4 (.ret (C' (ki 0) y2)) (.ret (C' (ki (-1)) y2))) (.ite y4 (.ret (C' (ki 1) y2)) (aD [.ev (X' .lss y0 y1)] (.ite y5 (.ret (C' (ki (-1)) y2)) (aD [.ev (X' .gtr y0 y1)] (.ite y6 (.ret (C' (ki 1) y2)) (.ret (C' (ki 0) y2))))))))
theorem amN:bP Tryz.prog 90 .plain (wo true [] false [] [] Tryz.f90) [true,true] u90:=bP.plain Tryz.func90 (by kernel_rfl) (by kernel_rfl)
noncomputable def aeD:U:=aD [.call 257 y2 [y0] [true],.call 257 y2 [y1] [true]] (.ite y3 (.ite y4 (.ret (C' (ki 0) y2)) (.ret (C' (ki (-1)) y2))) (.ite y4 (.ret (C' (ki 1) y2)) (aD [.ev (X' .lss y0 y1)] (.ite y5 (.ret (C' (ki (-1)) y2)) (aD [.ev (X' .gtr y0 y1)] (.ite y6 (.ret (C' (ki 1) y2)) (.ret (C' (ki 0) y2))))))))
theorem agv:bP Tryz.prog 216 .plain (wo true [] false [] [] Tryz.f216) [true,true] aeD:=bP.plain Tryz.func216 (by kernel_rfl) (by kernel_rfl)
noncomputable def u95:U:=aD [.ev (.bI y0),.join 0 0 (.loop 1 [ki 0] (aD [.ev (X' .lss y3 y2)] (.ite y4 (aD [.join 2 0 (aD [.ev (.ax 1 y0 y3),.ev (l' y1 y5),.ev (X' .neq y6 (ki 0))] (.ite y7 (.ret (C' y6 y1)) (.jump 2 [] []))),.ev (P' y3 (ki 1))] (.jump 1 [y5] [])) (.jump 0 [] []))))] (.ret (C' (ki 0) y1))
theorem amL:bP Tryz.prog 95 .plain (wo true [] false [] [] Tryz.f95) [true] u95:=bP.plain Tryz.func95 (by kernel_rfl) (by kernel_rfl)
noncomputable def aeT:U:=aD [.aR (.bE 7 y0),.aR (.bE 7 y1),.call 90 y2 [q' 0 y0,q' 0 y1] [true],.call 90 y2 [q' 1 y0,q' 1 y1] [true],.call 216 y2 [q' 2 y0,q' 2 y1] [true],.call 90 y2 [q' 3 y0,q' 3 y1] [true],.call 90 y2 [q' 4 y0,q' 4 y1] [true],.call 90 y2 [q' 5 y0,q' 5 y1] [true],.ev (.bz (z' y3) (.bz (z' y4) (.bz (z' y5) (.bz (z' y6) (.bz (z' y7) (.bz (z' y8) (.const (.bk [])))))))),.call 95 y2 [y9] [true]] (.ret (C' y10 y2))
theorem agL:bP Tryz.prog 176 .plain (wo true [] false [] [] Tryz.f176) [false,false] aeT:=bP.plain Tryz.func176 (by kernel_rfl) (by kernel_rfl)
noncomputable def ae_:U:=aD [.ev (.cw (j' (z' y0) .nil)),.ev (.cw (j' (z' y1) .nil)),.ev (.b_ 178 .ai (C' y3 y4))] (.ret (C' y5 y2))
theorem ag2:bP Tryz.prog 126 .plain (wo true [] false [] [] Tryz.f126) [true,true] ae_:=bP.plain Tryz.func126 (by kernel_rfl) (by kernel_rfl)
noncomputable def u65:U:=aD [.aR (.bE 6 y0)] (.ret (C' (q' 3 y0) y1))
theorem amZ:bP Tryz.prog 65 .plain (wo true [] false [] [] Tryz.f65) [false] u65:=bP.plain Tryz.func65 (by kernel_rfl) (by kernel_rfl)
noncomputable def ae9:U:=aD [.ev (.bI y0),.join 0 0 (.loop 1 [ki 0] (aD [.ev (X' .lss y4 y3)] (.ite y5 (aD [.join 2 0 (aD [.ev (.ax 6 y0 y4),.ev (.ld true 6 y2 y6),.ei y1 y2 [y7] [true]] (.ite y8 (.ret (C' y4 y2)) (.jump 2 [] []))),.ev (P' y4 (ki 1))] (.jump 1 [y6] [])) (.jump 0 [] []))))] (.ret (C' (ki (-1)) y2))
theorem ag1:bP Tryz.prog 127 .plain (wo true [] false [] [] Tryz.f127) [true,true] ae9:=bP.plain Tryz.func127 (by kernel_rfl) (by kernel_rfl)
noncomputable def u64:U:=aD [.call 127 y2 [y0,y1] [true],.ev (X' .geq y3 (ki 0))] (.ret (C' y4 y2))
theorem am0:bP Tryz.prog 64 .plain (wo true [] false [] [] Tryz.f64) [true,true] u64:=bP.plain Tryz.func64 (by kernel_rfl) (by kernel_rfl)
noncomputable def u61:U:=aD [.call 120 y4 [y0] [true],.ev (N' y5)] (.ite y6 (.ret (C' (ki 1) y4)) (aD [.aR (.nn y0),.aR (p' 0 y0),.aR (p' 0 (p' 0 y0)),.ev (l' y4 (p' 0 (p' 0 y0))),.call 97 y4 [y1,ki 1,y7] [true],.ev (N' y8),.chain true y9 (aD [.aR (.nn y0),.aR (p' 0 y0),.aR (p' 1 (p' 0 y0)),.ev (l' y4 (p' 1 (p' 0 y0))),.ev (M' y10 (ki 1)),.call 97 y4 [y2,ki 0,y11] [true],.ev (N' y12)] (.ret y13)),.chain true y10 (aD [.call 97 y4 [y3,ki 0,ki 1000000000000] [true],.ev (N' y11)] (.ret y12))] (.ite y11 (.ret (C' (ki 2) y4)) (.ret (C' (ki 0) y4)))))
theorem am3:bP Tryz.prog 61 .plain (wo true [] false [] [] Tryz.f61) [true,true,true,true] u61:=bP.plain Tryz.func61 (by kernel_rfl) (by kernel_rfl)
noncomputable def afc:U:=aD [.ev (.cw (j' (z' y0) .nil)),.ev (.b_ 177 .ai (.aa y2 .ai))] (.ret (C' y3 y1))
theorem ag5:bP Tryz.prog 122 .plain (wo false [] false [] [] Tryz.f122) [true] afc:=bP.plain Tryz.func122 (by kernel_rfl) (by kernel_rfl)
noncomputable def aaU:U:=aD [.aR (.bE 7 y1),.aR (.nn y0),.aR (p' 0 y0),.ev (l' y4 (p' 0 y0)),.ev (.ax 6 y5 (q' 4 y1)),.aR (.nn y6),.aR (p' 0 y6),.ev (l' y4 (p' 0 y6)),.ev (M' (q' 5 y1) y2),.ev (.mm true y7 y8),.aR (.nn y6),.aR (p' 1 y6),.ev (l' y4 (p' 1 y6)),.ev (P' (q' 5 y1) y2),.ev (.mm false y10 y11),.aR (.nn y6),.aR (p' 0 y6),.ev (.eL 1 y4 (p' 0 y6) y9),.aR (.nn y6),.aR (p' 1 y6),.ev (.eL 1 y13 (p' 1 y6) y12),.aR (.nn y0),.aR (p' 1 y0),.ev (l' y14 (p' 1 y0)),.ev (.mm true y15 (q' 4 y1)),.aR (.nn y0),.aR (p' 1 y0),.ev (.eL 1 y14 (p' 1 y0) y16),.ev (X' .neq y3 (ki 3)),.join 0 1 (.ite y18 (aD [.aR (.nn y0),.aR (p' 3 y0),.ev (l' y17 (p' 3 y0)),.ev (.ax 1 y19 (q' 4 y1)),.ev (.eL 1 y17 y20 (kb true))] (.jump 0 [y21] [])) (.jump 0 [y17] []))] (.ret (C' .ai y19))
theorem ZT:bP Tryz.prog 123 .plain (wo false [] false [] [] Tryz.f123) [true,false,true,true] aaU:=bP.plain Tryz.func123 (by kernel_rfl) (by kernel_rfl)
noncomputable def afb:U:=aD [.aR (.bE 7 y1),.aR (.nn y0),.aR (p' 0 y0),.ev (l' y4 (p' 0 y0)),.ev (.ax 6 y5 (q' 4 y1)),.aR (.nn y6),.aR (p' 0 y6),.ev (l' y4 (p' 0 y6)),.ev (M' (q' 5 y1) y2),.ev (P' y8 (ki 1)),.ev (.mm true y7 y9),.aR (.nn y6),.aR (p' 0 y6),.ev (.eL 1 y4 (p' 0 y6) y10)] (.ret (C' .ai y11))
theorem ag4:bP Tryz.prog 124 .plain (wo false [] false [] [] Tryz.f124) [true,false,true,true] afb:=bP.plain Tryz.func124 (by kernel_rfl) (by kernel_rfl)
noncomputable def afa:U:=aD [.aR (.bE 7 y1),.aR (.nn y0),.aR (p' 1 y0),.ev (l' y4 (p' 1 y0)),.ev (.mm true y5 (q' 4 y1)),.aR (.nn y0),.aR (p' 1 y0),.ev (.eL 1 y4 (p' 1 y0) y6),.aR (.nn y0),.aR (p' 2 y0),.ev (l' y7 (p' 2 y0)),.ev (.mm false y8 (q' 4 y1)),.aR (.nn y0),.aR (p' 2 y0),.ev (.eL 1 y7 (p' 2 y0) y9)] (.ret (C' .ai y10))
theorem ag3:bP Tryz.prog 125 .plain (wo false [] false [] [] Tryz.f125) [true,false,true,true] afa:=bP.plain Tryz.func125 (by kernel_rfl) (by kernel_rfl)
noncomputable def aaQ:U:=aD [.ev (.cw (j' (z' y0) .nil)),.ev (l' y2 y3),.call 120 y2 [y4] [true],.ev (N' y5)] (.ite y6 (.ret (C' (ki 1) y2)) (aD [.ev (.b_ 202 .ai (.aa y3 .ai)),.call 201 y2 [y1,y7] [true]] (.ite y8 (.ret (C' (ki 2) y2)) (aD [.ev (l' y2 y3),.aR (.nn y9),.aR (p' 4 y9),.ev (l' y2 (p' 4 y9)),.bw 204 y2 [y10] [true],.ev (.bI y1),.join 0 1 (.loop 1 [ki 0,y12] (aD [.ev (X' .lss y14 y13)] (.ite y16 (aD [.join 2 1 (aD [.ev (.ax 7 y1 y14),.ev (.ld true 7 y15 y17),.aR (.bE 7 y18),.call 205 y15 [r6 7 y18] [false],.aR (.bE 7 y19),.ev (.m4 (.xM (.agg [0,0,0,0,0,0,0])) y15 y11 (r6 7 y19) (ki 0)),.ev (N' (t' y20)),.chain true y21 (aD [.aR (q' 6 y18),.aR (s' y20),.ev (X' .lss (q' 6 y18) (s' y20))] (.ret y22)),.join 3 1 (.ite y22 (aD [.ev (.m4 (.put (.agg [0,0,0,0,0,0,0])) y15 y11 (r6 7 y19) (q' 6 y18))] (.jump 3 [y23] [])) (.jump 3 [y15] []))] (.jump 2 [y23] [s' y20,t' y20,r6 7 y18,C' (s' y20) (t' y20),r6 7 y19,C' (s' y20) (t' y20),s' y20,t' y20,t' y20,q' 0 y18,q' 1 y18,q' 2 y18,q' 3 y18,q' 4 y18,q' 5 y18,q' 6 y18,q' 0 y19,q' 1 y19,q' 2 y19,q' 3 y19,q' 4 y19,q' 5 y19,q' 6 y19])),.ev (P' y14 (ki 1))] (.jump 1 [y18,y17] [])) (.jump 0 [y15] [])))),.ev (n' .XD y14 y11),.ev (X' .gtr y15 (ki 5000))] (.ite y16 (.ret (C' (ki 4) y14)) (aD [.ev (l' y14 y3),.aR (.nn y17),.aR (p' 4 y17),.ev (.eL 1 y14 (p' 4 y17) y11)] (.ret (C' (ki 0) y18))))))))
theorem ZP:bP Tryz.prog 161 .plain (wo false [] false [] [] Tryz.f161) [true,true] aaQ:=bP.plain Tryz.func161 (by kernel_rfl) (by kernel_rfl)
noncomputable def u33:U:=aD [.call 61 y4 [y0,ki 1,ki 0,y3] [true],.ev (X' .neq y5 (ki 0))] (.ite y6 (.ret (C' (C' (.const (.bk [])) y5) y4)) (aD [.ev (X' .lss y1 (ki 0)),.chain true y7 (aD [.ev (X' .geq y1 y2)] (.ret y8)),.chain true y8 (aD [.aR (.nn y0),.aR (p' 0 y0),.aR (p' 1 (p' 0 y0)),.ev (l' y4 (p' 1 (p' 0 y0))),.ev (X' .geq y2 y9)] (.ret y10))] (.ite y9 (.ret (C' (C' (.const (.bk [])) (ki 2)) y4)) (aD [.bw 62 y4 [y0,y3] [true],.join 0 2 (.loop 1 [.const (.bk []),ki 1,y11] (aD [.aR (.nn y0),.aR (p' 0 y0),.aR (p' 0 (p' 0 y0)),.ev (l' y14 (p' 0 (p' 0 y0))),.ev (X' .leq y13 y15)] (.ite y16 (aD [.join 2 2 (aD [.bw 63 y14 [y10,y13] [true],.ev (.sub 6 y17 (ki 0) y1),.call 64 y18 [y19,.const (.fn 65 [] [])] [true],.ev (.ax 6 y17 y2),.aR (p' 2 y21),.ev (l' y18 (p' 2 y21)),.ev (N' y22),.chain false y23 (aD [.ev (.ax 6 y17 y1),.aR (p' 2 y24),.ev (l' y18 (p' 2 y24)),.chain true y25 (aD [.ev (N' y20),.chain false y26 (aD [.ev (.ax 6 y17 y1),.aR (p' 0 y27),.ev (l' y18 (p' 0 y27)),.ev (X' .leq y28 y3)] (.ret y29))] (.ret y27))] (.ret y26)),.join 3 1 (.ite y24 (aD [.ev (.bz (z' y13) (.const (.bk []))),.ev (.app 1 8 y12 y25)] (.jump 3 [y26] [])) (.jump 3 [y12] []))] (.jump 2 [y25,y18] [y17,y17,y17,y17])),.ev (P' y13 (ki 1))] (.jump 1 [y17,y19,y18] [])) (.jump 0 [y12,y14] []))))] (.ret (C' (C' y12 (ki 0)) y13))))))
theorem ane:bP Tryz.prog 33 .plain (wo false [] false [] [] Tryz.f33) [true,true,true,true] u33:=bP.plain Tryz.func33 (by kernel_rfl) (by kernel_rfl)
noncomputable def WU:U:=aD [.call 120 y1 [y0] [true],.ev (N' y2)] (.ite y3 (.ret (C' (.const (.bk [])) y1)) (aD [.aR (.nn y0),.aR (p' 4 y0),.ev (l' y1 (p' 4 y0)),.ev (n' .rng y1 y4),.join 0 2 (.loop 1 [.const .bS,y5] (aD [.pick (n' .next y7 (.aJ y1)),.aR (s' y8)] (.ite (s' y8) (aD [.join 2 2 (aD [.ev (n' .entry y9 (.aJ y1)),.aR (.bE 7 (s' y10)),.aR (z' (t' y10)),.ev (.bz (.bE 7 (j' (q' 0 (s' y10)) (j' (q' 1 (s' y10)) (j' (q' 2 (s' y10)) (j' (q' 3 (s' y10)) (j' (q' 4 (s' y10)) (j' (q' 5 (s' y10)) (j' (t' y10) .nil)))))))) (.const (.bk []))),.ev (.gM 224 7 56 y9 y6 y11)] (.jump 2 [.apps y9 y6 y11,y12] [t' y10,C' (s' y10) (t' y10),s' y10,t' y10,t' y10,j' (q' 0 (s' y10)) (j' (q' 1 (s' y10)) (j' (q' 2 (s' y10)) (j' (q' 3 (s' y10)) (j' (q' 4 (s' y10)) (j' (q' 5 (s' y10)) (j' (t' y10) .nil)))))),.apps y9 y6 y11,q' 0 (s' y10),q' 1 (s' y10),q' 2 (s' y10),q' 3 (s' y10),q' 4 (s' y10),q' 5 (s' y10),t' y10]))] (.jump 1 [y10,y11] [])) (.jump 0 [y6,y9] [y8])))),.bw 175 y7 [y6,.const (.fn 176 [] [])] []] (.ret (C' y6 y9))))
theorem TH:bP Tryz.prog 121 .plain (wo false [] false [3] [] Tryz.f121) [true] WU:=bP.plain Tryz.func121 (by kernel_rfl) (by kernel_rfl)
noncomputable def aeR:U:=aD [.ev (l' y3 y1),.aR (.nn y4),.aR (p' 2 y4),.ev (l' y3 (p' 2 y4)),.ev (.bI y5),.join 0 1 (.loop 1 [ki 0,y3] (aD [.ev (X' .lss y7 y6)] (.ite y9 (aD [.join 2 1 (aD [.ev (.ax 1 y5 y7),.ev (l' y8 y10),.ev (l' y8 y1),.aR (.nn y12),.aR (p' 1 y12),.ev (l' y8 (p' 1 y12)),.ev (.ax 7 y13 y11),.ev (.ld true 7 y8 y14),.aR (.bE 7 y15),.ev (X' .neq (q' 2 y15) (ki 4)),.chain false y16 (aD [.aR (q' 3 y15),.ev (l' y8 y2),.ev (Q' (q' 3 y15) y17)] (.ret y18)),.gen (.dG [(y17,true)] y0 y8 [y11,r6 7 y15] [true]),.chain false y17 (aD [.ev (N' (s' y18))] (.ret y19))] (.ite y19 (.ret (C' .ai (t' y18))) (.jump 2 [t' y18] [q' 2 y15,q' 0 y15,q' 1 y15,q' 2 y15,q' 3 y15,q' 4 y15,q' 5 y15,q' 6 y15]))),.ev (P' y7 (ki 1))] (.jump 1 [y11,y10] [])) (.jump 0 [y8] []))))] (.ret (C' .ai y7))
theorem agJ:bP Tryz.prog 178 .plain (wo false [1000036] false [] [] Tryz.f178) [true,true,true] aeR:=bP.plain Tryz.func178 (by kernel_rfl) (by kernel_rfl)
noncomputable def aeS:U:=aD [.ev (l' y2 y1),.ev (.bI y3),.ev (M' y4 (ki 1)),.join 0 1 (.loop 1 [y5,y2] (aD [.ev (X' .geq y6 (ki 0))] (.ite y8 (aD [.join 2 1 (aD [.ev (l' y7 y1),.ev (.ax 7 y9 y6),.ev (.ld true 7 y7 y10),.gen (.dG [] y0 y7 [y6,y11] [true]),.ev (N' (s' y12))] (.ite y13 (.ret (C' .ai (t' y12))) (.jump 2 [t' y12] [s' y12]))),.ev (M' y6 (ki 1))] (.jump 1 [y10,y9] [])) (.jump 0 [y7] []))))] (.ret (C' .ai y6))
theorem agK:bP Tryz.prog 177 .plain (wo false [1000017] false [] [] Tryz.f177) [true,true] aeS:=bP.plain Tryz.func177 (by kernel_rfl) (by kernel_rfl)
noncomputable def u62:U:=aD [.ev (.cw (j' (z' y1) .nil)),.bw 121 y2 [y0] [true],.ev (j' (z' y0) (j' (z' y4) (j' (.const (.agg [.bS])) .nil))),.ev (.fO 220 3 y5 (.bE 3 y6)),.ev (m' .GG y7),.ev (.fO 221 1 y8 (.const (.agg [.v (.map none)]))),.ev (.eL 1 y9 (.aJ y8) (m' .ez y7)),.ev (.nn (.aJ y5)),.aR (p' 1 y11),.ev (l' y10 (p' 1 y11)),.ev (.bI y12),.join 0 3 (.loop 1 [ki 0,y10] (aD [.ev (X' .lss y14 y13)] (.ite y16 (aD [.join 2 1 (aD [.ev (.ax 7 y12 y14),.ev (.ld true 7 y15 y17),.aR (.bE 7 y18),.ev (l' y15 y3),.ev (X' .leq (q' 6 y18) y19),.join 3 1 (.ite y20 (aD [.ev (l' y15 (.aJ y8)),.ev (j' (z' (q' 0 y18)) (j' (z' (q' 1 y18)) .nil)),.ev (.m4 (.get (.agg [0,0]) false) y15 y21 y22 (ki 0)),.ev (P' y23 (ki 1)),.ev (.m4 (.YM (.agg [0,0])) y15 y21 y22 (ki 0)),.ev (.m4 .nw y25 y21 (t' (.m4 (.QV (.agg [0,0])) y15 y21 y22 (ki 0))) y24),.ev (n' .same (.m4 (.get (.agg [0,0]) false) y15 y21 y22 (ki 0)) (.m4 (.get (.agg [0,0]) false) y25 y21 y22 (ki 0)))] (.jump 3 [y26] [])) (.jump 3 [y15] []))] (.jump 2 [y21] [q' 6 y18,q' 0 y18,q' 1 y18,q' 2 y18,q' 3 y18,q' 4 y18,q' 5 y18,q' 6 y18])),.ev (P' y14 (ki 1))] (.jump 1 [y18,y17] [])) (.jump 0 [y14,y16,y15] [])))),.ev (m' .GG y16),.ev (.fO 227 1 y17 (.const (.agg [.v (.map none)]))),.ev (.eL 1 y18 (.aJ y17) (m' .ez y16)),.ev (.nn (.aJ y5)),.aR (p' 1 y20),.ev (l' y19 (p' 1 y20)),.bw 122 y19 [y21] [true],.join 0 1 (aD [.nW y22 y23 [0,1,3,4,5,6,9,16,17,18,19,20,21,22,23,24,25,26,27,28,46,47,48,49,50,51] [y0,y1,y3,.const (.v (.pointer none)),.aJ y5,.aJ y8,.aJ y17,y0,y0,y4,y6,.aJ y5,m' .ez y7,.aJ y5,y11,p' 1 y11,y12,y13,y14,y15,m' .ez y16,.aJ y5,y20,p' 1 y20,y21,y22] 2 1 (aD [.ev (.fO 224 7 y24 (.const (.agg [.v (.int .i64 0),.v (.int .i64 0),.v (.int .i64 0),.v (.int .i64 0),.v (.int .i64 0),.v (.int .i64 0),.v (.int .i64 0)]))),.ev (.eL 7 y27 (.aJ y24) y26),.join 2 1 (aD [.ev (p' 0 (.aJ y24)),.ev (l' y28 y29),.ev (p' 1 (.aJ y24)),.ev (l' y28 y31),.ev (j' (z' y30) (j' (z' y32) .nil)),.ev (.fO 226 2 y28 (.const (.agg [.v (.int .i64 0),.v (.int .i64 0)]))),.ev (.eL 2 y34 (.aJ y28) y33),.ev (p' 2 (.aJ y24)),.ev (l' y35 y36),.ev (Q' y37 (ki 4)),.chain false y38 (aD [.ev (p' 6 (.aJ y24)),.ev (l' y35 y39),.ev (l' y35 y3),.ev (X' .leq y40 y41)] (.ret y42)),.chain false y39 (aD [.ev (l' y35 (.aJ y8)),.ev (.ld true 2 y35 (.aJ y28)),.ev (.m4 (.get (.agg [0,0]) false) y35 y40 y41 (ki 0)),.ev (Q' y42 (ki 1))] (.ret y43)),.chain false y40 (aD [.ev (l' y35 (.aJ y17)),.ev (.ld true 2 y35 (.aJ y28)),.ev (.m4 (.get (.agg [0,0]) false) y35 y41 y42 (kb false)),.ev (N' y43)] (.ret y44)),.join 3 1 (.ite y41 (aD [.ev (l' y35 (.aJ y17)),.ev (p' 0 (.aJ y24)),.ev (l' y35 y43),.ev (p' 3 (.aJ y24)),.ev (l' y35 y45),.ev (j' (z' y44) (j' (z' y46) .nil)),.ev (.m4 (.put (.agg [0,0])) y35 y42 y47 (kb true))] (.jump 3 [y48] [])) (.jump 3 [y35] []))] (.jump 2 [y42] []))] (.jump 1 [y29] []))] (.jump 0 [y24] [])),.ev (.nn (.aJ y5)),.aR (p' 1 y25),.ev (l' y24 (p' 1 y25)),.ev (.bI y26),.join 0 1 (.loop 1 [ki 0,y24] (aD [.ev (X' .lss y28 y27)] (.ite y30 (aD [.join 2 1 (aD [.ev (.ax 7 y26 y28),.ev (.ld true 7 y29 y31),.aR (.bE 7 y32),.ev (j' (z' (q' 0 y32)) (j' (z' (q' 1 y32)) .nil)),.aR (.bE 2 y33),.ev (l' y29 y3),.ev (X' .leq (q' 6 y32) y34),.chain false y35 (aD [.ev (l' y29 (.aJ y8)),.ev (.m4 (.get (.agg [0,0]) false) y29 y36 (r6 2 y33) (ki 0)),.ev (Q' y37 (ki 1))] (.ret y38)),.chain false y36 (aD [.ev (l' y29 (.aJ y17)),.ev (.m4 (.get (.agg [0,0]) false) y29 y37 (r6 2 y33) (kb false)),.ev (N' y38)] (.ret y39)),.join 3 1 (.ite y37 (aD [.ev (.nn (.aJ y5)),.aR (p' 2 y38),.ev (l' y29 (p' 2 y38)),.ev (.bz (z' y28) (.const (.bk []))),.ev (.gM 3 1 8 y29 y39 y40),.ev (.nn (.aJ y5)),.aR (p' 2 y42),.ev (.eL 1 y41 (p' 2 y42) (.apps y29 y39 y40))] (.jump 3 [y43] [])) (.jump 3 [y29] []))] (.jump 2 [y38] [q' 0 y32,q' 1 y32,q' 6 y32,q' 0 y32,q' 1 y32,q' 2 y32,q' 3 y32,q' 4 y32,q' 5 y32,q' 6 y32,q' 0 y33,q' 1 y33])),.ev (P' y28 (ki 1))] (.jump 1 [y32,y31] [])) (.jump 0 [y29] []))))] (.ret (C' (.aJ y5) y28))
theorem am2:bP Tryz.prog 62 .plain (wo false [] true [20] [] Tryz.f62) [true,true] u62:=bP.plain Tryz.func62 (by kernel_rfl) (by kernel_rfl)
noncomputable def u63:U:=aD [.ev (.cw (j' (z' y0) .nil)),.ev (l' y2 y3),.aR (.nn y4),.aR (p' 0 y4),.ev (l' y2 (p' 0 y4)),.aR (.nn y5),.aR (p' 0 y5),.aR (p' 1 (p' 0 y5)),.ev (l' y2 (p' 1 (p' 0 y5))),.ev (.rep 24 y6 (.agg [.v (.int .i64 0),.v (.int .i64 0),.v (.bool false),.v (.bool false),.v (.bool false),.v (.bool false)])),.ev (l' y2 y3),.aR (.nn y8),.aR (p' 0 y8),.ev (l' y2 (p' 0 y8)),.aR (.nn y9),.aR (p' 0 y9),.aR (p' 1 (p' 0 y9)),.ev (l' y2 (p' 1 (p' 0 y9))),.ev (l' y2 y3),.aR (.nn y11),.aR (p' 0 y11),.ev (l' y2 (p' 0 y11)),.aR (.nn y12),.aR (p' 0 y12),.aR (p' 1 (p' 0 y12)),.ev (l' y2 (p' 1 (p' 0 y12))),.ev (.rep 1 y13 (.v (.bool false))),.ev (l' (.fO 1000000000 4 (.cE 1000000000 1 (.cE 1000000000 6 y2 y7) y14) (j' (.cR y2 y7) (j' (ki (-1)) (j' y10 (j' (.cR (.cE 1000000000 6 y2 y7) y14) .nil))))) (.cw (j' (.aJ (.cE 1000000000 1 (.cE 1000000000 6 y2 y7) y14)) .nil))),.aR (.nn y15),.aR (p' 0 y15),.ev (l' (.fO 1000000000 4 (.cE 1000000000 1 (.cE 1000000000 6 y2 y7) y14) (j' (.cR y2 y7) (j' (ki (-1)) (j' y10 (j' (.cR (.cE 1000000000 6 y2 y7) y14) .nil))))) (p' 0 y15)),.ev (.bI y16),.join 0 3 (.loop 1 [ki 0,.fO 1000000000 4 (.cE 1000000000 1 (.cE 1000000000 6 y2 y7) y14) (j' (.cR y2 y7) (j' (ki (-1)) (j' y10 (j' (.cR (.cE 1000000000 6 y2 y7) y14) .nil))))] (aD [.ev (X' .lss y18 y17)] (.ite y20 (aD [.join 2 1 (aD [.ev (l' y19 (.cw (j' (.aJ (.cE 1000000000 1 (.cE 1000000000 6 y2 y7) y14)) .nil))),.aR (.nn y21),.aR (p' 0 y21),.ev (l' y19 (p' 0 y21)),.ev (l' y19 (.cw (j' (.aJ (.cE 1000000000 1 (.cE 1000000000 6 y2 y7) y14)) .nil))),.aR (.nn y23),.aR (p' 0 y23),.ev (l' y19 (p' 0 y23)),.ev (.ax 6 y22 y18),.aR (p' 0 y25),.ev (.eL 1 y19 (p' 0 y25) (ki (-10000000000000))),.ev (.ax 6 y24 y18),.aR (p' 1 y27),.ev (.eL 1 y26 (p' 1 y27) (ki 10000000000000))] (.jump 2 [y28] [])),.ev (P' y18 (ki 1))] (.jump 1 [y22,y21] [])) (.jump 0 [y18,y20,y19] [])))),.ev (l' y20 y3),.call 126 y20 [y21,y1] [true],.join 0 1 (aD [.nW y22 y20 [0,1,2,5,7,16,17,18,19,20,21,22,23,24,25,26,27,28,29,30,31,32,33,34,35,36,37,38,39,40,41,43,44,45,46,47,48,49,50,68,69,70] [y0,y1,y3,.cw (j' (.aJ (.cE 1000000000 1 (.cE 1000000000 6 y2 y7) y14)) .nil),.cw (j' (.const (.v .nilFunc)) (j' (.const (.fn 123 [] [])) (j' (.const (.fn 124 [] [])) (j' (.const (.fn 125 [] [])) .nil)))),y4,y4,p' 0 y4,y5,y5,p' 0 y5,p' 1 (p' 0 y5),y6,.cR y2 y7,y8,y8,p' 0 y8,y9,y9,p' 0 y9,p' 1 (p' 0 y9),y10,y11,y11,p' 0 y11,y12,y12,p' 0 y12,p' 1 (p' 0 y12),y13,.cR (.cE 1000000000 6 y2 y7) y14,.aJ (.cE 1000000000 1 (.cE 1000000000 6 y2 y7) y14),y15,y15,p' 0 y15,y16,y17,y18,y19,y21,y1,y22] 2 1 (aD [.ev (.fO 224 7 y23 (.const (.agg [.v (.int .i64 0),.v (.int .i64 0),.v (.int .i64 0),.v (.int .i64 0),.v (.int .i64 0),.v (.int .i64 0),.v (.int .i64 0)]))),.ev (.eL 7 y26 (.aJ y23) y25),.join 2 1 (aD [.ev (l' y27 y3),.aR (.nn y28),.aR (p' 0 y28),.ev (l' y27 (p' 0 y28)),.aR (.nn y29),.aR (p' 3 y29),.ev (l' y27 (p' 3 y29)),.ev (p' 0 (.aJ y23)),.ev (l' y27 y31),.ev (.ax 2 y30 y32),.ev (.ld true 2 y27 y33),.ev (.fO 108 2 y27 (.const (.agg [.v (.int .i64 0),.v (.int .i64 0)]))),.ev (.eL 2 y35 (.aJ y27) y34),.ev (n' .same (l' y27 y3) (l' y35 y3)),.ev (n' .same (l' y27 (p' 0 y28)) (l' y35 (p' 0 y28))),.ev (n' .same (l' y27 (p' 3 y29)) (l' y35 (p' 3 y29))),.ev (n' .same (l' y27 y31) (l' y35 y31)),.ev (n' .same (.ld true 2 y27 y33) (.ld true 2 y35 y33)),.ev (p' 2 (.aJ y23)),.ev (l' y36 y42),.ev (n' (.iJ 4 1) (.cw (j' (.const (.v .nilFunc)) (j' (.const (.fn 123 [] [])) (j' (.const (.fn 124 [] [])) (j' (.const (.fn 125 [] [])) .nil))))) y43),.ev (l' y36 y44),.ev (l' y36 (.cw (j' (.aJ (.cE 1000000000 1 (.cE 1000000000 6 y2 y7) y14)) .nil))),.ev (.ld true 7 y36 (.aJ y23)),.ev (p' 1 (.aJ y27)),.ev (l' y36 y48),.ev (p' 0 (.aJ y27)),.ev (l' y36 y50),.gen (.dG [] y45 y36 [y46,y47,y49,y51] [])] (.jump 2 [t' y52] []))] (.jump 1 [y28] []))] (.jump 0 [y23] [])),.ev (l' y23 (.cw (j' (.aJ (.cE 1000000000 1 (.cE 1000000000 6 y2 y7) y14)) .nil))),.aR (.nn y24),.aR (p' 0 y24),.ev (l' y23 (p' 0 y24)),.join 0 1 (.loop 1 [ki 1,y23] (aD [.ev (l' y27 y3),.aR (.nn y28),.aR (p' 0 y28),.ev (l' y27 (p' 0 y28)),.aR (.nn y29),.aR (p' 0 y29),.aR (p' 1 (p' 0 y29)),.ev (l' y27 (p' 1 (p' 0 y29))),.ev (X' .lss y26 y30)] (.ite y31 (aD [.join 2 1 (aD [.ev (.ax 6 y25 y26),.aR (p' 0 y32),.ev (l' y27 (p' 0 y32)),.ev (M' y26 (ki 1)),.ev (.ax 6 y25 y34),.aR (p' 0 y35),.ev (l' y27 (p' 0 y35)),.ev (l' y27 y3),.aR (.nn y37),.aR (p' 0 y37),.ev (l' y27 (p' 0 y37)),.aR (.nn y38),.aR (p' 0 y38),.aR (p' 2 (p' 0 y38)),.ev (l' y27 (p' 2 (p' 0 y38))),.ev (M' y26 (ki 1)),.ev (.ax 1 y39 y40),.ev (l' y27 y41),.ev (P' y36 y42),.ev (.mm true y33 y43),.ev (.ax 6 y25 y26),.aR (p' 0 y45),.ev (.eL 1 y27 (p' 0 y45) y44)] (.jump 2 [y46] [])),.ev (P' y26 (ki 1))] (.jump 1 [y33,y32] [])) (.jump 0 [y27] [])))),.ev (l' y26 y3),.aR (.nn y27),.aR (p' 0 y27),.ev (l' y26 (p' 0 y27)),.aR (.nn y28),.aR (p' 0 y28),.aR (p' 1 (p' 0 y28)),.ev (l' y26 (p' 1 (p' 0 y28))),.ev (M' y29 (ki 2)),.join 0 1 (.loop 1 [y30,y26] (aD [.ev (X' .geq y31 (ki 0))] (.ite y33 (aD [.join 2 1 (aD [.ev (.ax 6 y25 y31),.aR (p' 1 y34),.ev (l' y32 (p' 1 y34)),.ev (P' y31 (ki 1)),.ev (.ax 6 y25 y36),.aR (p' 1 y37),.ev (l' y32 (p' 1 y37)),.ev (l' y32 y3),.aR (.nn y39),.aR (p' 0 y39),.ev (l' y32 (p' 0 y39)),.aR (.nn y40),.aR (p' 0 y40),.aR (p' 2 (p' 0 y40)),.ev (l' y32 (p' 2 (p' 0 y40))),.ev (.ax 1 y41 y31),.ev (l' y32 y42),.ev (M' y38 y43),.ev (.mm false y35 y44),.ev (.ax 6 y25 y31),.aR (p' 1 y46),.ev (.eL 1 y32 (p' 1 y46) y45)] (.jump 2 [y47] [])),.ev (M' y31 (ki 1))] (.jump 1 [y35,y34] [])) (.jump 0 [y32] [])))),.ev (.bI y25),.join 0 1 (.loop 1 [ki 0,y31] (aD [.ev (X' .lss y33 y32)] (.ite y35 (aD [.join 2 1 (aD [.ev (.ax 6 y25 y33),.ev (l' y34 (.cw (j' (.aJ (.cE 1000000000 1 (.cE 1000000000 6 y2 y7) y14)) .nil))),.aR (.nn y37),.aR (p' 1 y37),.ev (l' y34 (p' 1 y37)),.ev (X' .leq y33 y38),.aR (.nn y36),.aR (p' 2 y36),.ev (.eL 1 y34 (p' 2 y36) y39),.ev (l' y40 (.cw (j' (.aJ (.cE 1000000000 1 (.cE 1000000000 6 y2 y7) y14)) .nil))),.aR (.nn y41),.aR (p' 2 y41),.ev (l' y40 (p' 2 y41)),.ev (Q' y33 y42),.aR (.nn y36),.aR (p' 3 y36),.ev (.eL 1 y40 (p' 3 y36) y43),.aR (.nn y36),.aR (p' 0 y36),.ev (l' y44 (p' 0 y36)),.aR (.nn y36),.aR (p' 1 y36),.ev (l' y44 (p' 1 y36)),.ev (X' .gtr y45 y46),.chain true y47 (aD [.aR (.nn y36),.aR (p' 2 y36),.ev (l' y44 (p' 2 y36)),.chain false y48 (aD [.ev (l' y44 (.cw (j' (.aJ (.cE 1000000000 1 (.cE 1000000000 6 y2 y7) y14)) .nil))),.aR (.nn y49),.aR (p' 2 y49),.ev (l' y44 (p' 2 y49)),.ev (X' .lss y50 y33)] (.ret y51))] (.ret y49)),.aR (.nn y36),.aR (p' 5 y36),.ev (.eL 1 y44 (p' 5 y36) y48),.aR (.nn y36),.aR (p' 2 y36),.ev (l' y49 (p' 2 y36)),.chain false y50 (aD [.ev (l' y49 (.cw (j' (.aJ (.cE 1000000000 1 (.cE 1000000000 6 y2 y7) y14)) .nil))),.aR (.nn y51),.aR (p' 3 y51),.ev (l' y49 (p' 3 y51)),.ev (.ax 1 y52 y33),.ev (l' y49 y53),.ev (N' y54)] (.ret y55)),.chain true y51 (aD [.aR (.nn y36),.aR (p' 5 y36),.ev (l' y49 (p' 5 y36))] (.ret y52)),.aR (.nn y36),.aR (p' 4 y36),.ev (.eL 1 y49 (p' 4 y36) y52)] (.jump 2 [y53] [])),.ev (P' y33 (ki 1))] (.jump 1 [y37,y36] [])) (.jump 0 [y34] []))))] (.ret (C' y25 y33))
theorem am1:bP Tryz.prog 63 .plain (wo false [1000094] false [] [(2,1000024),(2,1000041),(2,1000043),(2,5),(8,7)] Tryz.f63) [true,true] u63:=bP.plain Tryz.func63 (by kernel_rfl) (by kernel_rfl)
end
section
structure aF where
 source:Int
 number:Int
 kind:Int
 dV:Int
 place:Int
 time:Int
 aX:Int
deriving DecidableEq
def key (r:aF):List Int:=[r.source,r.number,r.kind,r.dV,r.place,r.time]
def dW (r:aF):aF:={ r with aX:=0 }
def Gm (r:aF)(a:Int):aF:={ r with aX:=a }
def lx:List Int→List Int→Bool
 | [],[]=>false
 | [],_ :: _=>true
 | _ :: _,[]=>false
 | x :: xs,y :: ys=>if x=y then lx xs ys else decide (x<y)
theorem Me:∀xs:List Int,lx xs xs=false
 | []=>rfl
 | x :: xs=>by simp[lx,Me xs]
theorem Ja:∀{xs ys zs:List Int},lx xs ys=true→lx ys zs=true→lx xs zs=true
 | [],[],_,h,_=>by simp[lx] at h
 | [],_ :: _,[],_,h=>by simp[lx] at h
 | [],_ :: _,_ :: _,_,_=>rfl
 | _ :: _,[],_,h,_=>by simp[lx] at h
 | _ :: _,_ :: _,[],_,h=>by simp[lx] at h
 | x :: xs,y :: ys,z :: zs,h1,h2=>by
  simp only[lx] at h1 h2 ⊢
  by_cases e1:x=y
  ·rw[A0z e1] at h1
   by_cases e2:y=z
   ·rw[A0z e2] at h2;rw[A0z (e1.trans e2)];exact Ja h1 h2
   ·rw[A0B e2] at h2;rw[A0B (by omega)];simp at h2 ⊢;omega
  ·rw[A0B e1] at h1;simp at h1
   by_cases e2:y=z
   ·rw[A0B (by omega)];simp;omega
   ·rw[A0B e2] at h2;simp at h2;rw[A0B (by omega)];simp;omega
theorem GO:∀{xs ys:List Int},xs.length=ys.length→lx xs ys=false→lx ys xs=false→xs=ys
 | [],[],_,_,_=>rfl
 | [],_ :: _,h,_,_=>by simp at h
 | _ :: _,[],h,_,_=>by simp at h
 | x :: xs,y :: ys,hl,h1,h2=>by
  simp only[lx] at h1 h2
  by_cases e:x=y
  ·subst e;simp at h1 h2;rw[GO (by simpa using hl) h1 h2]
  ·rw[A0B e] at h1;rw[A0B (by omega)] at h2;simp at h1 h2;omega
def before (a b:aF):Bool:=lx (key a) (key b)
theorem l8 (a:aF):before a a=false:=Me _
theorem before_trans {a b d:aF}(h1:before a b=true)(h2:before b d=true):before a d=true:=Ja h1 h2
theorem KV {a b:aF}(h:before a b=true):before b a=false:=by
 cases e:before b a
 ·rfl
 ·have:=before_trans h e;rw[l8] at this;cases this
theorem CQ {a b:aF}(h1:before a b=false)(h2:before b a=false):key a=key b:=GO rfl h1 h2
theorem L7 {a b:aF}(h:key a=key b):before a b=false:=by unfold before;rw[h];exact Me _
theorem Gu {a b:aF}(h:key a=key b)(h2:a.aX=b.aX):a=b:=by cases a;cases b;simp[key] at h h2 ⊢;exact⟨h.1,h.2.1,h.2.2.1,h.2.2.2.1,h.2.2.2.2.1,h.2.2.2.2.2,h2⟩
theorem OA (r:aF)(a:Int):key (Gm r a)=key r:=rfl
theorem PZ {a b:aF}:dW a=dW b↔key a=key b:=by
 constructor
 ·intro h;have:=B0q key h;exact this
 ·intro h;exact Gu h rfl
def ins (r:aF):List aF→List aF
 | []=>[r]
 | x :: xs=>if before x r=true then x :: ins r xs else if key x=key r then Gm x (min x.aX r.aX) :: xs else r :: x :: xs
def ef (l:List aF):List aF:=l.foldl (fun o r=>ins r o) []
abbrev Ord (o:List aF):Prop:=o.Pairwise fun a b=>before a b=true
theorem DW {a b d:aF}(h:key a=key b):before a d=before b d:=by unfold before;rw[h]
theorem tK {a b d:aF}(h:key a=key b):before d a=before d b:=by unfold before;rw[h]
theorem Bf {r:aF}:∀{o:List aF},Ord o→∀x,x∈ins r o↔(x∈o∧key x≠key r)∨((∃y,y∈o∧key y=key r∧x=Gm y (min y.aX r.aX))∨((∀y,y∈o→key y≠key r)∧x=r))
 | [],_,x=>by simp[ins]
 | z :: o,h,x=>by
  rw[Ord,C0E] at h;unfold ins
  by_cases hb:before z r=true
  ·have hk:key z≠key r:=fun e=>by rw[L7 e] at hb;cases hb
   rw[A0z hb,A0E,Bf h.2];constructor
   ·rintro(rfl | h1 | ⟨y,h1,h2,h3⟩ | ⟨h1,h2⟩)
    ·exact .inl ⟨B0m,hk⟩
    ·exact .inl ⟨B0f _ h1.1,h1.2⟩
    ·exact .inr (.inl ⟨y,B0f _ h1,h2,h3⟩)
    ·refine .inr (.inr ⟨fun y hy=>?_,h2⟩);rcases A0E.1 hy with rfl | hy
     ·exact hk
     ·exact h1 y hy
   ·rintro(⟨h1,h2⟩ | ⟨y,h1,h2,h3⟩ | ⟨h1,h2⟩)
    ·rcases A0E.1 h1 with rfl | h1
     ·exact .inl rfl
     ·exact .inr (.inl ⟨h1,h2⟩)
    ·rcases A0E.1 h1 with rfl | h1
     ·exact absurd h2 hk
     ·exact .inr (.inr (.inl ⟨y,h1,h2,h3⟩))
    ·exact .inr (.inr (.inr ⟨fun y hy=>h1 y (B0f _ hy),h2⟩))
  ·rw[A0B hb]
   by_cases hk:key z=key r
   ·have hn:∀y,y∈o→key y≠key r:=fun y hy e=>by have:=h.1 y hy;rw[tK (e.trans hk.symm),l8] at this;cases this
    rw[A0z hk,A0E];constructor
    ·rintro(rfl | h1)
     ·exact .inr (.inl ⟨z,B0m,hk,rfl⟩)
     ·exact .inl ⟨B0f _ h1,hn x h1⟩
    ·rintro(⟨h1,h2⟩ | ⟨y,h1,h2,h3⟩ | ⟨h1,h2⟩)
     ·rcases A0E.1 h1 with rfl | h1
      ·exact absurd hk h2
      ·exact .inr h1
     ·rcases A0E.1 h1 with rfl | h1
      ·exact .inl h3
      ·exact absurd h2 (hn y h1)
     ·exact absurd hk (h1 z B0m)
   ·have hzr:before r z=true:=by
     cases e:before r z
     ·exact absurd (CQ (by simpa using hb) e) hk
     ·rfl
    have hn:∀y,y∈z :: o→key y≠key r:=fun y hy e=>by
     rcases A0E.1 hy with rfl | hy
     ·exact hk e
     ·have h1:=h.1 y hy;rw[tK e] at h1;exact absurd h1 (by simpa using hb)
    rw[A0B hk,A0E];constructor
    ·rintro(rfl | h1)
     ·exact .inr (.inr ⟨hn,rfl⟩)
     ·exact .inl ⟨h1,hn x h1⟩
    ·rintro(⟨h1,_⟩ | ⟨y,h1,h2,_⟩ | ⟨_,h2⟩)
     ·exact .inr h1
     ·exact absurd h2 (hn y h1)
     ·exact .inl h2
theorem N9 {r:aF}:∀{o:List aF},Ord o→Ord (ins r o)
 | [],_=>by simp[ins]
 | z :: o,h=>by
  have h':=h;rw[Ord,C0E] at h;unfold ins
  by_cases hb:before z r=true
  ·rw[A0z hb,Ord,C0E];refine⟨fun x hx=>?_,N9 h.2⟩;rcases(Bf h.2 x).1 hx with⟨h1,_⟩ | ⟨y,h1,_,rfl⟩ | ⟨_,rfl⟩
   ·exact h.1 x h1
   ·rw[tK (OA y _)];exact h.1 y h1
   ·exact hb
  ·rw[A0B hb]
   by_cases hk:key z=key r
   ·rw[A0z hk,Ord,C0E];exact⟨fun x hx=>by rw[DW (OA z _)];exact h.1 x hx,h.2⟩
   ·have hzr:before r z=true:=by
     cases e:before r z
     ·exact absurd (CQ (by simpa using hb) e) hk
     ·rfl
    rw[A0B hk,Ord,C0E];refine⟨fun x hx=>?_,h'⟩;rcases A0E.1 hx with rfl | hx
    ·exact hzr
    ·exact before_trans hzr (h.1 x hx)
def put (m:List (aF×Int))(r:aF):List (aF×Int):=
 if m.any (fun e=>decide (e.1=dW r))=true then m.map fun e=>if e.1=dW r∧r.aX<e.2 then(e.1,r.aX) else e
 else m++[(dW r,r.aX)]
def gx (e:aF×Int):aF:=Gm e.1 e.2
structure mV (m:List (aF×Int)):Prop where
 pl:∀e,e∈m→dW e.1=e.1
 nd:m.Pairwise fun a b=>a.1≠b.1
theorem mV.inj {m:List (aF×Int)}(h:mV m){a b:aF×Int}(ha:a∈m)(hb:b∈m)(he:a.1=b.1):a=b:=by
 obtain⟨i,hi,rfl⟩:=B0y.1 ha;obtain⟨j,hj,rfl⟩:=B0y.1 hb;rcases D0j i j with h1 | h1 | h1
 ·exact absurd he (C0k.1 h.nd i j hi hj h1)
 ·subst h1;rfl
 ·exact absurd he.symm (C0k.1 h.nd j i hj hi h1)
theorem LX {m:List (aF×Int)}(h:mV m)(r:aF):mV (put m r):=by
 unfold put;split
 ·refine⟨fun e he=>?_,?_⟩
  ·obtain⟨e',h1,rfl⟩:=A0F.1 he;split
   ·exact h.pl e' h1
   ·exact h.pl e' h1
  ·rw[List.pairwise_map];refine h.nd.imp fun {a b} RO=>?_;have key:∀e:aF×Int,(if e.1=dW r∧r.aX<e.2 then(e.1,r.aX) else e).1=e.1:=fun e=>by split <;> rfl
   rw[key,key];exact RO
 ·rename_i hn;refine⟨fun e he=>?_,?_⟩
  ·rcases A0K.1 he with he | he
   ·exact h.pl e he
   ·rw[A0Y] at he;subst he;rfl
  ·rw[List.pairwise_append];refine⟨h.nd,by simp,fun a ha b hb=>?_⟩;rw[A0Y] at hb;subst hb;intro e;refine hn (B0h.2 ⟨a,ha,?_⟩);simpa using e
theorem XT (e:aF×Int):key (gx e)=key e.1:=rfl
theorem XF {m:List (aF×Int)}(h:mV m)(r:aF)(x:aF) :
  x∈(put m r).map gx↔(x∈m.map gx∧key x≠key r)∨((∃y,y∈m.map gx∧key y=key r∧x=Gm y (min y.aX r.aX))∨((∀y,y∈m.map gx→key y≠key r)∧x=r)):=by
 have hk:∀e:aF×Int,e∈m→(e.1=dW r↔key (gx e)=key r):=fun e he=>by
  rw[XT];constructor
  ·intro h1;rw[h1];rfl
  ·intro h1;rw[←h.pl e he,PZ];exact h1
 unfold put;split
 ·rename_i ha;rw[B0h] at ha;obtain⟨e0,he0,Eg⟩:=ha;have Eg:e0.1=dW r:=by simpa using Eg
  have aoj:=(hk e0 he0).1 Eg;constructor
  ·intro hx;rw[E0A,A0F] at hx;obtain⟨e,he,rfl⟩:=hx
   by_cases h1:e.1=dW r
   ·right;left;refine⟨gx e,C0R he,(hk e he).1 h1,?_⟩;show gx (if e.1=dW r∧r.aX<e.2 then(e.1,r.aX) else e)=Gm (gx e) (min e.2 r.aX);split
    ·rename_i h2;rw[E0q (Int.le_of_lt h2.2)];rfl
    ·rename_i h2;rw[E0y (by
      rcases Int.lt_or_le r.aX e.2 with h3 | h3
      ·exact absurd ⟨h1,h3⟩ h2
      ·exact h3)]
     rfl
   ·left;have e2:(if e.1=dW r∧r.aX<e.2 then(e.1,r.aX) else e)=e:=A0B fun h2=>h1 h2.1;show gx (if e.1=dW r∧r.aX<e.2 then(e.1,r.aX) else e)∈_∧key (gx (if e.1=dW r∧r.aX<e.2 then(e.1,r.aX) else e))≠_;rw[e2];exact⟨C0R he,fun h3=>h1 ((hk e he).2 h3)⟩
  ·rintro(⟨h1,h2⟩ | ⟨y,h1,h2,rfl⟩ | ⟨h1,_⟩)
   ·obtain⟨e,he,rfl⟩:=A0F.1 h1;have e2:(if e.1=dW r∧r.aX<e.2 then(e.1,r.aX) else e)=e:=A0B fun h3=>h2 ((hk e he).1 h3.1);rw[E0A,A0F];exact⟨e,he,by show gx (if e.1=dW r∧r.aX<e.2 then(e.1,r.aX) else e)=gx e;rw[e2]⟩
   ·obtain⟨e,he,rfl⟩:=A0F.1 h1;have wi:=(hk e he).2 h2;rw[E0A,A0F];refine⟨e,he,?_⟩;show gx (if e.1=dW r∧r.aX<e.2 then(e.1,r.aX) else e)=Gm (gx e) (min e.2 r.aX);split
    ·rename_i h2;rw[E0q (Int.le_of_lt h2.2)];rfl
    ·rename_i h2;rw[E0y (by
      rcases Int.lt_or_le r.aX e.2 with h3 | h3
      ·exact absurd ⟨wi,h3⟩ h2
      ·exact h3)]
     rfl
   ·exact absurd aoj (h1 _ (C0R he0))
 ·rename_i ha;have hn:∀y,y∈m.map gx→key y≠key r:=fun y hy e=>by obtain⟨e',he,rfl⟩:=A0F.1 hy;exact ha (B0h.2 ⟨e',he,by simpa using(hk e' he).2 e⟩)
  rw[C0z,A0K];constructor
  ·rintro(h1 | h1)
   ·exact .inl ⟨h1,hn x h1⟩
   ·have:x=r:=by simpa[gx,Gm,dW] using h1
    exact .inr (.inr ⟨hn,this⟩)
  ·rintro(⟨h1,_⟩ | ⟨y,h1,h2,_⟩ | ⟨_,rfl⟩)
   ·exact .inl h1
   ·exact absurd h2 (hn y h1)
   ·exact .inr (by simp[gx,Gm,dW])
theorem N_:∀{a b:List aF},Ord a→Ord b→(∀x,x∈a↔x∈b)→a=b
 | [],[],_,_,_=>rfl
 | [],y :: b,_,_,h=>by have:=(h y).2 B0m;cases this
 | x :: a,[],_,_,h=>by have:=(h x).1 B0m;cases this
 | x :: a,y :: b,ha,hb,h=>by
  rw[Ord,C0E] at ha hb;have e:x=y:=by
   rcases A0E.1 ((h x).1 B0m) with h1 | h1
   ·exact h1
   ·rcases A0E.1 ((h y).2 B0m) with h2 | h2
    ·exact h2.symm
    ·have:=KV (hb.1 x h1);rw[ha.1 y h2] at this;cases this
  subst e;rw[N_ ha.2 hb.2 fun z=>?_];constructor
  ·intro hz;rcases A0E.1 ((h z).1 (B0f _ hz)) with rfl | h1
   ·have:=ha.1 z hz;rw[l8] at this;cases this
   ·exact h1
  ·intro hz;rcases A0E.1 ((h z).2 (B0f _ hz)) with rfl | h1
   ·have:=hb.1 z hz;rw[l8] at this;cases this
   ·exact h1
theorem zq:∀(l:List aF) (m:List (aF×Int)) (o:List aF),mV m→Ord o→(∀x,x∈m.map gx↔x∈o) →
  mV (l.foldl put m)∧Ord (l.foldl (fun o r=>ins r o) o)∧∀x,x∈(l.foldl put m).map gx↔x∈l.foldl (fun o r=>ins r o) o
 | [],m,o,h1,h2,h3=>⟨h1,h2,h3⟩
 | r :: l,m,o,h1,h2,h3=>by refine zq l (put m r) (ins r o) (LX h1 r) (N9 h2) fun x=>?_;rw[XF h1,Bf h2];simp only[h3]
theorem map_nil:mV [] where
 pl:=fun e h=>(by cases h)
 nd:=List.Pairwise.nil
theorem LN {l s:List aF}(hp:∀x,x∈s↔x∈(l.foldl put []).map gx)(hs:Ord s):s=ef l:=by
 obtain⟨_,h2,h3⟩:=zq l [] [] map_nil List.Pairwise.nil fun x=>by simp
 exact N_ hs h2 fun x=>(hp x).trans (h3 x)
end
section
def there (t:Int)(r:aF):Bool:=decide (r.aX≤t)
def named (W:List aF)(t s n:Int):Nat:=(W.filter fun r=>there t r&&(r.source==s&&r.number==n)).length
def uF (W:List aF)(t:Int)(r:aF):Bool:=there t r&&named W t r.source r.number==1
def vs (W:List aF)(t:Int):List aF→List (Int×Int)
 | []=>[]
 | r :: l=>if r.kind=4∧uF W t r=true∧(vs W t l).contains (r.source,r.number)=false then(r.source,r.dV) :: vs W t l else vs W t l
def pB (W:List aF)(t:Int)(r:aF):Bool:=uF W t r&&!(vs W t W).contains (r.source,r.number)
def Rk (l:List aF)(bs:List Bool)(s n:Int):Bool:=(l.zip bs).any fun p=>p.2&&(p.1.source==s&&(p.1.kind==4&&p.1.dV==n))
def cl (W:List aF)(t:Int):List aF→List Bool
 | []=>[]
 | r :: l=>(uF W t r&&!Rk l (cl W t l) r.source r.number) :: cl W t l
end
section
structure Src where
 kind:Int
 error:Int
def gw (ss:List Src)(r:aF):Src:=ss.getD r.source.toNat ⟨0,0⟩
def rp (ss:List Src)(r:aF):Int:=if r.kind=1 then r.time-(gw ss r).error else if r.kind=2 then r.time-(gw ss r).error+1 else -10000000000000
def k_ (ss:List Src)(r:aF):Int:=if r.kind=1 then r.time+(gw ss r).error else 10000000000000
def iX (ss:List Src)(rs:List aF)(p:Nat):Int:=rs.foldl (fun(b:Int) (r:aF)=>if r.place=(p:Int) then max b (rp ss r) else b) (-10000000000000)
def fF (ss:List Src)(rs:List aF)(p:Nat):Int:=rs.foldl (fun(b:Int) (r:aF)=>if r.place=(p:Int) then min b (k_ ss r) else b) 10000000000000
def oZ (rs:List aF)(p:Nat):Bool:=rs.any fun r=>(r.kind==1||r.kind==3)&&decide ((p:Int)≤r.place)
def iC (n:Int)(rs:List aF):Int:=rs.foldl (fun b r=>if r.kind=3 then min b r.place else b) n
def fw (ss:List Src)(rs:List aF)(p:Nat):Bool:=rs.any fun r=>r.kind==1&&((gw ss r).kind != 3&&r.place==(p:Int))
def lF (least:List Int)(f:Nat→Int):Nat→Int
 | 0=>f 0
 | p+1=>max (f (p+1)) (lF least f p+least.getD p 0)
def iN (least:List Int)(f:Nat→Int)(last:Nat):Nat→Int
 | 0=>f last
 | d+1=>min (f (last-(d+1))) (iN least f last d-least.getD (last-(d+1)) 0)
structure Kn where
 low:Int
 high:Int
 Gx:Bool
 out:Bool
 al2:Bool
 wrong:Bool
deriving DecidableEq
def xw (ss:List Src)(least:List Int)(n:Nat)(rs:List aF)(p:Nat):Kn:=
 let lo:=lF least (iX ss rs) p
 let hi:=iN least (fF ss rs) (n-1) (n-1-p)
 let ps:=oZ rs p
 let o:=iC n rs
 let wr:=decide (lo > hi)||(ps&&decide (o<p))
 ⟨lo,hi,ps,decide ((p:Int)=o),(ps&&!fw ss rs p)||wr,wr⟩
def JA (ss:List Src)(least:List Int)(n:Nat)(rs:List aF):List Kn:=(List.range n).map (xw ss least n rs)
def eY (W:List aF)(t dV:Int):List aF:=(W.filter (pB W t)).filter fun r=>r.kind != 4&&r.dV==dV
theorem foldl_max (ss:List Src)(P:aF→Bool)(f:aF→Int):∀(rs:List aF) (b x:Int),(rs.foldl (fun b r=>if P r=true then max b (f r) else b) b)≤x↔b≤x∧∀r,r∈rs→P r=true→f r≤x
 | [],b,x=>by simp
 | r :: rs,b,x=>by
  rw[B0Y,foldl_max ss P f rs]
  by_cases h:P r=true
  ·rw[A0z h];constructor
   ·rintro⟨h1,h2⟩
    refine⟨by omega,fun q hq hP=>?_⟩;rcases A0E.1 hq with rfl | hq
    ·omega
    ·exact h2 q hq hP
   ·rintro⟨h1,h2⟩
    have:=h2 r B0m h;exact⟨by omega,fun q hq hP=>h2 q (B0f _ hq) hP⟩
  ·rw[A0B h];constructor
   ·rintro⟨h1,h2⟩
    refine⟨h1,fun q hq hP=>?_⟩;rcases A0E.1 hq with rfl | hq
    ·exact absurd hP h
    ·exact h2 q hq hP
   ·rintro⟨h1,h2⟩
    exact⟨h1,fun q hq hP=>h2 q (B0f _ hq) hP⟩
theorem foldl_min (ss:List Src)(P:aF→Bool)(f:aF→Int):∀(rs:List aF) (b x:Int),x≤(rs.foldl (fun b r=>if P r=true then min b (f r) else b) b)↔x≤b∧∀r,r∈rs→P r=true→x≤f r
 | [],b,x=>by simp
 | r :: rs,b,x=>by
  rw[B0Y,foldl_min ss P f rs]
  by_cases h:P r=true
  ·rw[A0z h];constructor
   ·rintro⟨h1,h2⟩
    refine⟨by omega,fun q hq hP=>?_⟩;rcases A0E.1 hq with rfl | hq
    ·omega
    ·exact h2 q hq hP
   ·rintro⟨h1,h2⟩
    have:=h2 r B0m h;exact⟨by omega,fun q hq hP=>h2 q (B0f _ hq) hP⟩
  ·rw[A0B h];constructor
   ·rintro⟨h1,h2⟩
    refine⟨h1,fun q hq hP=>?_⟩;rcases A0E.1 hq with rfl | hq
    ·exact absurd hP h
    ·exact h2 q hq hP
   ·rintro⟨h1,h2⟩
    exact⟨h1,fun q hq hP=>h2 q (B0f _ hq) hP⟩
theorem Bh {ss:List Src}{rs:List aF}{p:Nat}{x:Int}:iX ss rs p≤x↔-10000000000000≤x∧∀r,r∈rs→r.place=(p:Int)→rp ss r≤x:=by have:=foldl_max ss (fun r=>decide (r.place=(p:Int))) (rp ss) rs (-10000000000000) x;unfold iX;simpa only[A0t] using this
theorem xo {ss:List Src}{rs:List aF}{p:Nat}{x:Int}:x≤fF ss rs p↔x≤10000000000000∧∀r,r∈rs→r.place=(p:Int)→x≤k_ ss r:=by have:=foldl_min ss (fun r=>decide (r.place=(p:Int))) (k_ ss) rs 10000000000000 x;unfold fF;simpa only[A0t] using this
def oM (least:List Int)(a:Nat):Nat→Int
 | 0=>0
 | d+1=>oM least a d+least.getD (a+d) 0
theorem KP (least:List Int)(a d:Nat):oM least a (d+1)=least.getD a 0+oM least (a+1) d:=by
 induction d with
 | zero=>simp[oM]
 | succ d ih=>
  rw[oM,ih,oM,show a+1+d=a+(d+1) by omega];omega
theorem w_ {least:List Int}{f:Nat→Int}:∀{p:Nat} {x:Int},lF least f p≤x↔∀q,q≤p→f q+oM least q (p-q)≤x
 | 0,x=>by
  constructor
  ·intro h q hq;rw[show q=0 by omega];simpa[lF,oM] using h
  ·intro h;simpa[lF,oM] using h 0 (A0m _)
 | p+1,x=>by
  have ih:=@w_ least f p (x-least.getD p 0);rw[lF];constructor
  ·intro h q hq;rcases A0U p q with h1 | h1
   ·rw[show q=p+1 by omega,B0R];simp[oM];omega
   ·have h2:=ih.1 (by omega) q h1;rw[show p+1-q=p-q+1 by omega,oM,show q+(p-q)=p by omega];omega
  ·intro h;have h1:=h (p+1) (A0m _);rw[B0R] at h1;simp[oM] at h1;have h2:lF least f p≤x-least.getD p 0:=ih.2 fun q hq=>by have h3:=h q (by omega);rw[show p+1-q=p-q+1 by omega,oM,show q+(p-q)=p by omega] at h3;omega
   omega
theorem sZ {least:List Int}{f:Nat→Int}{last:Nat}:∀{d:Nat} {x:Int},d≤last→(x≤iN least f last d↔∀e,e≤d→x+oM least (last-d) (d-e)≤f (last-e))
 | 0,x,_=>by
  constructor
  ·intro h e he;rw[show e=0 by omega];simpa[iN,oM] using h
  ·intro h;simpa[iN,oM] using h 0 (A0m _)
 | d+1,x,hd=>by
  have ih:=@sZ least f last d (x+least.getD (last-(d+1)) 0) (by omega);rw[iN];constructor
  ·intro h e he;rcases A0U d e with h1 | h1
   ·rw[show e=d+1 by omega,B0R];simp[oM];omega
   ·have h2:=ih.1 (by omega) e h1;rw[show d+1-e=d-e+1 by omega,KP,show last-(d+1)+1=last-d by omega];omega
  ·intro h;have h1:=h (d+1) (A0m _);rw[B0R] at h1;simp[oM] at h1;have h2:=ih.2 fun e he=>by have h3:=h e (by omega);rw[show d+1-e=d-e+1 by omega,KP,show last-(d+1)+1=last-d by omega] at h3;omega
   omega
end
section
structure Rt (n:Nat)(least:List Int)(ss:List Src):Prop where
 lo:2≤n
 hi:n≤30
 len:least.length=n-1
 bk:∀x,x∈least→0≤x∧x≤100000000
 src:∀s,s∈ss→(1≤s.kind∧s.kind≤3)∧0≤s.error∧s.error≤10000000
structure Wj (n:Nat)(ss:List Src)(r:aF):Prop where
 src:0≤r.source∧r.source<ss.length
 kind:r.kind=1∨r.kind=2∨r.kind=3
 place:0≤r.place∧r.place<n
 time:0≤r.time∧r.time≤1000000000000
variable {n:Nat} {least:List Int} {ss:List Src} {rs:List aF}
theorem Wj.err (F:Rt n least ss){r:aF}(h:Wj n ss r):0≤(gw ss r).error∧(gw ss r).error≤10000000:=by
 have h1:=h.src;have h2:r.source.toNat<ss.length:=by omega
 have:gw ss r=ss[r.source.toNat]:=by unfold gw;simp[h2]
 rw[this];exact(F.src _ (A0T h2)).2
theorem CK (F:Rt n least ss)(i:Nat):0≤least.getD i 0∧least.getD i 0≤100000000:=by
 rcases A0U i least.length with h | h
 ·have:least.getD i 0=least[i]:=by simp[h]
  rw[this];exact F.bk _ (A0T h)
 ·have:least.getD i 0=0:=by simp[h]
  rw[this];omega
theorem V1 (F:Rt n least ss)(a:Nat):∀d:Nat,0≤oM least a d∧oM least a d≤d*100000000
 | 0=>by simp[oM]
 | d+1=>by
  have h1:=V1 F a d;have h2:=CK F (a+d);rw[oM];refine⟨by omega,?_⟩;have:((d+1:Nat):Int)*100000000=(d:Int)*100000000+100000000:=by omega
  omega
theorem nR (F:Rt n least ss)(a:Nat){d:Nat}(hd:d≤30):0≤oM least a d∧oM least a d≤3000000000:=by have:=V1 F a d;omega
theorem Oo (F:Rt n least ss){r:aF}(h:Wj n ss r):rp ss r≤1000000000001∧(r.kind=3→rp ss r=-10000000000000):=by
 have h1:=h.err F;have h2:=h.time;have h3:=h.kind;unfold rp;refine⟨?_,fun h4=>by rw[A0B (by omega),A0B (by omega)]⟩;split
 ·omega
 ·split
  ·omega
  ·omega
theorem Dd (F:Rt n least ss){r:aF}(h:Wj n ss r):0≤k_ ss r∧(r.kind≠1→k_ ss r=10000000000000):=by
 have h1:=h.err F;have h2:=h.time;unfold k_;refine⟨?_,fun h4=>A0B h4⟩;split
 ·omega
 ·omega
end
section
theorem N8 (l:List aF):Ord (ef l):=by
 have:=zq l [] [] map_nil List.Pairwise.nil fun x=>by simp
 exact this.2.1
theorem Tm (l:List aF)(r:aF):ef (l++[r])=ins r (ef l):=by simp[ef]
theorem GM {l:List aF}:∀x,x∈ef l↔x∈l∧∀r,r∈l→key r=key x→x.aX≤r.aX:=by
 have step:∀(l:List aF) (r:aF),(∀x,x∈ef l↔x∈l∧∀r,r∈l→key r=key x→x.aX≤r.aX)→∀x,x∈ef (l++[r])↔x∈l++[r]∧∀q,q∈l++[r]→key q=key x→x.aX≤q.aX:=by
  intro l r ih x;rw[Tm,Bf (N8 l)];have least:∀q,q∈l→∃y,y∈ef l∧key y=key q∧y.aX≤q.aX:=by
   intro q hq;have:∀n:Nat,∀q,q∈l→(q.aX-(l.foldl (fun b z=>min b z.aX) q.aX)).toNat≤n→True:=fun _ _ _ _=>trivial;have ex:∀L:List aF,(∃z,z∈L∧key z=key q)→∃y,y∈L∧key y=key q∧∀z,z∈L→key z=key q→y.aX≤z.aX:=by
    intro L
    induction L with
    | nil=>rintro⟨z,hz,_⟩;cases hz
    | cons a L ihL=>
     intro _
     by_cases hL:∃z,z∈L∧key z=key q
     ·obtain⟨y,y1,y2,y3⟩:=ihL hL
      by_cases ha:key a=key q
      ·rcases Int.le_total a.aX y.aX with h | h
       ·refine⟨a,B0m,ha,fun z hz hk=>?_⟩;rcases A0E.1 hz with rfl | hz
        ·exact B0P _
        ·exact Int.le_trans h (y3 z hz hk)
       ·refine⟨y,B0f _ y1,y2,fun z hz hk=>?_⟩;rcases A0E.1 hz with rfl | hz
        ·exact h
        ·exact y3 z hz hk
      ·refine⟨y,B0f _ y1,y2,fun z hz hk=>?_⟩;rcases A0E.1 hz with rfl | hz
       ·exact absurd hk ha
       ·exact y3 z hz hk
     ·rename_i h0;obtain⟨z,hz,hk⟩:=h0;have ha:z=a:=by
       rcases A0E.1 hz with rfl | hz
       ·rfl
       ·exact absurd ⟨z,hz,hk⟩ hL
      subst ha;refine⟨z,B0m,hk,fun w hw hkw=>?_⟩;rcases A0E.1 hw with rfl | hw
      ·exact B0P _
      ·exact absurd ⟨w,hw,hkw⟩ hL
   obtain⟨y,y1,y2,y3⟩:=ex l ⟨q,hq,rfl⟩;exact⟨y,(ih y).2 ⟨y1,fun z hz hk=>y3 z hz (hk.trans y2)⟩,y2,y3 q hq rfl⟩
  constructor
  ·rintro(⟨h1,h2⟩ | ⟨y,h1,h2,rfl⟩ | ⟨h1,rfl⟩)
   ·obtain⟨a,b⟩:=(ih x).1 h1;refine⟨C0N _ a,fun q hq hk=>?_⟩;rcases A0K.1 hq with hq | hq
    ·exact b q hq hk
    ·rw[A0Y] at hq;subst hq;exact absurd hk.symm h2
   ·obtain⟨a,b⟩:=(ih y).1 h1;refine⟨?_,fun q hq hk=>?_⟩
    ·rcases Int.le_total y.aX r.aX with h | h
     ·rw[E0y h];exact C0N _ a
     ·rw[E0q h];refine List.mem_append_right _ ?_;rw[A0Y];exact Gu h2 rfl
    ·show min y.aX r.aX≤q.aX;rcases A0K.1 hq with hq | hq
     ·have:=b q hq hk;omega
     ·rw[A0Y] at hq;subst hq;omega
   ·refine⟨by simp,fun q hq hk=>?_⟩;rcases A0K.1 hq with hq | hq
    ·obtain⟨y,y1,y2,_⟩:=least q hq;exact absurd (y2.trans hk) (h1 y y1)
    ·rw[A0Y] at hq;subst hq;exact B0P _
  ·rintro⟨h1,h2⟩
   by_cases hk:key x=key r
   ·right
    by_cases hex:∃y,y∈ef l∧key y=key r
    ·left;obtain⟨y,y1,y2⟩:=hex;refine⟨y,y1,y2,Gu (hk.trans y2.symm) ?_⟩;show x.aX=min y.aX r.aX;obtain⟨a,b⟩:=(ih y).1 y1;have e1:=h2 y (C0N _ a) (y2.trans hk.symm);have e2:=h2 r (by simp) hk.symm;rcases A0K.1 h1 with h3 | h3
     ·have:=b x h3 (hk.trans y2.symm);omega
     ·rw[A0Y] at h3;subst h3;omega
    ·right;refine⟨fun y hy e=>hex ⟨y,hy,e⟩,?_⟩;rcases A0K.1 h1 with h3 | h3
     ·obtain⟨y,y1,y2,_⟩:=least x h3;exact absurd ⟨y,y1,y2.trans hk⟩ hex
     ·rwa [A0Y] at h3
   ·left;refine⟨(ih x).2 ⟨?_,fun q hq=>h2 q (C0N _ hq)⟩,hk⟩;rcases A0K.1 h1 with h3 | h3
    ·exact h3
    ·rw[A0Y] at h3;subst h3;exact absurd rfl hk
 have all:∀n (l:List aF),l.length=n→∀x,x∈ef l↔x∈l∧∀r,r∈l→key r=key x→x.aX≤r.aX:=by
  intro n
  induction n with
  | zero=>
   intro l hl x;rw[A0D hl];simp[ef]
  | succ n ih=>
   intro l hl x;rcases List.eq_nil_or_concat l with rfl | ⟨l',r,rfl⟩
   ·simp at hl
   ·rw[List.concat_eq_append] at hl ⊢;exact step l' r (ih l' (by simpa using hl)) x
 exact all l.length l rfl
theorem Om {W:List aF}{t dV:Int}{x:aF}:x∈eY W t dV↔x∈W∧pB W t x=true∧x.kind≠4∧x.dV=dV:=by
 unfold eY;rw[B0T,B0T];simp only[A0f,E0j,ne_eq,B0K];constructor
 ·rintro⟨⟨h1,h2⟩,h3,h4⟩;exact⟨h1,h2,h3,h4⟩
 ·rintro⟨h1,h2,h3,h4⟩;exact⟨⟨h1,h2⟩,h3,h4⟩
end
section
abbrev I (n:Int):D:=.v (.int .i64 n)
abbrev B (b:Bool):D:=.v (.bool b)
abbrev Is (l:List Int):D:=.bk (l.map I)
abbrev In (i:Nat):D:=I (i:Int)
def aF.cs (r:aF):List D:=[I r.source,I r.number,I r.kind,I r.dV,I r.place,I r.time,I r.aX]
def aF.d (r:aF):D:=.agg r.cs
def Src.cs (s:Src):List D:=[I s.kind,I s.error]
def Src.d (s:Src):D:=.agg s.cs
def Kn.cs (k:Kn):List D:=[I k.low,I k.high,B k.Gx,B k.out,B k.al2,B k.wrong]
def Kn.d (k:Kn):D:=.agg k.cs
structure wk where
 iV:Int
 places:Int
 least:List Int
def wk.cs (f:wk):List D:=[I f.iV,I f.places,Is f.least]
def wk.d (f:wk):D:=.agg f.cs
structure Pla where
 f:wk
 s:List Src
 l:List aF
def Pla.cs (x:Pla):List D:=[I x.f.iV,I x.f.places,Is x.f.least,.bk (x.s.map Src.d),.bk (x.l.map aF.d)]
def Pla.d (x:Pla):D:=.agg x.cs
end
section
open Go.Proofs
set_option maxRecDepth 100000
set_option maxHeartbeats 4000000
variable {bs:List D}
def fK (x lo hi:Int):Bool:=decide (lo≤x)&&decide (x≤hi)
theorem c97 (x lo hi:Int):aQ Tryz.prog 97 (.st bs) [I x,I lo,I hi] (B (fK x lo hi)):=by
 refine amK.R rfl rfl ?_;unfold u97;simp only[aB,aI,A0i,A0j]
 repeat' (first|(apply dX;simp only[au];rfl)|(apply aU;rfl;simp only[au];rfl)|(apply fp;rfl)|exact aH rfl rfl|(intro hz;(try simp only[gq] at hz)))
attribute [local irreducible] fK
def fi {α:Type}(P:α→Bool)(l:List α):Int:=match l.findIdx? P with
 | some i=>i
 | none=>-1
theorem FJ {α:Type}{P:α→Bool}{l:List α}{i:Nat}(hi:i<l.length)(hP:P l[i]=true)(hn:∀k (h:k<i),P (l[k]'(by omega))=false):fi P l=i:=by
 have:l.findIdx? P=some i:=by rw[D0s];exact⟨hi,hP,fun j hj=>by simp[hn j hj]⟩
 simp[fi,this]
theorem FI {α:Type}{P:α→Bool}{l:List α}(hn:∀a,a∈l→P a=false):fi P l=-1:=by
 have:l.findIdx? P=none:=by rw[E0e];exact hn
 simp[fi,this]
theorem zw {α:Type}(P:α→Bool)(l:List α):decide (fi P l≥0)=l.any P:=by
 cases h:l.findIdx? P with
 | none=>
  have h2:=E0e.1 h;have:l.any P=false:=by rw[List.any_eq_false];intro x hx;simp[h2 x hx]
  rw[this];simp[fi,h]
 | some i=>
  obtain⟨h1,h2,_⟩:=D0s.1 h;have:l.any P=true:=B0h.2 ⟨_,A0T h1,h2⟩;rw[this];simp[fi,h]
theorem aqc {P:aF→Bool}{f:Nat}{us cs:List D}{l:List aF}(hL:l.length≤1000000000)(hc:bL Tryz.prog f=true)(hf:∀x,x∈l→aQ Tryz.prog f (.st bs) (us++[aF.d x]++cs) (B (P x))):aQ Tryz.prog 231 (.st bs) [.bk (l.map aF.d),.fn f us cs] (I (fi P l)):=by
 refine agt.R rfl rfl ?_;unfold aeB;simp only[aB,aI,A0i,A0j]
 repeat' (first|(apply cM;rfl;exact bR;simp only[au];rfl)|refine aO ?_)
 refine ew (fun i=>[I i]) (fun i=>∀k (h:k<i) (h2:k<l.length),P l[k]=false) l.length rfl (fun _=>rfl) (fun k h=>absurd h (B0U _)) (fun i hi hJ R hR=>?_) (fun hJ R=>?_)
 ·have jY:=hf l[i] (A0T hi);have gA:decide ((i:Int)<(l.length:Int))=true:=by simp;omega
  cases hP:P l[i]
  ·rw[hP] at jY
   repeat' (first|(apply dX;simp only[au];rfl)|(apply bF;rfl;exact gA)|(apply bf;rfl;exact rfl)|(apply bH;rfl;rfl;exact c_ hi rfl;simp only[au];rfl)|(apply eo;rfl;omega;simp only[au];rfl)|(apply aU;rfl;simp only[au];rfl)|(apply kU;rfl;exact hc;rfl;rfl;exact jY;rfl;simp only[au];rfl)|refine aO ?_|(apply aL;rfl;rfl)|refine aC ?_|refine kj rfl ?_)
   refine hR fun k hk h2=>?_;rcases A0U k i with h3 | h3
   ·exact hJ k h3 h2
   ·have e:k=i:=by omega
    subst e;exact hP
  ·rw[hP] at jY
   repeat' (first|(apply dX;simp only[au];rfl)|(apply bF;rfl;(·first|exact gA|exact rfl))|(apply bH;rfl;rfl;exact c_ hi rfl;simp only[au];rfl)|(apply aU;rfl;simp only[au];rfl)|(apply kU;rfl;exact hc;rfl;rfl;exact jY;rfl;simp only[au];rfl)|refine aO ?_|(apply aH;rfl;first|exact rfl|(refine eX ?_)|(refine eV ?_)|(refine eW ?_)))
   exact(FJ hi hP fun k hk=>hJ k hk (by omega)).symm
 ·repeat' (first|(apply dX;simp only[au];rfl)|(apply aU;rfl;simp only[au];rfl)|(apply aL;rfl;rfl)|refine aC ?_|(refine aT (by decide) ?_)|refine kj rfl ?_|(apply eN;rfl;all_goals (intro hz;(try simp only[gq] at hz);first|(exact absurd hz (by decide))|(exfalso;omega)|skip))|(apply aH;rfl;first|exact rfl|(refine eX ?_)|(refine eV ?_)|(refine eW ?_)))
  refine(FI fun a ha=>?_).symm;obtain⟨k,hk,rfl⟩:=B0y.1 ha;exact hJ k hk hk
theorem ajs {P:aF→Bool}{f:Nat}{us cs:List D}{l:List aF}(hL:l.length≤1000000000)(hc:bL Tryz.prog f=true)(hf:∀x,x∈l→aQ Tryz.prog f (.st bs) (us++[aF.d x]++cs) (B (P x))):aQ Tryz.prog 201 (.st bs) [.bk (l.map aF.d),.fn f us cs] (B (l.any P)):=by
 refine agz.R rfl rfl ?_;unfold aeH;simp only[aB,aI,A0i,A0j]
 repeat' (first|(apply aU;rfl;simp only[au];rfl)|(apply bC;rfl;rfl;exact aqc hL hc hf;rfl;simp only[au];rfl)|(apply aH;rfl;first|exact rfl|(refine eX ?_)|(refine eV ?_)|(refine eW ?_)))
 exact zw P l
theorem adA (r:aF):aQ Tryz.prog 205 (.st bs) [r.d] (dW r).d:=by
 refine agw.R rfl rfl ?_;unfold aeE;simp only[aB,aI,A0i,A0j]
 repeat' (first|(apply bG;rfl)|exact aH rfl rfl)
def vv (e:aF×Int):D:=.a_ [e.1.d,I e.2]
structure mD (bs:List D)(j m:Nat)(f:wk)(ss:List Src)(kv:List (aF×Int)):Prop where
 blk:bs[j]? = some (.blk 150 5 [I f.iV,I f.places,Is f.least,.bk (ss.map Src.d),.mp m])
 map:bs[m]? = some (.cg (kv.map vv))
variable {j m:Nat} {f:wk} {ss:List Src} {kv:List (aF×Int)}
theorem VZ (h:mD bs j m f ss kv):aQ Tryz.prog 120 (.st bs) [.loc j 0] (B true):=by
 refine TI.R rfl rfl ?_;unfold WV;simp only[aB,aI,A0i,A0j]
 repeat' (first|(apply dX;simp only[au];rfl)|(apply bG;rfl)|(apply dS;rfl;rfl;exact aW h.blk rfl;simp only[au];rfl)|(apply aU;rfl;simp only[au];rfl)|(apply fp;rfl)|exact aH rfl rfl|(intro hz;(try simp only[gq] at hz)))
def kW (f:wk)(ss:List Src)(r:aF):Bool:=
 fK r.source 0 ((ss.length:Int)-1)&&(fK r.number 0 1000000000&&(fK r.aX 0 1000000000000 &&
  (if r.kind=4 then fK r.dV 0 (r.number-1)&&(r.place==0)&&(r.time==0)
   else fK r.dV 1 f.iV&&(fK r.place 0 (f.places-1) &&
   (if r.kind=1∨r.kind=2 then fK r.time 0 1000000000000 else if r.kind=3 then r.time==0 else false)))))
theorem aqg (h:mD bs j m f ss kv)(h2:ss.length≤1000000000)(hp:0≤f.places∧f.places≤1000000)(r:aF):aQ Tryz.prog 203 (.st bs) [.loc j 0,r.d] (B (kW f ss r)):=by
 refine agx.R rfl rfl ?_;unfold aeF;simp only[aB,aI,A0i,A0j]
 by_cases hq:fK r.number 0 1000000000=true
 ·have HY:=hq;unfold fK at HY;simp at HY
  repeat' (first|(apply dX;simp only[au];rfl)|(apply bG;rfl)|(apply dS;rfl;rfl;exact aW h.blk rfl;simp only[au];rfl)|(apply cM;rfl;exact bR;simp only[au];rfl)|(apply fP;rfl;rfl;omega;simp only[au];rfl)|(apply aU;rfl;simp only[au];rfl)|(apply bC;rfl;rfl;exact c97 _ _ _;rfl;simp only[au];rfl)|(apply iP;rfl)|(apply fp;rfl)|refine aO ?_|(apply aL;rfl;rfl)|refine aC ?_|refine kj rfl ?_|(apply eN;rfl;all_goals (intro hz;(try simp only[gq] at hz);first|(exact absurd hz (by decide))|(exfalso;omega)|skip))|exact aH rfl rfl|(apply aH;rfl;first|exact rfl|(refine eX ?_)|(refine eV ?_)|(refine eW ?_))|(intro hz;(try simp only[gq] at hz)))
  all_goals (unfold kW;first | (rcases hz with hz | hz <;> simp_all <;> done) | (simp_all;done) | skip)
 ·repeat' (first|(apply dX;simp only[au];rfl)|(apply bG;rfl)|(apply dS;rfl;rfl;exact aW h.blk rfl;simp only[au];rfl)|(apply cM;rfl;exact bR;simp only[au];rfl)|(apply fP;rfl;rfl;omega;simp only[au];rfl)|(apply aU;rfl;simp only[au];rfl)|(apply bC;rfl;rfl;exact c97 _ _ _;rfl;simp only[au];rfl)|(apply iP;rfl)|(apply fp;rfl)|refine aO ?_|(apply aL;rfl;rfl)|refine aC ?_|refine kj rfl ?_|(apply eN;rfl;all_goals (intro hz;(try simp only[gq] at hz);first|(exact absurd hz (by decide))|(exfalso;omega)|skip))|exact aH rfl rfl|(apply aH;rfl;first|exact rfl|(refine eX ?_)|(refine eV ?_)|(refine eW ?_))|(intro hz;(try simp only[gq] at hz)))
  all_goals (unfold kW;first | (rcases hz with hz | hz <;> simp_all <;> done) | (simp_all;done) | skip)
end
end Go.Am.Tw
namespace Go.Am.To
section
open Go.Proofs Go.Am.Sc
open Go.Am.Tw (fi FJ FI zw)
set_option maxRecDepth 100000
set_option maxHeartbeats 4000000
attribute [local irreducible] fK
abbrev GA:TypeId:=1000000000
structure Cr where
 st:Bool
 post:Int
 deriving DecidableEq,Inhabited
def RR (T:Int)(x:Cr):List D:=[B x.st,I (if x.st then T else 0),I x.post,B false,B false]
def lcs (s:Int):List D:=[B true,I s,B true]
def rcs (_:Unit):List D:=[B false,I 0,B false]
theorem xZ {T:Int}(x:Cr):(RR T x).length=5:=rfl
theorem ru (s:Int):(lcs s).length=3:=rfl
theorem Xh (s:Unit):(rcs s).length=3:=rfl
structure GI (bs:List D)(p:Nat)(T:Int)(cs:List Cr)(ps:List Int):Prop where
 wj:bs[5]? = some (.blk GA 15 [I p,I 100000,I p,I 0,I 100000,In cs.length,B true,I 0,B true,B true,I 0,B true,.sl 2 0 p,.sl 3 0 ps.length,.sl 4 0 cs.length])
 red:bs[2]? = some (.blk GA 3 ((List.replicate p ()).flatMap rcs))
 Lc:bs[3]? = some (.blk GA 3 (ps.flatMap lcs))
 dV:bs[4]? = some (.blk GA 5 (cs.flatMap (RR T)))
 FM:2≤p∧p≤4∧ps.length=p∧2≤cs.length∧cs.length≤5
 Sj:1≤T∧T≤1000
 ZA:∀s∈ps,0≤s∧s≤2000
 YV:∀x∈cs,-1≤x.post∧x.post<p
variable {bs:List D} {p:Nat} {T:Int} {cs:List Cr} {ps:List Int}
theorem GI.keep {bs':List D}(h:GI bs p T cs ps)(h1:∀i,2≤i→i≤5→bs'[i]? = bs[i]?):GI bs' p T cs ps:=
 ⟨by rw[h1 5 (by omega) (by omega)];exact h.wj,by rw[h1 2 (by omega) (by omega)];exact h.red,by rw[h1 3 (by omega) (by omega)];exact h.Lc,by rw[h1 4 (by omega) (by omega)];exact h.dV,h.FM,h.Sj,h.ZA,h.YV⟩
theorem afz {l:List D}{i:Nat}{x:D}(h:l[i]? = some x):l.set i x=l:=by obtain⟨hi,rfl⟩:=A0c.1 h;exact D0a hi
theorem alO {l:List Int}{i:Nat}{x:Int}(h:l[i]? = some x):l.set i x=l:=by obtain⟨hi,rfl⟩:=A0c.1 h;exact D0a hi
theorem mmG (a b:Int):D.mm true (I a) (I b)=some (I (max a b)):=by
 simp only[D.mm,B0d];split
 ·rw[Int.max_eq_right (by omega)]
 ·rw[Int.max_eq_left (by omega)]
theorem uk {sz b o n i:Nat}(hi:i<n):D.ax sz (.sl b o n) (.v (.int .i64 i))=some (.loc b (o+i*sz)):=by simp[D.ax,hi]
theorem aqo {α:Type}{enc:α→List D}{P:α→Bool}{f:Nat}{us AK:List D}{xs:List α}{b k:Nat}{e:TypeId}(hb:bs[b]? = some (.blk e 3 (xs.flatMap enc)))(bV:∀x,(enc x).length=3)(hk:k≤xs.length)(hL:xs.length≤1000)(hc:bL Tryz.prog f=true)(hf:∀x,x∈xs→aQ Tryz.prog f (.st bs) (us++[.agg (enc x)]++AK) (B (P x))):aQ Tryz.prog 179 (.st bs) [.sl b (k*3) (xs.length-k),.fn f us AK] (I (fi P (xs.drop k))):=by
 refine agI.R rfl rfl ?_;unfold aeQ;simp only[aB,aI,A0i,A0j]
 repeat' (first|(apply aU;rfl;simp only[au];rfl)|refine aO ?_)
 have fR:(xs.drop k).length=xs.length-k:=B0E;refine ew (fun i=>[In i]) (fun i=>∀j (h:j<i) (h2:j<(xs.drop k).length),P (xs.drop k)[j]=false) (xs.length-k) rfl (fun _=>rfl) (fun j h=>absurd h (B0U _)) (fun i hi hJ R hR=>?_) (fun hJ R=>?_)
 ·have gA:decide ((i:Int)<((xs.length-k:Nat):Int))=true:=by simp;omega
  have hx:xs[k+i]? = some xs[k+i]:=A0e (by omega);have RH:(xs.drop k)[i]'(by omega)=xs[k+i]:=by rw[List.getElem_drop]
  have jY:=hf xs[k+i] (A0T (by omega));have QA:=ZO hb bV hx;rw[B0w] at QA;cases hP:P xs[k+i]
  ·rw[hP] at jY
   repeat' (first|(apply dX;simp only[au];rfl)|(apply bF;rfl;exact gA)|(apply bf;rfl;exact rfl)|(apply dS;rfl;rfl;exact QA;simp only[au];rfl)|(apply bH;rfl;rfl;exact uk hi;simp only[au];rfl)|(apply eo;rfl;omega;simp only[au];rfl)|(apply aU;rfl;simp only[au];rfl)|(apply kU;rfl;exact hc;rfl;rfl;exact jY;rfl;simp only[au];rfl)|refine aO ?_|(apply aL;rfl;rfl)|refine aC ?_|refine kj rfl ?_)
   refine hR fun j hj h2=>?_;rcases A0U j i with h3 | h3
   ·exact hJ j h3 h2
   ·have ej:j=i:=by omega
    subst ej;rw[RH,hP]
  ·rw[hP] at jY
   repeat' (first|(apply dX;simp only[au];rfl)|(apply bF;rfl;(·first|exact gA|exact rfl))|(apply dS;rfl;rfl;exact QA;simp only[au];rfl)|(apply bH;rfl;rfl;exact uk hi;simp only[au];rfl)|(apply aU;rfl;simp only[au];rfl)|(apply kU;rfl;exact hc;rfl;rfl;exact jY;rfl;simp only[au];rfl)|refine aO ?_|(apply aH;rfl;first|exact rfl|(refine eX ?_)|(refine eV ?_)|(refine eW ?_)))
   exact(FJ (l:=xs.drop k) (i:=i) (by omega) (by rw[RH,hP]) fun j hj=>hJ j hj (by omega)).symm
 ·have gA:decide (((xs.length-k:Nat):Int)<((xs.length-k:Nat):Int))=false:=by simp
  repeat' (first|(apply dX;simp only[au];rfl)|(apply bf;rfl;exact gA)|(apply aU;rfl;simp only[au];rfl)|(apply aL;rfl;rfl)|refine aC ?_|(refine aT (by decide) ?_)|refine kj rfl ?_|(apply aH;rfl;first|exact rfl|(refine eX ?_)|(refine eV ?_)|(refine eW ?_)))
  refine(FI fun a ha=>?_).symm;obtain⟨j,hj,rfl⟩:=B0y.1 ha;exact hJ j (by omega) hj
theorem ajA {α:Type}{enc:α→List D}{P:α→Bool}{f:Nat}{us AK:List D}{xs:List α}{b k:Nat}{e:TypeId}(hb:bs[b]? = some (.blk e 3 (xs.flatMap enc)))(bV:∀x,(enc x).length=3)(hk:k≤xs.length)(hL:xs.length≤1000)(hc:bL Tryz.prog f=true)(hf:∀x,x∈xs→aQ Tryz.prog f (.st bs) (us++[.agg (enc x)]++AK) (B (P x))):aQ Tryz.prog 128 (.st bs) [.sl b (k*3) (xs.length-k),.fn f us AK] (B ((xs.drop k).any P)):=by
 refine ag0.R rfl rfl ?_;unfold ae8;simp only[aB,aI,A0i,A0j]
 repeat' (first|(apply aU;rfl;simp only[au];rfl)|(apply bC;rfl;rfl;exact aqo hb bV hk hL hc hf;rfl;simp only[au];rfl)|(apply aH;rfl;first|exact rfl|(refine eX ?_)|(refine eV ?_)|(refine eW ?_)))
 exact zw P (xs.drop k)
theorem aqm {α:Type}{enc:α→List D}{P:α→Bool}{f:Nat}{us AK:List D}{xs:List α}{b k:Nat}{e:TypeId}(hb:bs[b]? = some (.blk e 5 (xs.flatMap enc)))(bV:∀x,(enc x).length=5)(hk:k≤xs.length)(hL:xs.length≤1000)(hc:bL Tryz.prog f=true)(hf:∀x,x∈xs→aQ Tryz.prog f (.st bs) (us++[.agg (enc x)]++AK) (B (P x))):aQ Tryz.prog 181 (.st bs) [.sl b (k*5) (xs.length-k),.fn f us AK] (I (fi P (xs.drop k))):=by
 refine agG.R rfl rfl ?_;unfold aeO;simp only[aB,aI,A0i,A0j]
 repeat' (first|(apply aU;rfl;simp only[au];rfl)|refine aO ?_)
 have fR:(xs.drop k).length=xs.length-k:=B0E;refine ew (fun i=>[In i]) (fun i=>∀j (h:j<i) (h2:j<(xs.drop k).length),P (xs.drop k)[j]=false) (xs.length-k) rfl (fun _=>rfl) (fun j h=>absurd h (B0U _)) (fun i hi hJ R hR=>?_) (fun hJ R=>?_)
 ·have gA:decide ((i:Int)<((xs.length-k:Nat):Int))=true:=by simp;omega
  have hx:xs[k+i]? = some xs[k+i]:=A0e (by omega);have RH:(xs.drop k)[i]'(by omega)=xs[k+i]:=by rw[List.getElem_drop]
  have jY:=hf xs[k+i] (A0T (by omega));have QA:=ZO hb bV hx;rw[B0w] at QA;cases hP:P xs[k+i]
  ·rw[hP] at jY
   repeat' (first|(apply dX;simp only[au];rfl)|(apply bF;rfl;exact gA)|(apply bf;rfl;exact rfl)|(apply dS;rfl;rfl;exact QA;simp only[au];rfl)|(apply bH;rfl;rfl;exact uk hi;simp only[au];rfl)|(apply eo;rfl;omega;simp only[au];rfl)|(apply aU;rfl;simp only[au];rfl)|(apply kU;rfl;exact hc;rfl;rfl;exact jY;rfl;simp only[au];rfl)|refine aO ?_|(apply aL;rfl;rfl)|refine aC ?_|refine kj rfl ?_)
   refine hR fun j hj h2=>?_;rcases A0U j i with h3 | h3
   ·exact hJ j h3 h2
   ·have ej:j=i:=by omega
    subst ej;rw[RH,hP]
  ·rw[hP] at jY
   repeat' (first|(apply dX;simp only[au];rfl)|(apply bF;rfl;(·first|exact gA|exact rfl))|(apply dS;rfl;rfl;exact QA;simp only[au];rfl)|(apply bH;rfl;rfl;exact uk hi;simp only[au];rfl)|(apply aU;rfl;simp only[au];rfl)|(apply kU;rfl;exact hc;rfl;rfl;exact jY;rfl;simp only[au];rfl)|refine aO ?_|(apply aH;rfl;first|exact rfl|(refine eX ?_)|(refine eV ?_)|(refine eW ?_)))
   exact(FJ (l:=xs.drop k) (i:=i) (by omega) (by rw[RH,hP]) fun j hj=>hJ j hj (by omega)).symm
 ·have gA:decide (((xs.length-k:Nat):Int)<((xs.length-k:Nat):Int))=false:=by simp
  repeat' (first|(apply dX;simp only[au];rfl)|(apply bf;rfl;exact gA)|(apply aU;rfl;simp only[au];rfl)|(apply aL;rfl;rfl)|refine aC ?_|(refine aT (by decide) ?_)|refine kj rfl ?_|(apply aH;rfl;first|exact rfl|(refine eX ?_)|(refine eV ?_)|(refine eW ?_)))
  refine(FI fun a ha=>?_).symm;obtain⟨j,hj,rfl⟩:=B0y.1 ha;exact hJ j (by omega) hj
theorem ajz {α:Type}{enc:α→List D}{P:α→Bool}{f:Nat}{us AK:List D}{xs:List α}{b k:Nat}{e:TypeId}(hb:bs[b]? = some (.blk e 5 (xs.flatMap enc)))(bV:∀x,(enc x).length=5)(hk:k≤xs.length)(hL:xs.length≤1000)(hc:bL Tryz.prog f=true)(hf:∀x,x∈xs→aQ Tryz.prog f (.st bs) (us++[.agg (enc x)]++AK) (B (P x))):aQ Tryz.prog 135 (.st bs) [.sl b (k*5) (xs.length-k),.fn f us AK] (B ((xs.drop k).any P)):=by
 refine agT.R rfl rfl ?_;unfold ae1;simp only[aB,aI,A0i,A0j]
 repeat' (first|(apply aU;rfl;simp only[au];rfl)|(apply bC;rfl;rfl;exact aqm hb bV hk hL hc hf;rfl;simp only[au];rfl)|(apply aH;rfl;first|exact rfl|(refine eX ?_)|(refine eV ?_)|(refine eW ?_)))
 exact zw P (xs.drop k)
end
section
open Go.Proofs Go.Am.Sc
open Go.Am.Tw (fi FJ FI zw)
set_option maxRecDepth 100000
set_option maxHeartbeats 4000000
attribute [local irreducible] fK
variable {bs:List D} {p:Nat} {T:Int} {cs:List Cr} {ps:List Int}
theorem c66 (h:GI bs p T cs ps):aQ Tryz.prog 66 (.st bs) [.loc 5 0] (B true):=by
 have hd:=h.FM;have e:(true&&decide (((cs.length:Nat):Int) > 0))=true:=by simp;omega
 refine amY.R rfl rfl ?_;unfold u66;simp only[aB,aI,A0i,A0j]
 repeat' (first|(apply dX;simp only[au];rfl)|(apply bG;rfl)|(apply dS;rfl;rfl;exact aW h.wj rfl;simp only[au];rfl)|(apply aU;rfl;simp only[au];rfl)|(apply fp;rfl)|exact aH rfl rfl|(apply aH;rfl;first|exact rfl|(refine eX ?_)|(refine eV ?_)|(refine eW ?_))|(intro hz;(try simp only[gq] at hz)))
 exact e
theorem c67 (h:GI bs p T cs ps)(k t:Int):aQ Tryz.prog 67 (.st bs) [.loc 5 0,I k,I t] (B false):=by
 refine amX.R rfl rfl ?_;unfold u67;simp only[aB,aI,A0i,A0j]
 repeat' (first|(apply bG;rfl)|(apply dS;rfl;rfl;exact aW h.wj rfl;simp only[au];rfl)|(apply aU;rfl;simp only[au];rfl)|exact aH rfl rfl)
theorem c70 (h:GI bs p T cs ps)(k t:Int):aQ Tryz.prog 70 (.st bs) [.loc 5 0,I k,I t] (B false):=by
 refine amU.R rfl rfl ?_;unfold u70;simp only[aB,aI,A0i,A0j]
 repeat' (first|(apply bG;rfl)|(apply dS;rfl;rfl;exact aW h.wj rfl;simp only[au];rfl)|(apply aU;rfl;simp only[au];rfl)|exact aH rfl rfl)
theorem aqF (u:Unit):aQ Tryz.prog 129 (.st bs) [.agg (rcs u)] (B false):=by
 refine agZ.R rfl rfl ?_;unfold ae7;simp only[aB,aI,A0i,A0j]
 repeat' (first|(apply bG;rfl)|exact aH rfl rfl)
theorem c68 (h:GI bs p T cs ps)(k t:Int):aQ Tryz.prog 68 (.st bs) [.loc 5 0,I k,I t] (B false):=by
 have hd:=h.FM;have hc:=ajA (P:=fun _:Unit=>false) (f:=129) (us:=[]) (AK:=[]) (k:=0) h.red Xh (B0e _) (by simp;omega) (by kernel_rfl) fun x _=>aqF x;rw[D0X,C0y,C0H,E0d,show(List.replicate p ()).any (fun _=>false)=false by simp] at hc;refine amW.R rfl rfl ?_;unfold u68;simp only[aB,aI,A0i,A0j]
 repeat' (first|(apply bG;rfl)|(apply dS;rfl;rfl;exact aW h.wj rfl;simp only[au];rfl)|(apply bC;rfl;rfl;exact hc;rfl;simp only[au];rfl)|exact aH rfl rfl)
theorem aqE (h:GI bs p T cs ps){s t:Int}(hs:0≤s∧s≤2000)(ht:0≤t∧t≤100000):aQ Tryz.prog 130 (.st bs) [.agg (lcs s),.ptr [I t],.ptr [.loc 5 0]] (B false):=by
 have e:(!true||decide (t-s > 100000))=false:=by simp;omega
 refine agY.R rfl rfl ?_;unfold ae6;simp only[aB,aI,A0i,A0j]
 repeat' (first|(apply dX;simp only[au];rfl)|(apply bG;rfl)|(apply dS;rfl;rfl;exact aW h.wj rfl;simp only[au];rfl)|(apply fP;rfl;rfl;omega;simp only[au];rfl)|(apply aU;rfl;simp only[au];rfl)|(apply iP;rfl)|exact aH rfl rfl|(apply aH;rfl;first|exact rfl|(refine eX ?_)|(refine eV ?_)|(refine eW ?_))|(intro hz;(try simp only[gq] at hz)))
 exact e
theorem c69 (h:GI bs p T cs ps)(k:Int){t:Int}(ht:0≤t∧t≤100000):aQ Tryz.prog 69 (.st bs) [.loc 5 0,I k,I t] (B false):=by
 have hd:=h.FM;have hc:=ajA (P:=fun _:Int=>false) (f:=130) (us:=[]) (AK:=[.ptr [I t],.ptr [.loc 5 0]]) (k:=0) h.Lc ru (B0e _) (by omega) (by kernel_rfl) fun x hx=>aqE h (h.ZA x hx) ht;rw[D0X,C0y,E0d,show ps.any (fun _=>false)=false by simp] at hc;refine amV.R rfl rfl ?_;unfold u69;simp only[aB,aI,A0i,A0j]
 repeat' (first|(apply bG;rfl)|(apply dS;rfl;rfl;exact aW h.wj rfl;simp only[au];rfl)|(apply aU;rfl;simp only[au];rfl)|(apply bC;rfl;rfl;exact hc;rfl;simp only[au];rfl)|exact aH rfl rfl)
theorem aqn {f:Nat}{us AK:List D}{x:Cr}{Q:Bool}(hc:bL Tryz.prog f=true)(hf:aQ Tryz.prog f (.st bs) (us++[.agg (RR T x)]++AK) (B Q)):aQ Tryz.prog 180 (.st bs) [.agg (RR T x),.ptr [.fn f us AK]] (B (x.st&&Q)):=by
 refine agH.R rfl rfl ?_;unfold aeP;simp only[aB,aI,A0i,A0j]
 repeat' (first|(apply dX;simp only[au];rfl)|(apply bG;rfl)|(apply aU;rfl;simp only[au];rfl)|(apply kU;rfl;exact hc;rfl;rfl;exact hf;rfl;simp only[au];rfl)|(apply fp;rfl)|exact aH rfl rfl|(intro hz;(try simp only[gq] at hz)))
theorem adB (h:GI bs p T cs ps){f:Nat}{us AK:List D}{Q:Cr→Bool}(hc:bL Tryz.prog f=true)(hf:∀x,x∈cs→aQ Tryz.prog f (.st bs) (us++[.agg (RR T x)]++AK) (B (Q x))):aQ Tryz.prog 131 (.st bs) [.loc 5 0,.fn f us AK] (B (cs.any fun x=>x.st&&Q x)):=by
 have hd:=h.FM;have h1:=ajz (P:=fun x:Cr=>x.st&&Q x) (f:=180) (us:=[]) (AK:=[.ptr [.fn f us AK]]) (k:=0) h.dV xZ (B0e _) (by omega) (by kernel_rfl) fun x hx=>aqn hc (hf x hx);rw[D0X,C0y,E0d] at h1;refine agX.R rfl rfl ?_;unfold ae5;simp only[aB,aI,A0i,A0j]
 repeat' (first|(apply bG;rfl)|(apply dS;rfl;rfl;exact aW h.wj rfl;simp only[au];rfl)|(apply aU;rfl;simp only[au];rfl)|(apply bC;rfl;rfl;exact h1;rfl;simp only[au];rfl)|exact aH rfl rfl)
def NB (p:Nat)(cs:List Cr):Bool:=cs.any fun x=>x.st&&decide (x.post<(p:Int)-1)
theorem aqD (h:GI bs p T cs ps)(x:Cr):aQ Tryz.prog 132 (.st bs) [.agg (RR T x),.ptr [.loc 5 0]] (B (decide (x.post<(p:Int)-1))):=by
 have hd:=h.FM;refine agW.R rfl rfl ?_;unfold ae4;simp only[aB,aI,A0i,A0j]
 repeat' (first|(apply dX;simp only[au];rfl)|(apply bG;rfl)|(apply dS;rfl;rfl;exact aW h.wj rfl;simp only[au];rfl)|(apply fP;rfl;rfl;omega;simp only[au];rfl)|(apply aU;rfl;simp only[au];rfl)|(apply fp;rfl)|exact aH rfl rfl|(intro hz;(try simp only[gq] at hz)))
theorem c71 (h:GI bs p T cs ps)(k t:Int):aQ Tryz.prog 71 (.st bs) [.loc 5 0,I k,I t] (B (NB p cs)):=by
 have hc:=adB (f:=132) (us:=[]) (AK:=[.ptr [.loc 5 0]]) (Q:=fun x=>decide (x.post<(p:Int)-1)) h (by kernel_rfl) fun x _=>aqD h x;refine amT.R rfl rfl ?_;unfold u71;simp only[aB,aI,A0i,A0j]
 repeat' (first|(apply aU;rfl;simp only[au];rfl)|(apply bC;rfl;rfl;exact hc;rfl;simp only[au];rfl)|exact aH rfl rfl)
theorem aqC (h:GI bs p T cs ps)(x:Cr):aQ Tryz.prog 133 (.st bs) [.agg (RR T x),.ptr [.loc 5 0],.ptr [I T]] (B false):=by
 have hd:=h.FM;have ht:=h.Sj;have hs:0≤(if x.st=true then T else 0)∧(if x.st=true then T else 0)≤T:=by split <;> omega
 have hb:-9223372036854775808≤T-(if x.st=true then T else 0)∧T-(if x.st=true then T else 0)<9223372036854775808:=by omega
 have e:decide (T-(if x.st=true then T else 0) > 100000)=false:=by simp;omega
 refine agV.R rfl rfl ?_;unfold ae3;simp only[aB,aI,A0i,A0j]
 repeat' (first|(apply dX;simp only[au];rfl)|(apply bG;rfl)|(apply dS;rfl;rfl;exact aW h.wj rfl;simp only[au];rfl)|(apply fP;rfl;rfl;omega;simp only[au];rfl)|(apply aU;rfl;simp only[au];rfl)|(apply fp;rfl)|exact aH rfl rfl|(apply aH;rfl;first|exact rfl|(refine eX ?_)|(refine eV ?_)|(refine eW ?_))|(intro hz;(try simp only[gq] at hz)))
 rw[e,E0F]
theorem c72 (h:GI bs p T cs ps)(k:Int):aQ Tryz.prog 72 (.st bs) [.loc 5 0,I k,I T] (B false):=by
 have hc:=adB (f:=133) (us:=[]) (AK:=[.ptr [.loc 5 0],.ptr [I T]]) (Q:=fun _=>false) h (by kernel_rfl) fun x _=>aqC h x;rw[show cs.any (fun x=>x.st&&false)=false by simp] at hc;refine amS.R rfl rfl ?_;unfold u72;simp only[aB,aI,A0i,A0j]
 repeat' (first|(apply aU;rfl;simp only[au];rfl)|(apply bC;rfl;rfl;exact hc;rfl;simp only[au];rfl)|exact aH rfl rfl)
theorem aqB (h:GI bs p T cs ps)(x:Cr):aQ Tryz.prog 134 (.st bs) [.agg (RR T x),.ptr [I T],.ptr [.loc 5 0]] (B false):=by
 have ht:=h.Sj;have e:decide ((if x.st=true then T else 0) > T-0)=false:=by rw[B0A];split <;> omega
 refine agU.R rfl rfl ?_;unfold ae2;simp only[aB,aI,A0i,A0j]
 repeat' (first|(apply bG;rfl)|(apply dS;rfl;rfl;exact aW h.wj rfl;simp only[au];rfl)|(apply fP;rfl;rfl;omega;simp only[au];rfl)|(apply aU;rfl;simp only[au];rfl)|(apply aH;rfl;first|exact rfl|(refine eX ?_)|(refine eV ?_)|(refine eW ?_)))
 exact e
theorem c73 (h:GI bs p T cs ps)(k:Int):aQ Tryz.prog 73 (.st bs) [.loc 5 0,I k,I T] (B false):=by
 have hc:=adB (f:=134) (us:=[]) (AK:=[.ptr [I T],.ptr [.loc 5 0]]) (Q:=fun _=>false) h (by kernel_rfl) fun x _=>aqB h x;rw[show cs.any (fun x=>x.st&&false)=false by simp] at hc;refine amR.R rfl rfl ?_;unfold u73;simp only[aB,aI,A0i,A0j]
 repeat' (first|(apply aU;rfl;simp only[au];rfl)|(apply bC;rfl;rfl;exact hc;rfl;simp only[au];rfl)|exact aH rfl rfl)
theorem aqA (x:Cr):aQ Tryz.prog 136 (.st bs) [.agg (RR T x)] (B x.st):=by
 refine agS.R rfl rfl ?_;unfold ae0;simp only[aB,aI,A0i,A0j]
 repeat' (first|(apply bG;rfl)|exact aH rfl rfl)
def afP (cs:List Cr)(k:Nat):Bool:=(cs.drop k).any fun x=>x.st
theorem c74 (h:GI bs p T cs ps){k:Nat}(hk:k<cs.length)(t:Int):aQ Tryz.prog 74 (.st bs) [.loc 5 0,In k,I t] (B (afP cs k)):=by
 have hd:=h.FM;have hc:=ajz (P:=fun x:Cr=>x.st) (f:=136) (us:=[]) (AK:=[]) (k:=k) h.dV xZ (by omega) (by omega) (by kernel_rfl) fun x _=>aqA x;have hs:D.sub 5 (.sl 4 0 cs.length) (In k) (In cs.length)=some (.sl 4 (k*5) (cs.length-k)):=by simp only[D.sub];rw[A0z ⟨by omega,by omega,by omega,by omega⟩,A0z (by omega)];simp only[C0j,A0Q];rw[show((cs.length:Int)-(k:Int)).toNat=cs.length-k by omega]
 refine amQ.R rfl rfl ?_;unfold u74;simp only[aB,aI,A0i,A0j]
 repeat' (first|(apply bG;rfl)|(apply dS;rfl;rfl;exact aW h.wj rfl;simp only[au];rfl)|(apply BE;rfl;rfl;rfl;exact hs;simp only[au];rfl)|(apply bC;rfl;rfl;exact hc;rfl;simp only[au];rfl)|exact aH rfl rfl)
def rB (p:Nat)(cs:List Cr)(k i:Nat):Bool:=if i=4 then NB p cs else if i=7 then afP cs k else false
def mw (p:Nat)(cs:List Cr)(k i:Nat):List Int:=((List.range i).filter (rB p cs k)).map fun j:Nat=>(1:Int)+(j:Int)
theorem P4 (p:Nat)(cs:List Cr)(k i:Nat):mw p cs k (i+1)=mw p cs k i++if rB p cs k i=true then[(1:Int)+(i:Int)] else[]:=by unfold mw;rw[D0v,B0Z,C0z];congr 1;rw[C0e,E0C];split <;> rfl
theorem Ce (p:Nat)(cs:List Cr)(k i:Nat):(mw p cs k i).length≤i:=by unfold mw;rw[B0u];exact A0J (C0G _ _) (by simp)
theorem rules (h:GI bs p T cs ps){k:Nat}(hk:k<cs.length):∀i (hi:i < [67,68,69,70,71,72,73,74].length),bL Tryz.prog ([67,68,69,70,71,72,73,74][i])=true∧aQ Tryz.prog ([67,68,69,70,71,72,73,74][i]) (.st bs) ([.loc 5 0]++[In k,I T]++[]) (B (rB p cs k i)):=by
 intro i hi;have ht:=h.Sj;have hc:i=0∨i=1∨i=2∨i=3∨i=4∨i=5∨i=6∨i=7:=by simp at hi;omega
 rcases hc with rfl | rfl | rfl | rfl | rfl | rfl | rfl | rfl
 ·exact⟨by kernel_rfl,c67 h _ _⟩
 ·exact⟨by kernel_rfl,c68 h _ _⟩
 ·exact⟨by kernel_rfl,c69 h _ (by omega)⟩
 ·exact⟨by kernel_rfl,c70 h _ _⟩
 ·exact⟨by kernel_rfl,c71 h _ _⟩
 ·exact⟨by kernel_rfl,c72 h _⟩
 ·exact⟨by kernel_rfl,c73 h _⟩
 ·exact⟨by kernel_rfl,c74 h hk _⟩
theorem c35 (h:GI bs p T cs ps){k:Nat}(hk:k<cs.length):aQ Tryz.prog 35 (.st bs) [.loc 5 0,In k,I T] (.a_ [Is (mw p cs k 8),I 0]):=by
 have hd:=h.FM;have ht:=h.Sj;have h1:(!fK (k:Int) 0 ((cs.length:Int)-1)||!fK T 0 100000)=false:=by rw[ue.2 (by omega),ue.2 (by omega)];rfl
 refine anb.R rfl rfl ?_;unfold u35;simp only[aB,aI,A0i,A0j]
 repeat' (first|(apply dX;simp only[au];rfl)|(apply bf;rfl;(·first|exact rfl|exact h1))|(apply bG;rfl)|(apply dS;rfl;rfl;exact aW h.wj rfl;simp only[au];rfl)|(apply fP;rfl;rfl;omega;simp only[au];rfl)|(apply aU;rfl;simp only[au];rfl)|(apply bC;rfl;rfl;(·first|exact c66 h|exact c41 _ _ _);rfl;simp only[au];rfl)|(apply iP;rfl)|refine aO ?_|exact aH rfl rfl|(intro hz;(try simp only[gq] at hz)))
 refine ew (fun i=>[Is (mw p cs k i),In i]) (fun _=>True) 8 rfl (fun _=>rfl) trivial (fun i hi hJ R hR=>?_) (fun hJ R=>?_)
 ·have gA:decide ((i:Int)<8)=true:=by simp;omega
  obtain⟨r1,r2⟩:=rules h hk i (by simpa using hi);have qE:=c_ (xs:=([67,68,69,70,71,72,73,74]:List Nat)) (enc:=fun f=>D.fn f [.loc 5 0] []) (sz:=1) (i:=i) (by simpa using hi) rfl;have hs:=P4 p cs k i;have hl:=Ce p cs k i;have vK:D.app 1 8 (Is (mw p cs k i)) (.bk [I ((1:Int)+(i:Int))])=some (Is (mw p cs k i++[(1:Int)+(i:Int)])):=D2 (enc:=I) (by omega) (by simp[maxLen];omega) (fun _=>rfl);rw[hs] at hR;cases hb:rB p cs k i
  ·rw[hb,A0B (by decide),B0F] at hR;rw[hb] at r2
   repeat' (first|(apply dX;simp only[au];rfl)|(apply bF;rfl;exact gA)|(apply bf;rfl;exact rfl)|(apply bH;rfl;rfl;exact qE;simp only[au];rfl)|(apply eo;rfl;omega;simp only[au];rfl)|(apply aU;rfl;simp only[au];rfl)|(apply kU;rfl;exact r1;rfl;rfl;exact r2;rfl;simp only[au];rfl)|refine aO ?_|(apply aL;rfl;rfl)|refine aC ?_|refine kj rfl ?_)
   exact hR trivial
  ·rw[hb,A0z rfl] at hR;rw[hb] at r2
   repeat' (first|(apply dX;simp only[au];rfl)|(apply bF;rfl;(·first|exact gA|exact rfl))|(apply bH;rfl;rfl;exact qE;simp only[au];rfl)|(apply NQ;rfl;rfl;exact vK;simp only[au];rfl)|(apply eo;rfl;omega;simp only[au];rfl)|(apply jf;rfl;rfl;omega;simp only[au];rfl)|(apply aU;rfl;simp only[au];rfl)|(apply kU;rfl;exact r1;rfl;rfl;exact r2;rfl;simp only[au];rfl)|refine aO ?_|(apply aL;rfl;rfl)|refine aC ?_|refine kj rfl ?_)
   exact hR trivial
 ·repeat' (first|(apply dX;simp only[au];rfl)|(apply bf;rfl;exact rfl)|(apply aU;rfl;simp only[au];rfl)|(apply aL;rfl;rfl)|refine aC ?_|(refine aT (by decide) ?_)|refine kj rfl ?_|exact aH rfl rfl)
end
section
open Go.Proofs Go.Am.Sc
set_option maxRecDepth 100000
set_option maxHeartbeats 4000000
attribute [local irreducible] fK
variable {bs:List D} {p:Nat} {T:Int} {cs:List Cr} {ps:List Int}
def c3 (x:Bool×Int×Int):List D:=[B x.1,I x.2.1,I x.2.2,B false,B false]
theorem VY (x:Bool×Int×Int):(c3 x).length=5:=rfl
def Zr (T:Int)(x:Cr):Bool×Int×Int:=(x.st,(if x.st then T else 0),x.post)
theorem Ke (T:Int)(cs:List Cr):cs.flatMap (RR T)=(cs.map (Zr T)).flatMap c3:=by rw[List.flatMap_map];rfl
def mN (bs:List D)(T:Int)(cs:List Cr):List D:=bs.set 4 (.blk GA 5 (cs.flatMap (RR T)))
theorem GI.iV (h:GI bs p T cs ps){vR:List Cr}(hl:vR.length=cs.length)(hb:∀x∈vR,-1≤x.post∧x.post<p):GI (mN bs T vR) p T vR ps:=by
 have h4:=(A0c.1 h.dV).1;refine⟨?_,?_,?_,?_,by rw[hl];exact h.FM,h.Sj,h.ZA,hb⟩
 ·rw[mN,A0q (by omega),hl];exact h.wj
 ·rw[mN,A0q (by omega)];exact h.red
 ·rw[mN,A0q (by omega)];exact h.Lc
 ·rw[mN,A0M h4]
def sQ (bs:List D)(ps:List Int):List D:=bs.set 3 (.blk GA 3 (ps.flatMap lcs))
theorem GI.N5 (h:GI bs p T cs ps){ps':List Int}(hl:ps'.length=ps.length)(hb:∀s∈ps',0≤s∧s≤2000):GI (sQ bs ps') p T cs ps':=by
 have h3:=(A0c.1 h.Lc).1;refine⟨?_,?_,?_,?_,by rw[hl];exact h.FM,h.Sj,hb,h.YV⟩
 ·rw[sQ,A0q (by omega),hl];exact h.wj
 ·rw[sQ,A0q (by omega)];exact h.red
 ·rw[sQ,A0M h3]
 ·rw[sQ,A0q (by omega)];exact h.dV
def H9 (cs:List Cr)(k:Nat):List Cr:=cs.set k ⟨true,(cs.getD k default).post⟩
theorem ajv (h:GI bs p T cs ps){k:Nat}(hk:k<cs.length)(ho:mw p cs k 8≠[]):aZ Tryz.prog 160 (.st bs) [.loc 5 0,In k,I T] (I 7) (.st bs):=by
 have hl:decide (((mw p cs k 8).length:Int) > 0)=true:=by have:=B0x.2 ho;simp;omega
 have hm:=Ce p cs k 8;refine ZQ.W rfl ?_;unfold aaR;simp only[aB,aI,A0i,A0j]
 repeat' (first|(apply bF;rfl;exact hl)|(apply bf;rfl;exact rfl)|(apply cM;rfl;exact bR;simp only[au];rfl)|(apply aU;rfl;simp only[au];rfl)|(apply bC;rfl;rfl;exact c35 h hk;rfl;simp only[au];rfl)|exact aH rfl rfl)
theorem aqv (h:GI bs p T cs ps){k:Nat}(hk:k<cs.length)(ho:mw p cs k 8=[]):aZ Tryz.prog 160 (.st bs) [.loc 5 0,In k,I T] (I 0) (.st (mN bs T (H9 cs k))):=by
 have h35:=c35 h hk;rw[ho] at h35;have aoF:bs[4]? = some (.blk GA 5 ((cs.map (Zr T)).flatMap c3)):=by rw[←Ke];exact h.dV
 obtain⟨x,hx⟩:∃x,cs[k]? = some x:=⟨_,A0e hk⟩;have hx3:(cs.map (Zr T))[k]? = some (x.st,(if x.st then T else 0),x.post):=by rw[A0w,hx];rfl
 have s1:=sD (x':=(true,(if x.st then T else 0),x.post)) (o:=0) (d:=B true) aoF VY hx3 (by decide) rfl rfl;have h4:=(A0c.1 h.dV).1;have O0:(bs.set 4 (.blk GA 5 (((cs.map (Zr T)).set k (true,(if x.st then T else 0),x.post)).flatMap c3)))[4]? = some (.blk GA 5 (((cs.map (Zr T)).set k (true,(if x.st then T else 0),x.post)).flatMap c3)):=A0M h4;have s2:=sD (x':=(true,T,x.post)) (o:=1) (d:=I T) O0 VY (A0M (by simpa using hk)) (by decide) rfl rfl;rw[E0D,E0D] at s2;have mM:(cs.map (Zr T)).set k (true,T,x.post)=(H9 cs k).map (Zr T):=by rw[H9,D0p,A0k,hx];rfl
 rw[mM,←Ke] at s2;have RH:(bs.set 4 (.blk GA 5 (((cs.map (Zr T)).set k (true,(if x.st then T else 0),x.post)).flatMap c3)))[5]? = bs[5]?:=A0q (by omega);refine ZQ.W rfl ?_;unfold aaR;simp only[aB,aI,A0i,A0j]
 repeat' (first|(apply bf;rfl;exact rfl)|(apply bG;rfl)|(apply dS;rfl;rfl;exact aW h.wj rfl;simp only[au];rfl)|(apply bH;rfl;rfl;exact fA hk;simp only[au];rfl)|(apply je;rfl;rfl;rfl;(·first|exact s1|exact s2);simp only[au];rfl)|(apply cM;rfl;exact bR;simp only[au];rfl)|(apply aU;rfl;simp only[au];rfl)|(apply bC;rfl;rfl;exact h35;rfl;simp only[au];rfl)|exact aH rfl rfl)
theorem aqh (h:GI bs p T cs ps){q:Nat}(hq:q<ps.length){s:Int}:aZ Tryz.prog 200 (.st bs) [.loc 3 (q*3),B true,I s,B true] (.a_ []) (.st (sQ bs (ps.set q (max (ps.getD q 0) s)))):=by
 have hg:ps[q]? = some (ps.getD q 0):=by rw[A0k,A0e hq];rfl
 generalize ps.getD q 0=s0 at hg;have l0:=mG (k:=0) h.Lc ru hg rfl;have l1:=mG (k:=1) h.Lc ru hg rfl;have l2:=mG (k:=2) h.Lc ru hg rfl;have s1:=sD (x':=s0) (o:=0) (d:=B true) h.Lc ru hg (by decide) rfl rfl;have gT:ps.set q s0=ps:=alO hg;rw[gT,afz h.Lc] at s1;have s2:=sD (x':=max s0 s) (o:=1) (d:=I (max s0 s)) h.Lc ru hg (by decide) rfl rfl;have h3:=(A0c.1 h.Lc).1;have wh:(bs.set 3 (.blk GA 3 ((ps.set q (max s0 s)).flatMap lcs)))[3]? = some (.blk GA 3 ((ps.set q (max s0 s)).flatMap lcs)):=A0M h3;have s3:=sD (x':=max s0 s) (o:=2) (d:=B true) wh ru (A0M hq) (by decide) rfl rfl;rw[E0D,E0D] at s3;refine agA.W rfl ?_;unfold aeI;simp only[aB,aI,A0i,A0j];cases hc:(!true||decide (s > s0)||(s==s0&&true==true))
 ·repeat' (first|(apply dX;simp only[au];rfl)|(apply bf;rfl;exact hc)|(apply bG;rfl)|(apply dS;rfl;rfl;(·first|exact l1|exact l2);simp only[au];rfl)|(apply je;rfl;rfl;rfl;(·first|exact s2|exact s3);simp only[au];rfl)|(apply yB;rfl;rfl;exact mmG _ _;simp only[au];rfl)|(apply aU;rfl;simp only[au];rfl)|(apply iP;rfl)|(apply fp;rfl)|refine aO ?_|(apply aL;rfl;rfl)|refine aC ?_|refine kj rfl ?_|exact aH rfl rfl|(intro hz;(try simp only[gq] at hz)))
 ·repeat' (first|(apply dX;simp only[au];rfl)|(apply bF;rfl;exact hc)|(apply bG;rfl)|(apply dS;rfl;rfl;(·first|exact l1|exact l2);simp only[au];rfl)|(apply je;rfl;rfl;rfl;(·first|exact s1|exact s2|exact s3);simp only[au];rfl)|(apply yB;rfl;rfl;exact mmG _ _;simp only[au];rfl)|(apply aU;rfl;simp only[au];rfl)|(apply iP;rfl)|(apply fp;rfl)|refine aO ?_|(apply aL;rfl;rfl)|refine aC ?_|refine kj rfl ?_|exact aH rfl rfl|(intro hz;(try simp only[gq] at hz)))
theorem aqi (h:GI bs p T cs ps){q:Nat}(hq:q<ps.length){s dV:Int}:aZ Tryz.prog 199 (.st bs) [.ptr [.loc 5 0],.ptr [I 8,I s,In q,I dV]] (.a_ []) (.st (sQ bs (ps.set q (max (ps.getD q 0) s)))):=by
 refine agB.W rfl ?_;unfold aeJ;simp only[aB,aI,A0i,A0j]
 repeat' (first|(apply bG;rfl)|(apply dS;rfl;rfl;exact aW h.wj rfl;simp only[au];rfl)|(apply bH;rfl;rfl;exact fA hq;simp only[au];rfl)|(apply aU;rfl;simp only[au];rfl)|(apply dZ;rfl;rfl;exact aqh h hq;rfl;simp only[au];rfl)|exact aH rfl rfl)
theorem aqj (h:GI bs p T cs ps){q k:Nat}(hq:q<ps.length)(hk:k<cs.length){s:Int}(hs:0≤s∧s≤100000):aQ Tryz.prog 198 (.st bs) [.loc 5 0,.agg [I 8,I s,In q,In k]] (B true):=by
 have hd:=h.FM;have e1:(decide ((8:Int)<1)||decide ((8:Int) > 10)||!fK s 0 100000||(!((8:Int)==3||(8:Int)==4||(8:Int)==5||(8:Int)==8)&&!((q:Int)==0))||(!((8:Int)==8||(8:Int)==9||(8:Int)==10)&&!((k:Int)==0)))=false:=by rw[ue.2 hs];rfl
 have e2:fK (q:Int) 0 ((p:Int)-1)=true:=ue.2 (by omega);have e3:fK (k:Int) 0 ((cs.length:Int)-1)=true:=ue.2 (by omega);refine agC.R rfl rfl ?_;unfold aeK;simp only[aB,aI,A0i,A0j]
 repeat' (first|(apply dX;simp only[au];rfl)|(apply bf;rfl;exact e1)|(apply bG;rfl)|(apply dS;rfl;rfl;exact aW h.wj rfl;simp only[au];rfl)|(apply fP;rfl;rfl;omega;simp only[au];rfl)|(apply aU;rfl;simp only[au];rfl)|(apply bC;rfl;rfl;exact c41 _ _ _;rfl;simp only[au];rfl)|(apply iP;rfl)|(apply fp;rfl)|exact aH rfl rfl|(apply aH;rfl;first|exact rfl|(refine eX ?_)|(refine eV ?_)|(refine eW ?_))|(intro hz;(try simp only[gq] at hz)))
 rw[e2,e3];rfl
def zY (cs:List Cr)(k:Nat)(q:Int):List Cr:=cs.set k ⟨true,max (cs.getD k default).post q⟩
theorem aqw (h:GI bs p T cs ps){q k:Nat}(hq:q<ps.length)(hk:k<cs.length)(hst:(cs.getD k default).st=true){s:Int}(hs:0≤s∧s≤2000) :
  aZ Tryz.prog 158 (.st bs) [.loc 5 0,.agg [I 8,I s,In q,In k]] (I 0) (.st (sQ (mN bs T (zY cs k q)) (ps.set q (max (ps.getD q 0) s))))∧GI (sQ (mN bs T (zY cs k q)) (ps.set q (max (ps.getD q 0) s))) p T (zY cs k q) (ps.set q (max (ps.getD q 0) s)):=by
 have hd:=h.FM;have hg:cs[k]? = some (cs.getD k default):=by rw[A0k,A0e hk];rfl
 have hxb:=h.YV _ (A0I hg);have hpb:∀t∈ps.set q (max (ps.getD q 0) s),0≤t∧t≤2000:=by
  intro t ht;rcases C0l ht with ht | rfl
  ·exact h.ZA t ht
  ·have:0≤ps.getD q 0∧ps.getD q 0≤2000:=by rw[A0k,A0e hq];exact h.ZA _ (A0T hq)
   omega
 have hcb:∀x∈zY cs k q,-1≤x.post∧x.post<p:=by
  intro x hx;rcases C0l hx with hx | rfl
  ·exact h.YV x hx
  ·simp only;omega
 have h1:GI (mN bs T (zY cs k q)) p T (zY cs k q) ps:=h.iV (by simp[zY]) hcb;have hG:=h1.N5 (ps':=ps.set q (max (ps.getD q 0) s)) (by simp) hpb;refine⟨?_,hG⟩;generalize ZV:cs.getD k default=x at hg hst hxb;have l0:=mG (k:=0) h.dV xZ hg rfl;have l2:=mG (k:=2) h.dV xZ hg rfl;rw[hst] at l0;have s2:=sD (x':=(⟨true,max x.post q⟩:Cr)) (o:=2) (d:=I (max x.post q)) h.dV xZ hg (by decide) rfl (by simp only[RR,hst];rfl);have hpa:cs.set k ⟨true,max x.post q⟩=zY cs k q:=by rw[zY,ZV]
 rw[hpa] at s2;have s2':D.eL 1 (.st bs) (.loc 4 (k*5+2)) (I (max x.post q))=some (.st (mN bs T (zY cs k q))):=s2;have aoZ:=aqi (dV:=(k:Int)) h1 hq (s:=s);refine agO.W rfl ?_;unfold aeW;simp only[aB,aI,A0i,A0j]
 repeat' (first|(apply dX;simp only[au];rfl)|(apply BG;rfl;rfl;rfl;(·exact⟨rfl,aoZ⟩);rfl;simp only[au];rfl)|(apply bF;rfl;exact rfl)|(apply bf;rfl;exact rfl)|(apply bG;rfl)|(apply dS;rfl;rfl;(·first|exact aW h.wj rfl|exact l0|exact l2);simp only[au];rfl)|(apply bH;rfl;rfl;exact fA hk;simp only[au];rfl)|(apply je;rfl;rfl;rfl;exact s2';simp only[au];rfl)|(apply yB;rfl;rfl;exact mmG _ _;simp only[au];rfl)|(apply aU;rfl;simp only[au];rfl)|(apply bC;rfl;rfl;(·first|exact c66 h|exact aqj h hq hk (by omega));rfl;simp only[au];rfl)|refine aO ?_|(apply aL;rfl;rfl)|refine aC ?_|refine kj rfl ?_|exact aH rfl rfl)
end
section
open Go.Proofs
noncomputable def u8:U:=aD [.join 0 1 (.loop 1 [y0,ki 0] (aD [.ev (.bI y1),.ev (X' .lss y4 y5)] (.ite y6 (aD [.join 2 1 (aD [.ev (.bin .add .str y3 (Z' #[32])),.ev (.ax 1 y1 y4),.ev (l' y2 y8),.call 27 y2 [y9] [true],.ev (.bin .add .str y7 y10)] (.jump 2 [y11] [])),.ev (P' y4 (ki 1))] (.jump 1 [y7,y8] [])) (.jump 0 [y3] []))))] (.ret (C' y3 y2))
theorem ku8:bP Tryz.prog 8 .plain (E' Tryz.f8 true [] [] []) [true,true] u8:=U' Tryz.func8
noncomputable def u27:U:=aD [.join 0 2 (.loop 1 [y0,Z' #[]] (aD [.ev (X' .gtr y2 (ki 9))] (.ite y4 (aD [.join 2 2 (aD [.ev (X' .rem y2 (ki 10)),.ev (X' .rem y2 (ki 10)),.ev (P' y6 (ki 1)),.ev (o' .kM (Z' #[48,49,50,51,52,53,54,55,56,57]) y5 y7),.ev (.bin .add .str y8 y3),.ev (X' .quo y2 (ki 10))] (.jump 2 [y10,y9] []))] (.jump 1 [y5,y6] [])) (.jump 0 [y2,y3] [])))),.ev (P' y2 (ki 1)),.ev (o' .kM (Z' #[48,49,50,51,52,53,54,55,56,57]) y2 y4),.ev (.bin .add .str y5 y3)] (.ret (C' y6 y1))
theorem anf:bP Tryz.prog 27 .plain (E' Tryz.f27 true [] [] []) [true] u27:=U' Tryz.func27
noncomputable def u34:U:=aD [.ev (X' .geq y0 y1),.chain false y4 (aD [.ev (X' .leq y0 y2)] (.ret y5))] (.ret (C' y5 y3))
theorem anc:bP Tryz.prog 34 .plain (E' Tryz.f34 true [] [] []) [true,true,true] u34:=U' Tryz.func34
noncomputable def u57:U:=aD [.ev (m' (.JG true) y2),.join 0 1 (.ite y3 (aD [.ev (n' (.A5 156) y2 (.const (.agg [.v (.int .i64 0)]))),.aR (.bE 1 (s' y4)),.ev (N' (t' y4)),.join 1 0 (.ite y5 (.ee (m' .s8 y2) y1 [] []) (.jump 1 [] [])),.ev (.eL 1 y1 y0 (q' 0 (s' y4)))] (.jump 0 [y6] [])) (.jump 0 [y1] []))] (.ret (C' .ai y4))
theorem agp:bP Tryz.prog 57 .gK { (aq false ([]++ct) cu [] [] Tryz.f57) with aS:=true,cn:=true } [true] u57:=bP.gK Tryz.func57 (by kernel_rfl) (by kernel_rfl)
noncomputable def u58:U:=aD [.ev (.fO 9 1 y1 (j' (z' y0) .nil)),.ev (.b_ 101 .ai (.aa (.aJ y1) .ai))] (.ret (C' y3 y2))
theorem am6:bP Tryz.prog 58 .plain (E' Tryz.f58 false [] [1] []) [true] u58:=U' Tryz.func58
noncomputable def u59:U:=aD [.ev (m' .GG y1),.ev (.b_ 103 (.aa y0 .ai) .ai),.ev (.m4 (.put .str) y2 (m' .ez y1) (Z' #[111,112,101,110]) y3),.ev (.b_ 103 (.aa y0 .ai) .ai),.ev (.m4 (.put .str) y4 (m' .ez y1) (Z' #[99,108,111,115,101]) y5),.ev (.b_ 103 (.aa y0 .ai) .ai),.ev (.m4 (.put .str) y6 (m' .ez y1) (Z' #[99,111,118,101,114,101,100]) y7),.ev (.b_ 103 (.aa y0 .ai) .ai),.ev (.m4 (.put .str) y8 (m' .ez y1) (Z' #[117,110,99,111,118,101,114,101,100]) y9),.ev (.b_ 103 (.aa y0 .ai) .ai),.ev (.m4 (.put .str) y10 (m' .ez y1) (Z' #[112,111,115,116]) y11),.ev (.b_ 103 (.aa y0 .ai) .ai),.ev (.m4 (.put .str) y12 (m' .ez y1) (Z' #[114,101,100]) y13),.ev (.b_ 103 (.aa y0 .ai) .ai),.ev (.m4 (.put .str) y14 (m' .ez y1) (Z' #[103,114,101,101,110]) y15),.ev (.b_ 104 (.aa y0 .ai) .ai),.ev (.m4 (.put .str) y16 (m' .ez y1) (Z' #[115,97,102,101]) y17),.ev (.b_ 104 (.aa y0 .ai) .ai),.ev (.m4 (.put .str) y18 (m' .ez y1) (Z' #[102,111,117,110,100]) y19),.ev (.b_ 105 (.aa y0 .ai) .ai),.ev (.m4 (.put .str) y20 (m' .ez y1) (Z' #[115,116,97,114,116]) y21),.ev (.b_ 106 (.aa y0 .ai) .ai),.ev (.m4 (.put .str) y22 (m' .ez y1) (Z' #[112,97,115,115]) y23),.ev (.b_ 106 (.aa y0 .ai) .ai),.ev (.m4 (.put .str) y24 (m' .ez y1) (Z' #[110,111,116]) y25),.ev (.b_ 107 (.aa y0 .ai) .ai),.ev (.m4 (.put .str) y26 (m' .ez y1) (Z' #[111,117,116]) y27),.ev (.b_ 108 (.aa y0 .ai) .ai),.ev (.m4 (.put .str) y28 (m' .ez y1) (Z' #[118,111,105,100]) y29),.ev (.b_ 109 (.aa y0 .ai) .ai),.ev (.m4 (.put .str) y30 (m' .ez y1) (Z' #[99,108,97,115,115]) y31),.ev (.b_ 110 (.aa y0 .ai) .ai),.ev (.m4 (.put .str) y32 (m' .ez y1) (Z' #[108,101,103]) y33),.ev (.b_ 111 (.aa y0 .ai) .ai),.ev (.m4 (.put .str) y34 (m' .ez y1) (Z' #[108,105,110,101]) y35),.ev (.b_ 112 (.aa y0 .ai) .ai),.ev (.m4 (.put .str) y36 (m' .ez y1) (Z' #[116,97,107,101]) y37),.ev (.b_ 113 (.aa y0 .ai) .ai),.ev (.m4 (.put .str) y38 (m' .ez y1) (Z' #[112,117,98,108,105,115,104]) y39),.ev (.b_ 114 (.aa y0 .ai) .ai),.ev (.m4 (.put .str) y40 (m' .ez y1) (Z' #[112,114,111,116,101,115,116]) y41),.ev (.b_ 115 (.aa y0 .ai) .ai),.ev (.m4 (.put .str) y42 (m' .ez y1) (Z' #[100,101,99,105,100,101]) y43),.ev (.b_ 115 (.aa y0 .ai) .ai),.ev (.m4 (.put .str) y44 (m' .ez y1) (Z' #[114,101,106,101,99,116]) y45),.ev (.b_ 116 (.aa y0 .ai) .ai),.ev (.m4 (.put .str) y46 (m' .ez y1) (Z' #[97,112,112,101,97,108]) y47),.ev (.b_ 115 (.aa y0 .ai) .ai),.ev (.m4 (.put .str) y48 (m' .ez y1) (Z' #[106,117,100,103,101]) y49),.ev (.b_ 115 (.aa y0 .ai) .ai),.ev (.m4 (.put .str) y50 (m' .ez y1) (Z' #[100,105,115,109,105,115,115]) y51),.ev (.b_ 117 (.aa y0 .ai) .ai),.ev (.m4 (.put .str) y52 (m' .ez y1) (Z' #[100,114,111,112]) y53)] (.ret (C' (m' .ez y1) y54))
theorem am5:bP Tryz.prog 59 .plain (E' Tryz.f59 false [] [] []) [true] u59:=U' Tryz.func59
noncomputable def afh:U:=.loop 0 [y2] (aD [.join 1 1 (aD [.ev (l' y3 y1),.call 102 y3 [y4,Z' #[32]] [true,true,true],.gen (.dG [] y0 y3 [s' y5] [true]),.ev (N' (s' y6)),.chain true y7 (aD [.aR (.av 2 y5),.ev (N' (.av 2 y5))] (.ret y8))] (.ite y8 (.ret (C' .ai (t' y6))) (aD [.ev (.eL 1 (t' y6) y1 (t' y5))] (.jump 1 [y9] [s' y5,t' y5,.av 2 y5,D' (s' y5) (t' y5) (.av 2 y5),D' (s' y5) (t' y5) (.av 2 y5),s' y5,t' y5,.av 2 y5,s' y5,s' y6,t' y5]))))] (.jump 0 [y4] []))
theorem ag_:bP Tryz.prog 101 .plain (E' Tryz.f101 false [1000014] [] []) [true,true] afh:=U' Tryz.func101
noncomputable def afg:U:=aD [.call 155 y2 [y0,y1] [true,true,true]] (.ret (C' (D' (s' y3) (t' y3) (.av 2 y3)) y2))
theorem ag9:bP Tryz.prog 102 .plain (E' Tryz.f102 true [] [] []) [true,true] afg:=U' Tryz.func102
noncomputable def aaT:U:=aD [.call 196 y2 [y0,y1] [true],.ev (X' .geq y3 (ki 0))] (.ite y4 (aD [.ev (o' .kM y0 (ki 0) y3),.ev (.gy y1),.ev (P' y3 y6),.ev (o' .kM y0 y7 (.gy y0))] (.ret (C' (D' y5 y8 (kb true)) y2))) (.ret (C' (D' y0 (Z' #[]) (kb false)) y2)))
theorem ZS:bP Tryz.prog 155 .plain (E' Tryz.f155 true [] [] []) [true,true] aaT:=U' Tryz.func155
noncomputable def aeX:U:=aD [.aR (.bE 2 y0),.ev (.bI (q' 1 y0)),.ev (X' .neq y3 y1),.join 0 0 (.ite y4 (aD [.gX 157 y2 [ki 3] [] [] []] (.jump 0 [] [])) (.jump 0 [] [])),.ev (.bI (q' 1 y0)),.join 0 2 (.loop 1 [.const (.bk []),ki 0,y2] (aD [.ev (X' .lss y7 y5)] (.ite y9 (aD [.join 2 2 (aD [.ev (.ax 1 (q' 1 y0) y7),.ev (l' y8 y10),.bw 197 y8 [y11] [true,true],.ev (N' (t' y12)),.join 3 0 (.ite y14 (aD [.gX 157 y13 [ki 3] [] [] []] (.jump 3 [] [])) (.jump 3 [] [])),.ev (.bz (z' (s' y12)) (.const (.bk []))),.ev (.app 1 8 y6 y15)] (.jump 2 [y16,y13] [s' y12,t' y12,C' (s' y12) (t' y12),C' (s' y12) (t' y12),s' y12,t' y12,t' y12,s' y12])),.ev (P' y7 (ki 1))] (.jump 1 [y10,y12,y11] [])) (.jump 0 [y6,y8] []))))] (.ret (C' y6 y7))
theorem agP:bP Tryz.prog 156 .plain (E' Tryz.f156 false [197] [] []) [false,true] aeX:=U' Tryz.func156
noncomputable def aaS:U:=aD [.ev (X' .neq y0 (ki 0)),.join 0 0 (.ite y2 (aD [.ev (j' (z' y0) .nil)] (.ee (m' .s8 (.iW 156 y3)) y1 [] [])) (.jump 0 [] []))] (.ret (C' .ai y1))
theorem ZR:bP Tryz.prog 157 .plain (E' Tryz.f157 true [] [] []) [true] aaS:=U' Tryz.func157
noncomputable def aeV:U:=aD [.aR (.nn y0),.aR (p' 0 y0),.aR (p' 6 (p' 0 y0)),.aR (p' 0 (p' 6 (p' 0 y0))),.ev (l' y2 (p' 0 (p' 6 (p' 0 y0)))),.call 34 y2 [y1,ki 1,y3] [true],.ev (N' y4),.join 0 0 (.ite y5 (aD [.gX 157 y2 [ki 2] [] [] []] (.jump 0 [] [])) (.jump 0 [] [])),.ev (M' y1 (ki 1))] (.ret (C' y6 y2))
theorem agN:bP Tryz.prog 159 .plain (E' Tryz.f159 true [] [] []) [true,true] aeV:=U' Tryz.func159
noncomputable def aeM:U:=aD [.ev (.gy y1),.ev (Q' y3 (ki 0)),.chain true y4 (aD [.ev (.bin .eql .str y1 y0)] (.ret y5))] (.ite y5 (.ret (C' (ki 0) y2)) (aD [.ev (Q' y3 (ki 1))] (.ite y6 (aD [.ev (n' .kN y1 (ki 0)),.call 227 y2 [y0,y7] [true]] (.ret (C' y8 y2))) (aD [.ev (.gy y0),.ev (X' .geq y3 y7)] (.ite y8 (.ret (C' (ki (-1)) y2)) (.ret (.deref .nil)))))))
theorem agE:bP Tryz.prog 196 .plain (E' Tryz.f196 true [] [] []) [true,true] aeM:=U' Tryz.func196
noncomputable def aeL:U:=aD [.ev (n' .Iv y1 y0),.join 0 2 (.loop 1 [ki 0,y2] (aD [.ev (n' .Wr y4 (.aJ y1)),.ev (s' (n' .La y4 (.aJ y1)))] (.ite y6 (aD [.join 2 1 (aD [.ev (.av 2 (n' .La y4 (.aJ y1))),.ev (X' .lss y7 (.const (.v (.int .i32 48)))),.chain true y8 (aD [.ev (X' .gtr y7 (.const (.v (.int .i32 57))))] (.ret y9)),.chain true y9 (aD [.ev (X' .gtr y3 (ki 1000000000000000))] (.ret y10))] (.ite y10 (.ret (C' (C' (ki 0) (kb false)) y5)) (aD [.ev (X' .mul (ki 10) y3),.ev (M' y7 (.const (.v (.int .i32 48)))),.ev (.conv .i64 y12),.ev (P' y11 y13)] (.jump 2 [y14] []))))] (.jump 1 [y7,y5] [])) (.jump 0 [y3,y5] [n' .La y4 (.aJ y1)])))),.ev (.bin .neq .str y0 (Z' #[])),.chain false y5 (aD [.ev (X' .leq y3 (ki 1000000000000000))] (.ret y6)),.chain false y6 (aD [.ev (n' .kN y0 (ki 0)),.ev (X' .neq y7 (K' 48)),.chain true y8 (aD [.ev (.gy y0),.ev (Q' y9 (ki 1))] (.ret y10))] (.ret y9))] (.ret (C' (C' y3 y7) y4))
theorem agD:bP Tryz.prog 197 .plain (E' Tryz.f197 false [] [] []) [true] aeL:=U' Tryz.func197
noncomputable def aeC:U:=aD [.ev (n' .sib y0 y1)] (.ret (C' y3 y2))
theorem agu:bP Tryz.prog 227 .plain (E' Tryz.f227 true [] [] []) [true,true] aeC:=U' Tryz.func227
noncomputable def aff:U:=aD [.aR (.bE 2 y1),.gH 156 y2 [r6 2 y1,ki 2] [true] [] [],.aR (.nn y0),.aR (p' 30 y0),.ev (l' y4 (p' 30 y0)),.ev (.ax 1 y3 (ki 0)),.ev (l' y4 y6),.call 159 y4 [y0,y7] [true],.ev (.ax 1 y3 (ki 1)),.ev (l' y4 y9),.bw 160 y4 [y5,y8,y10] [true],.gX 157 y12 [y11] [] [] []] (.ret (C' .ai y12))
theorem ag8:bP Tryz.prog 105 .plain (E' Tryz.f105 false [156] [] []) [true,false] aff:=U' Tryz.func105
noncomputable def afe:U:=aD [.aR (.bE 2 y1),.gH 156 y2 [r6 2 y1,ki 6] [true] [] [],.ev (.ax 1 y3 (ki 2)),.ev (l' y4 y5),.gX 159 y4 [y0,y6] [true] [] [],.ev (.ax 1 y3 (ki 0)),.ev (l' y4 y8),.ev (.ax 1 y3 (ki 1)),.ev (l' y4 y10),.ev (.ax 1 y3 (ki 2)),.ev (l' y4 y12),.ev (.ax 1 y3 (ki 3)),.ev (l' y4 y14),.ev (.ax 1 y3 (ki 4)),.ev (l' y4 y16),.ev (.ax 1 y3 (ki 5)),.ev (l' y4 y18),.ev (j' (z' y9) (j' (z' y11) (j' (z' (ki 1)) (j' (z' y13) (j' (z' y15) (j' (z' y17) (j' (z' y19) .nil))))))),.aR (.bE 7 y20),.ev (.bin .eql .str (q' 0 y1) (Z' #[110,111,116])),.Xn y21 [ki 2] [q' 2 y20],.aR (.nn y0),.aR (p' 31 y0),.ev (l' y4 (p' 31 y0)),.ev (.bz (.bE 7 (j' (q' 0 y20) (j' (q' 1 y20) (j' y22 (j' (q' 3 y20) (j' (q' 4 y20) (j' (q' 5 y20) (j' (q' 6 y20) .nil)))))))) (.const (.bk []))),.bw 161 y4 [y23,y24] [true],.gX 157 y26 [y25] [] [] [],.ev (Q' y22 (ki 1)),.chain false y28 (aD [.aR (.nn y0),.aR (p' 0 y0),.aR (p' 9 (p' 0 y0)),.ev (l' y26 (p' 9 (p' 0 y0))),.aR (q' 0 y20),.ev (.ax 2 y29 (q' 0 y20)),.aR (p' 0 y30),.ev (l' y26 (p' 0 y30)),.ev (X' .neq y31 (ki 3))] (.ret y32)),.join 0 1 (.ite y29 (aD [.aR (.nn y0),.aR (p' 30 y0),.ev (l' y26 (p' 30 y0)),.ev (X' .quo (q' 6 y20) (ki 1000)),.ev (j' (z' (ki 8)) (j' (z' y31) (j' (z' (q' 4 y20)) (j' (z' y7) .nil)))),.bw 158 y26 [y30,y32] [true]] (.jump 0 [y34] [])) (.jump 0 [y26] []))] (.ret (C' .ai y30))
theorem ag7:bP Tryz.prog 106 .plain (E' Tryz.f106 false [156] [] []) [true,false] afe:=U' Tryz.func106
noncomputable def u31:U:=aD [.ev (.fO 25 1 y2 (.const (.agg [.v (.int .i64 0)]))),.Ia 57 [4] [.aJ y2] (l' y1 y0),.ev (.gy y1),.ev (X' .gtr y4 (ki 200))] (.ite y5 (aD [.ev (.eL 1 y3 (.aJ y2) (ki 4))] (.ret (C' (.aa (.aJ y2) .ai) y6))) (aD [.ev (.fO 45 1 y3 (.const (.agg [.bS]))),.bw 58 y6 [y1] [true],.join 0 1 (aD [.nW y7 y8 [0,1,4,5,10,11,12,13,14] [y0,y1,.aJ y2,.aJ y3,y1,y4,y5,y1,y7] 1 1 (aD [.join 2 1 (aD [.ev (l' y9 (.aJ y3)),.ev (.bz (z' y10) (.const (.bk []))),.ev (.gM 9 1 16 y9 y11 y12),.ev (.eL 1 y13 (.aJ y3) (.apps y9 y11 y12))] (.jump 2 [y14] [.apps y9 y11 y12]))] (.jump 1 [y11] []))] (.jump 0 [y9] [])),.bw 59 y9 [y0] [true],.ev (l' y11 (.aJ y3)),.ev (.ax 1 y12 (ki 0)),.ev (l' y11 y13),.ev (.m4 (.xM .str) y11 y10 y14 (.const (.v .nilFunc))),.ev (n' .same (l' y11 (.aJ y3)) (l' y9 (.aJ y3))),.ev (n' .same (l' y11 y13) (l' y9 y13)),.ev (N' (t' y15))] (.ite y18 (aD [.ev (.eL 1 y11 (.aJ y2) (ki 3))] (.ret (C' (.aa (.aJ y2) .ai) y19))) (aD [.ev (l' y11 (.aJ y3)),.ev (.ax 1 y19 (ki 0)),.ev (l' y11 y20),.ev (l' y11 (.aJ y3)),.ev (.sub 1 y22 (ki 1) (.bI y22)),.ev (j' (z' y21) (j' (z' y23) .nil)),.fS (s' y15) y11 [y24] [] [4] [.aJ y2],.ev (.eL 1 y26 (.aJ y2) (ki 0))] (.ret (C' (.aa (.aJ y2) .ai) y27))))))
theorem agq:bP Tryz.prog 31 (.defers [4]) { (aq false ([58]++ct) cu [] [] Tryz.f31) with aS:=true,cn:=true } [true,true] u31:=bP.defers Tryz.func31 (by kernel_rfl) (by kernel_rfl)
end
section
open Go.Proofs
def Nc (n:Nat):UInt8:=if n<10 then(48+n).toUInt8 else(87+n).toUInt8
def dg:Nat→Nat→List UInt8
 | 0,_=>[]
 | k+1,n=>dg k (n / 16)++[Nc (n % 16)]
theorem qw:∀k n,(dg k n).length=k
 | 0,_=>rfl
 | k+1,n=>by simp[dg,qw k]
theorem Bu:∀k n,dg (k+1) n=Nc ((n / 16 ^ k) % 16) :: dg k n
 | 0,n=>by simp[dg]
 | k+1,n=>by have h:=Bu k (n / 16);rw[dg,h,dg,C0V];simp[D0g,C0h]
theorem Pd {k n:Nat}(h:n<16 ^ k):∀r,dg (k+r) n=List.replicate r 48++dg k n
 | 0=>by simp
 | r+1=>by have h2:n / 16 ^ (k+r)=0:=D0n (A0v h (Nat.pow_le_pow_right (by omega) (by omega)));rw[←C0m,Bu,h2,Pd h r,List.replicate_succ];rfl
def jn (n:Nat):Nat:=if h:n<16 then 0 else jn (n / 16)+1
termination_by n
theorem OG:∀(m n:Nat),n≤m→n / 16 ^ (jn n)<16
 | 0,n,h=>by
  have:n=0:=by omega
  subst this;simp
 | m+1,n,h=>by
  rw[jn];split
  ·rename_i h1;simpa using h1
  ·rename_i h1;have:=OG m (n / 16) (by omega);rw[C0V] at this;rwa [D0g,C0h]
theorem TT:∀(m n:Nat),n≤m→∀j,j<jn n→16≤n / 16 ^ j
 | 0,n,h,j,hj=>by
  have:n=0:=by omega
  subst this;rw[jn] at hj;simp at hj
 | m+1,n,h,j,hj=>by
  rw[jn] at hj;split at hj
  ·omega
  ·rename_i h1;cases j with
   | zero=>simpa using h1
   | succ j=>
    have:=TT m (n / 16) (by omega) j (by omega);rw[C0V] at this;rwa [D0g,C0h]
theorem TS {n k:Nat}(h:n<16 ^ (k+1)):jn n≤k:=by
 rcases A0U k (jn n) with h1 | h1
 ·have:=TT n n (A0m _) k h1;have h2:n / 16 ^ k<16:=by rw[D0c (Nat.pow_pos (by omega))];rwa [D0g,C0h] at h
  omega
 ·exact h1
def xI (n:Nat):List UInt8:=dg (jn n+1) n
theorem UR {n:Nat}(h:n<16 ^ 16):List.replicate (16-(xI n).length) 48++xI n=dg 16 n:=by
 have h1:jn n≤15:=TS h;have h2:=OG n n (A0m _);have h3:n<16 ^ (jn n+1):=by rw[D0g,C0h];rwa [D0c (Nat.pow_pos (by omega))] at h2
 have h4:=Pd h3 (15-jn n);rw[show jn n+1+(15-jn n)=16 from by omega] at h4;rw[h4,xI,qw,show 16-(jn n+1)=15-jn n from by omega]
theorem RW (x:Int):∃n:Nat,IntKind.u64.wrap x=n∧n<18446744073709551616:=by rw[IntKind.wrap_u64];exact⟨(x % 18446744073709551616).toNat,by omega,by omega⟩
theorem V6 (m l:List UInt8):(⟨m.toArray⟩:ByteArray)++⟨l.toArray⟩=⟨(m++l).toArray⟩:=by apply E0P;simp
def qk (n:Nat):Nat→Nat
 | 0=>n
 | k+1=>qk n k / 16
theorem IL (n:Nat):∀k,qk n k=n / 16 ^ k
 | 0=>by simp[qk]
 | k+1=>by rw[qk,IL n k,C0V,D0g]
theorem YU (n k:Nat):dg (k+1) n=Nc (qk n k % 16) :: dg k n:=by rw[Bu,IL]
end
section
open Go.Proofs Go.Am.Sc
set_option maxRecDepth 100000
set_option maxHeartbeats 4000000
variable {bs:List D}
abbrev sB (l:List UInt8):D:=.v (.string ⟨⟨l⟩⟩)
def RQ (d:Nat):UInt8:=48+UInt8.ofNat d
def dd (n:Nat):List UInt8:=if h:n<10 then[RQ n] else dd (n / 10)++[RQ (n % 10)]
termination_by n
theorem Au {n:Nat}(h:n<10):dd n=[RQ n]:=by rw[dd,dif_pos h]
theorem FN {n:Nat}(h:¬n<10):dd n=dd (n / 10)++[RQ (n % 10)]:=by rw[dd,dif_neg h]
theorem DF:∀(j n:Nat),n<10 ^ (j+1)→(dd n).length≤j+1
 | 0,n,h=>by rw[Au (by simpa using h)];simp
 | j+1,n,h=>by
  by_cases h1:n<10
  ·rw[Au h1];simp
  ·rw[FN h1,A0u,C0X];have:=DF j (n / 10) (by rw[D0c (by omega),←D0g];exact h);omega
theorem Pe {d:Nat}(h:d<10):(RQ d).toNat=48+d:=by
 have hc:d=0∨d=1∨d=2∨d=3∨d=4∨d=5∨d=6∨d=7∨d=8∨d=9:=by omega
 rcases hc with rfl | rfl | rfl | rfl | rfl | rfl | rfl | rfl | rfl | rfl <;> rfl
theorem VO:∀(m n:Nat),n≤m→∀c,c∈dd n→∃d,d<10∧c=RQ d
 | m,n,hm,c,hc=>by
  by_cases h1:n<10
  ·rw[Au h1] at hc;exact⟨n,h1,by simpa using hc⟩
  ·rw[FN h1] at hc;rcases A0K.1 hc with hc | hc
   ·match m with
    | 0=>omega
    | m+1=>exact VO m (n / 10) (by omega) c hc
   ·exact⟨n % 10,C0D _ (by omega),by simpa using hc⟩
theorem cat {a b:List UInt8}(h:a.length+b.length≤1000):D.bin .add .str (sB a) (sB b)=some (sB (a++b)):=by
 have h1:¬((((⟨⟨a⟩⟩:ByteArray).size+(⟨⟨b⟩⟩:ByteArray).size:Nat):Int) > IntKind.i64.max):=by have e1:(⟨⟨a⟩⟩:ByteArray).size=a.length:=rfl;have e2:(⟨⟨b⟩⟩:ByteArray).size=b.length:=rfl;have:IntKind.i64.max=9223372036854775807:=rfl;rw[e1,e2];omega
 simp only[D.bin,A0B h1];have:=V6 a b;rw[show(⟨⟨a⟩⟩:ByteArray)=⟨a.toArray⟩ from rfl,show(⟨⟨b⟩⟩:ByteArray)=⟨b.toArray⟩ from rfl,this]
theorem ss1 {d:Nat}(h:d<10):D.m4 .kM (.v (.string ⟨#[48,49,50,51,52,53,54,55,56,57]⟩)) (I d) (I ((d:Int)+1)) (.agg [])=some (sB [RQ d]):=by
 have hc:d=0∨d=1∨d=2∨d=3∨d=4∨d=5∨d=6∨d=7∨d=8∨d=9:=by omega
 rcases hc with rfl | rfl | rfl | rfl | rfl | rfl | rfl | rfl | rfl | rfl <;> (show _=some _;kernel_rfl)
theorem alX (n:Nat):D.bin .rem .int (I n) (I 10)=some (I ((n % 10:Nat):Int)):=by have h1:D.bin .rem .int (I n) (I 10)=some (I ((n:Int).tmod 10)):=rfl;rw[h1,D0U (by omega)];rfl
theorem al1 {n:Nat}(h:n<4000000000000):D.bin .quo .int (I n) (I 10)=some (I ((n / 10:Nat):Int)):=by
 have h1:D.bin .quo .int (I n) (I 10)=some (I (IntKind.i64.wrap ((n:Int).tdiv 10))):=rfl;have h2:(n:Int).tdiv 10=((n / 10:Nat):Int):=by rw[D0l (by omega)];rfl
 rw[h1,h2,wrap64 (by omega)]
theorem c27 {n:Nat}(hn:n<1000000000000):aQ Tryz.prog 27 (.st bs) [In n] (sB (dd n)):=by
 have hlen:=DF 11 n (by simpa using hn);refine anf.R rfl rfl ?_;unfold u27;simp only[aB,aI,A0i,A0j]
 repeat' ((with_reducible refine aO ?_))
 refine vf (fun m ds=>∃k t,ds=[In k,sB t]∧dd k++t=dd n∧k≤m∧k≤n) rfl n ⟨n,[],rfl,by simp,A0m _,A0m _⟩ ?_
 rintro m ds ⟨k,t,rfl,ht,hm,MR⟩
 refine⟨rfl,fun R hR=>?_⟩;have uf:=B0q List.length ht;rw[A0u] at uf
 by_cases hk:k<10
 ·have hg:decide ((k:Int) > 9)=false:=by simp;omega
  rw[Au hk] at ht uf;have hs:=ss1 hk;have hc:=cat (a:=[RQ k]) (b:=t) (by simp only[C0X] at uf ⊢;omega)
  repeat' (first|(apply dX;simp only[au];rfl)|(apply bf;rfl;exact hg)|(apply jl;rfl;rfl;exact hc;simp only[au];rfl)|(apply kT;rfl;rfl;rfl;rfl;exact hs;simp only[au];rfl)|(apply eo;rfl;omega;simp only[au];rfl)|(apply aU;rfl;simp only[au];rfl)|(apply aL;rfl;rfl)|refine aC ?_|(refine aT (by decide) ?_)|refine kj rfl ?_|(apply aH;rfl;first|exact rfl|(refine eX ?_)|(refine eV ?_)|(refine eW ?_)))
  rw[←ht];rfl
 ·have hg:decide ((k:Int) > 9)=true:=by simp;omega
  have hs:=ss1 (d:=k % 10) (C0D _ (by omega));rw[FN hk,A0u] at uf;have hc:=cat (a:=[RQ (k % 10)]) (b:=t) (by simp at uf ⊢;omega);have hr:=alX k;have hq:=al1 (n:=k) (by omega);generalize ahX:k % 10=d at hs hc hr;have hd:d<10:=by rw[←ahX];exact C0D _ (by omega)
  repeat' (first|(apply dX;simp only[au];rfl)|(apply bF;rfl;exact hg)|(apply jl;rfl;rfl;(·first|exact hr|exact hq|exact hc);simp only[au];rfl)|(apply kT;rfl;rfl;rfl;rfl;exact hs;simp only[au];rfl)|(apply eo;rfl;omega;simp only[au];rfl)|(apply aU;rfl;simp only[au];rfl)|refine aO ?_|(apply aL;rfl;rfl)|refine aC ?_|refine kj rfl ?_)
  refine hR (k / 10) _ (by omega) ⟨k / 10,[RQ d]++t,rfl,?_,A0m _,by omega⟩;rw[←ht,FN hk,ahX,A0A]
def Ed (w:List UInt8)(ns:List Nat):List UInt8:=ns.foldl (fun a n=>a++(32 :: dd n)) w
theorem xb {w:List UInt8}:∀{ns:List Nat},(∀n∈ns,n<1000000000000)→(Ed w ns).length≤w.length+13*ns.length
 | [],_=>by simp[Ed]
 | n :: ns,h=>by have h1:=xb (w:=w++(32 :: dd n)) (ns:=ns) fun m hm=>h m (by simp[hm]);have h2:=DF 11 n (by simpa using h n (by simp));have e:Ed w (n :: ns)=Ed (w++(32 :: dd n)) ns:=rfl;rw[e];simp only[A0u,B0a] at h1 ⊢;omega
theorem Tt {w:List UInt8}{ns:List Nat}{i:Nat}(h:i<ns.length):Ed w (ns.take (i+1))=Ed w (ns.take i)++(32 :: dd ns[i]):=by unfold Ed;rw[A0O h,B0z];rfl
theorem c8 {w:List UInt8}{ns:List Nat}(hw:w.length≤10)(hl:ns.length≤6)(hn:∀n∈ns,n<1000000000000):aQ Tryz.prog 8 (.st bs) [sB w,.bk (ns.map In)] (sB (Ed w ns)):=by
 refine ku8.R rfl rfl ?_;unfold u8;simp only[aB,aI,A0i,A0j]
 repeat' ((with_reducible refine aO ?_))
 refine ew (fun i=>[sB (Ed w (ns.take i)),In i]) (fun _=>True) ns.length rfl (fun _=>rfl) trivial (fun i hi hJ R hR=>?_) (fun hJ R=>?_)
 ·have gA:decide ((i:Int)<(ns.length:Int))=true:=by simp;omega
  have hm:=A0T hi;have h27:=c27 (bs:=bs) (hn _ hm);have hd:=DF 11 _ (by simpa using hn _ hm);have h1:=xb (w:=w) (ns:=ns.take i) fun m hm=>hn m (List.mem_of_mem_take hm);rw[B0g] at h1;have k1:=cat (a:=Ed w (ns.take i)) (b:=[32]) (by simp;omega);have k2:=cat (a:=Ed w (ns.take i)++[32]) (b:=dd ns[i]) (by simp;omega);rw[A0A] at k2;rw[Tt hi] at hR
  repeat' (first|(apply dX;simp only[au];rfl)|(apply bF;rfl;exact gA)|(apply bH;rfl;rfl;exact c_ hi rfl;simp only[au];rfl)|(apply cM;rfl;exact bR;simp only[au];rfl)|(apply jl;rfl;rfl;(·first|exact k1|exact k2);simp only[au];rfl)|(apply eo;rfl;omega;simp only[au];rfl)|(apply aU;rfl;simp only[au];rfl)|(apply bC;rfl;rfl;exact h27;rfl;simp only[au];rfl)|refine aO ?_|(apply aL;rfl;rfl)|refine aC ?_|refine kj rfl ?_)
  exact hR trivial
 ·repeat' (first|(apply dX;simp only[au];rfl)|(apply cM;rfl;exact bR;simp only[au];rfl)|(apply aU;rfl;simp only[au];rfl)|(apply aL;rfl;rfl)|refine aC ?_|(refine aT (by decide) ?_)|refine kj rfl ?_|(apply eN;rfl;all_goals (intro hz;(try simp only[gq] at hz);first|(exact absurd hz (by decide))|(exfalso;omega)|skip))|(apply aH;rfl;first|exact rfl|(refine eX ?_)|(refine eV ?_)|(refine eW ?_)))
  rw[C0d]
end
section
open Go.Proofs Go.Am.Sc
set_option maxRecDepth 100000
set_option maxHeartbeats 4000000
variable {bs:List D}
theorem NC {l:List UInt8}{i:Nat}(h:i<l.length):(⟨⟨l⟩⟩:ByteArray)[i]! = l[i]:=by rw[C0I (⟨⟨l⟩⟩:ByteArray) i h];rfl
theorem ahe {a r : List UInt8} (h : (32 : UInt8) ∉ a) : firstIdx ⟨⟨a ++ 32 :: r⟩⟩ 32 = a.length := by
  have hs : (⟨⟨a ++ 32 :: r⟩⟩ : ByteArray).size = (a ++ 32 :: r).length := rfl;have : ((List.range (⟨⟨a ++ 32 :: r⟩⟩ : ByteArray).size).find? fun i => (⟨⟨a ++ 32 :: r⟩⟩ : ByteArray)[i]! == 32) = some a.length := by
    rw [hs, List.find?_range_eq_some];refine ⟨?_, by simp, fun j hj => ?_⟩
    · rw [NC (by simp)]
      simp
    · rw [NC (by simp; omega), List.getElem_append_left hj]
      have : a[j] ≠ 32 := fun e => h (e ▸ A0T hj);simpa using this
  rw [firstIdx, this]
theorem ahd {a : List UInt8} (h : (32 : UInt8) ∉ a) : firstIdx ⟨⟨a⟩⟩ 32 = -1 := by
  have hs : (⟨⟨a⟩⟩ : ByteArray).size = a.length := rfl;have : ((List.range (⟨⟨a⟩⟩ : ByteArray).size).find? fun i => (⟨⟨a⟩⟩ : ByteArray)[i]! == 32) = none := by rw [hs, List.find?_range_eq_none];intro j hj;rw [NC hj];have : a[j] ≠ 32 := fun e => h (e ▸ A0T hj);simpa using this
  rw [firstIdx, this]
abbrev spD:D:=.v (.string ⟨#[32]⟩)
theorem aqd (l:List UInt8):aQ Tryz.prog 227 (.st bs) [sB l,.v (.int .u8 32)] (I (firstIdx ⟨⟨l⟩⟩ 32)):=by
 refine agu.R rfl rfl ?_;unfold aeC;simp only[aB,aI,A0i,A0j]
 repeat' (first|(apply aU;rfl;simp only[au];rfl)|exact aH rfl rfl)
theorem ajt {l:List UInt8}(bQ:l≠[32]):aQ Tryz.prog 196 (.st bs) [sB l,spD] (I (firstIdx ⟨⟨l⟩⟩ 32)):=by
 have hb:((⟨#[32]⟩:ByteArray).toList==(⟨⟨l⟩⟩:ByteArray).toList)=false:=by rw[B0N,B0N];simpa using fun e=>bQ e.symm
 have hc:((1:Int)==0||((⟨#[32]⟩:ByteArray).toList==(⟨⟨l⟩⟩:ByteArray).toList))=false:=by rw[hb];rfl
 refine agE.R rfl rfl ?_;unfold aeM;simp only[aB,aI,A0i,A0j]
 repeat' (first|(apply dX;simp only[au];rfl)|(apply bF;rfl;exact rfl)|(apply bf;rfl;exact hc)|(apply aU;rfl;simp only[au];rfl)|(apply bC;rfl;rfl;exact aqd _;rfl;simp only[au];rfl)|(apply iP;rfl)|exact aH rfl rfl|(intro hz;(try simp only[gq] at hz)))
theorem WZ {a r:List UInt8}(h:a.length+r.length≤1000):D.m4 .kM (sB (a++r)) (I 0) (I a.length) (.agg [])=some (sB a):=by
 have hs:(⟨⟨a++r⟩⟩:ByteArray).size=a.length+r.length:=by show(a++r).length=_;simp
 simp only[D.m4,D.kM];rw[A0z ⟨by omega,by omega,by rw[hs];omega⟩];congr 3;apply E0P;simp[E0v]
theorem WY {a r:List UInt8}(h:a.length+r.length≤1000):D.m4 .kM (sB (a++r)) (I a.length) (I (((⟨⟨a++r⟩⟩:ByteArray).size:Nat):Int)) (.agg [])=some (sB r):=by
 have hs:(⟨⟨a++r⟩⟩:ByteArray).size=a.length+r.length:=by show(a++r).length=_;simp
 simp only[D.m4,D.kM];rw[A0z ⟨by omega,by omega,by omega⟩];congr 3;apply E0P;simp[E0v,hs];rw[C0B (by omega)]
theorem aqZ {x:Int}(h:0≤x∧x≤1000):D.bin .add .int (I x) (I (((⟨#[32]⟩:ByteArray).size:Nat):Int))=some (I (x+1)):=by have h1:D.bin .add .int (I x) (I (((⟨#[32]⟩:ByteArray).size:Nat):Int))=some (I (IntKind.i64.wrap (x+1))):=rfl;rw[h1,wrap64 (by omega)]
theorem aqx {a r:List UInt8}(h:(32:UInt8)∉a)(bQ:a≠[])(hl:a.length+r.length≤500):aQ Tryz.prog 155 (.st bs) [sB (a++32 :: r),spD] (.a_ [sB a,sB r,B true]):=by
 have h1:a++32 :: r≠[32]:=by intro e;have:=B0q List.length e;have:=B0x.2 bQ;simp at *;omega
 have h2:=ajt (bs:=bs) h1;rw[ahe h] at h2;have hge:decide ((a.length:Int)≥0)=true:=by simp
 have s1:=WZ (a:=a) (r:=32 :: r) (by simp;omega);have s2:=WY (a:=a++[32]) (r:=r) (by simp;omega);rw[A0A,A0u,C0X] at s2;have s3:D.m4 .kM (sB (a++32 :: r)) (I ((a.length:Int)+1)) (I (((⟨⟨a++32 :: r⟩⟩:ByteArray).size:Nat):Int)) (.agg [])=some (sB r):=s2;refine ZS.R rfl rfl ?_;unfold aaT;simp only[aB,aI,A0i,A0j]
 repeat' (first|(apply bF;rfl;exact hge)|(apply jl;rfl;rfl;(·exact aqZ (by omega));simp only[au];rfl)|(apply kT;rfl;rfl;rfl;rfl;(·first|exact s1|exact s3);simp only[au];rfl)|(apply aU;rfl;simp only[au];rfl)|(apply bC;rfl;rfl;exact h2;rfl;simp only[au];rfl)|exact aH rfl rfl)
theorem ajy {a:List UInt8}(h:(32:UInt8)∉a):aQ Tryz.prog 155 (.st bs) [sB a,spD] (.a_ [sB a,sB [],B false]):=by
 have h2:=ajt (bs:=bs) (l:=a) (fun e=>h (by rw[e];simp));rw[ahd h] at h2;refine ZS.R rfl rfl ?_;unfold aaT;simp only[aB,aI,A0i,A0j]
 repeat' (first|(apply bf;rfl;exact rfl)|(apply aU;rfl;simp only[au];rfl)|(apply bC;rfl;rfl;exact h2;rfl;simp only[au];rfl)|exact aH rfl rfl)
theorem ajC {l a r:List UInt8}{m:Bool}(h:aQ Tryz.prog 155 (.st bs) [sB l,spD] (.a_ [sB a,sB r,B m])):aQ Tryz.prog 102 (.st bs) [sB l,spD] (.a_ [sB a,sB r,B m]):=by
 refine ag9.R rfl rfl ?_;unfold afg;simp only[aB,aI,A0i,A0j]
 repeat' (first|(apply bC;rfl;rfl;exact h;rfl;simp only[au];rfl)|exact aH rfl rfl)
def jw:List (List UInt8)→List UInt8
 | []=>[]
 | [w]=>w
 | w :: v :: r=>w++32 :: jw (v :: r)
theorem OF {w:List UInt8}{r:List (List UInt8)}(h:r≠[]):jw (w :: r)=w++32 :: jw r:=by
 cases r with
 | nil=>exact absurd rfl h
 | cons v r=>rfl
theorem TQ:∀(ws:List (List UInt8)) (k:Nat),(jw (ws.drop k)).length≤(jw ws).length
 | [],k=>by simp
 | w :: r,0=>A0m _
 | w :: r,k+1=>by
  rw[List.drop_succ_cons];refine A0J (TQ r k) ?_
  by_cases h:r=[]
  ·subst h;exact B0e _
  ·rw[OF h];simp;omega
structure Wds (ws:List (List UInt8)):Prop where
 ne:ws≠[]
 ok:∀w∈ws,w≠[]∧(32:UInt8)∉w
 len:(jw ws).length≤400
theorem aqQ {ws:List (List UInt8)} (h:Wds ws) {b:Nat} {m0:Nat} {rec:Loop} {sl:List Nat} {eH:List D} (g g':Nat→List D)
  (hg:∀k,k<ws.length→(g k)[b]? = some (.blk 9 1 [sB (jw (ws.drop k))]))
  (hy:∀k (hk:k<ws.length),r7 Tryz.prog (.yl m0 rec sl eH) (.st (g k)) [sB ws[k]] (.st (g' k))∧(g' k)[b]? = some (.blk 9 1 [sB (jw (ws.drop k))]))
  (hs:∀k,k+1<ws.length→g (k+1)=(g' k).set b (.blk 9 1 [sB (jw (ws.drop (k+1)))])) :
  aZ Tryz.prog 101 (.st (g 0)) [.yl m0 rec sl eH,.loc b 0] (.a_ []) (.st (g' (ws.length-1))):=by
 have hn:0<ws.length:=B0x.2 h.ne;refine ag_.W rfl ?_;unfold afh;simp only[aB,aI,A0i,A0j]
 skip
 refine vf (fun m ds=>∃k,ds=[.st (g k)]∧k<ws.length∧ws.length-k=m) rfl ws.length ⟨0,rfl,hn,rfl⟩ ?_
 rintro m ds ⟨k,rfl,hk,hm⟩
 refine⟨rfl,fun R hR=>?_⟩;have hgk:=hg k hk;obtain⟨hyk,acu⟩:=hy k hk;obtain⟨w1,w2⟩:=h.ok _ (A0T hk);have hd:=B0S hk;have hlen:=A0J (TQ ws k) h.len
 by_cases hl:k+1<ws.length
 ·have hr:ws.drop (k+1)≠[]:=fun e=>by have:=B0q List.length e;simp at this;omega
  have hsk:=hs k hl;rw[hd,OF hr] at hgk acu hlen;simp only[A0u,B0a] at hlen;have acS:=ajC (aqx (bs:=g k) w2 w1 (r:=jw (ws.drop (k+1))) (by omega));have hst:=gW (k:=0) (d:=sB (jw (ws.drop (k+1)))) acu (by simp) rfl;rw[show([sB (ws[k]++32 :: jw (ws.drop (k+1)))]:List D).set 0 (sB (jw (ws.drop (k+1))))=[sB (jw (ws.drop (k+1)))] from rfl,←hsk] at hst
  repeat' (first|(apply dX;simp only[au];rfl)|(apply BG;rfl;rfl;rfl;(·exact⟨rfl,hyk⟩);rfl;simp only[au];rfl)|(apply bf;rfl;exact rfl)|(apply bG;rfl)|(apply dS;rfl;rfl;exact aW hgk rfl;simp only[au];rfl)|(apply je;rfl;rfl;rfl;exact hst;simp only[au];rfl)|(apply aU;rfl;simp only[au];rfl)|(apply bC;rfl;rfl;exact acS;rfl;simp only[au];rfl)|(apply iP;rfl)|refine aO ?_|(apply aL;rfl;rfl)|refine aC ?_|refine kj rfl ?_|exact aH rfl rfl|(intro hz;(try simp only[gq] at hz)))
  exact hR (ws.length-(k+1)) _ (by omega) ⟨k+1,rfl,hl,rfl⟩
 ·have hr:ws.drop (k+1)=[]:=D0z (by omega);have RF:k=ws.length-1:=by omega
  rw[hd,hr] at hgk acu;have acS:=ajC (ajy (bs:=g k) w2);have hge:g' (ws.length-1)=g' k:=by rw[←RF]
  rw[hge]
  repeat' (first|(apply dX;simp only[au];rfl)|(apply BG;rfl;rfl;rfl;(·exact⟨rfl,hyk⟩);rfl;simp only[au];rfl)|(apply bF;rfl;exact rfl)|(apply bG;rfl)|(apply dS;rfl;rfl;exact aW hgk rfl;simp only[au];rfl)|(apply aU;rfl;simp only[au];rfl)|(apply bC;rfl;rfl;exact acS;rfl;simp only[au];rfl)|(apply iP;rfl)|refine aO ?_|exact aH rfl rfl|(apply aH;rfl;first|exact rfl|(refine eX ?_)|(refine eV ?_)|(refine eW ?_))|(intro hz;(try simp only[gq] at hz)))
end
section
open Go.Proofs Go.Am.Sc
set_option maxRecDepth 100000
set_option maxHeartbeats 4000000
variable {bs:List D}
theorem aaD:∀(m n:Nat),n≤m→∃es:List Nat,dd n=es.map RQ∧(∀d∈es,d<10)∧es.foldl (fun a d=>10*a+d) 0=n∧es≠[]∧(es.head? = some 0→es.length=1)
 | m,n,hm=>by
  by_cases h1:n<10
  ·exact⟨[n],by rw[Au h1];rfl,by simpa using h1,by simp,by simp,fun _=>rfl⟩
  ·match m with
   | 0=>omega
   | m+1=>
    obtain⟨es,e1,e2,e3,e4,e5⟩:=aaD m (n / 10) (by omega);refine⟨es++[n % 10],by rw[FN h1,e1];simp,fun d hd=>?_,?_,by simp,fun hh=>?_⟩
    ·rcases A0K.1 hd with h | h
     ·exact e2 d h
     ·simp only[A0Y] at h;subst h;exact C0D _ (by omega)
    ·rw[B0z,e3];simp only[B0Y,E0I];omega
    ·exfalso;cases es with
     | nil=>exact e4 rfl
     | cons d r=>
      simp only[A0i,List.head?_cons,A0x] at hh;subst hh;have:=e5 rfl;have hr:r=[]:=A0D (by simpa using this);subst hr;simp at e3;omega
def vn (es:List Nat)(i:Nat):Nat:=(es.take i).foldl (fun a d=>10*a+d) 0
theorem WO {es:List Nat}{i:Nat}(h:i<es.length):vn es (i+1)=10*vn es i+es[i]:=by unfold vn;rw[A0O h,B0z];rfl
theorem Zk {es:List Nat}{n:Nat}(h:es.foldl (fun a d=>10*a+d) 0=n):∀i,vn es i≤n:=by
 have key:∀(l:List Nat) (a:Nat),a≤l.foldl (fun a d=>10*a+d) a:=fun l=>by
  induction l with
  | nil=>exact fun a=>A0m _
  | cons d l ih=>exact fun a=>A0J (show a≤10*a+d by omega) (ih _)
 intro i;have:=key (es.drop i) (vn es i);unfold vn at this ⊢;rw[←B0z,C0F,h] at this;exact this
section
variable {env:List D} {x y:E} {dx dy d:D} {k:Nat} {ds:List D}
theorem M_ {op:MOp}(hx:x.eval env=some dx)(hy:y.eval env=some dy)(h:D.m4 op dx dy (.agg []) (.agg [])=some d):(E.m4 op x y .nil .nil).eval env=some d:=by simp only[E.eval,hx,hy,A0d,h]
theorem evO (hx:x.eval env=some d):aA env [x]=some [d]:=by simp[aA,hx]
theorem aau (hx:x.eval env=some dx)(h:D.av k dx=some d):(E.av k x).eval env=some d:=by simp only[E.eval,hx,A0d,h]
theorem adi {c:Nat}(hx:x.eval env=some (.v (.int .i32 c)))(hc:c<1000):(E.conv .i64 x).eval env=some (I c):=by have:IntKind.i64.wrap (c:Int)=c:=wrap64 (by omega);simp only[E.eval,hx,A0d,D.conv,this]
end
abbrev PG (l:List UInt8)(i:Nat):D:=.E3 ⟨⟨l⟩⟩ i
theorem spl {l:List UInt8}{i:Nat}:D.BO (.st (bs++[PG l i])) (.loc bs.length 0)=some (bs++[PG l i],bs.length,⟨⟨l⟩⟩,i):=by simp[D.BO]
theorem aja {l:List UInt8}{i:Nat}(h:i<l.length)(h2:l[i].toNat<128):Utf8.decode ⟨⟨l⟩⟩ i=(l[i].toNat,1):=by
 have hg:((⟨⟨l⟩⟩:ByteArray).get! (i+0))=l[i]:=by show(⟨l⟩:Array UInt8)[i]! = l[i];rw[C0I (⟨l⟩:Array UInt8) i h];rfl
 unfold Utf8.decode;simp only[hg];rw[A0z h2]
theorem aa5 {l:List UInt8}{i:Nat}(h:i<l.length)(h2:l[i].toNat<128):D.m4 .Wr (.st (bs++[PG l i])) (.loc bs.length 0) (.agg []) (.agg [])=some (.st (bs++[PG l (i+1)])):=by have hs:(⟨⟨l⟩⟩:ByteArray).size=l.length:=rfl;simp only[D.m4,D.Wr,spl,A0y,hs,A0z h,aja h h2];simp
theorem W9 {l:List UInt8}:D.m4 .Wr (.st (bs++[PG l l.length])) (.loc bs.length 0) (.agg []) (.agg [])=some (.st (bs++[PG l l.length])):=by have hs:(⟨⟨l⟩⟩:ByteArray).size=l.length:=rfl;simp only[D.m4,D.Wr,spl,A0y,hs,A0B (E0O _)]
theorem aa4 {l:List UInt8}{i:Nat}(h:i<l.length)(h2:l[i].toNat<128):D.m4 .La (.st (bs++[PG l i])) (.loc bs.length 0) (.agg []) (.agg [])=some (.a_ [B true,In i,.v (.int .i32 (l[i].toNat:Nat))]):=by have hs:(⟨⟨l⟩⟩:ByteArray).size=l.length:=rfl;simp only[D.m4,D.La,spl,A0y,hs,A0z h,aja h h2]
theorem W8 {l:List UInt8}:D.m4 .La (.st (bs++[PG l l.length])) (.loc bs.length 0) (.agg []) (.agg [])=some (.a_ [B false]):=by have hs:(⟨⟨l⟩⟩:ByteArray).size=l.length:=rfl;simp only[D.m4,D.La,spl,A0y,hs,A0B (E0O _)]
theorem amB {a b:Int}(h:-9223372036854775808≤a*b∧a*b<9223372036854775808):D.bin .mul .int (I a) (I b)=some (I (a*b)):=by have h1:D.bin .mul .int (I a) (I b)=some (I (IntKind.i64.wrap (a*b))):=rfl;rw[h1,wrap64 h]
theorem afm {d:Nat}(h:d<10):D.bin .sub .int (.v (.int .i32 ((48+d:Nat):Int))) (.v (.int .i32 48))=some (.v (.int .i32 (d:Int))):=by
 have hc:d=0∨d=1∨d=2∨d=3∨d=4∨d=5∨d=6∨d=7∨d=8∨d=9:=by omega
 rcases hc with rfl | rfl | rfl | rfl | rfl | rfl | rfl | rfl | rfl | rfl <;> rfl
theorem aqk {n:Nat}(hn:n<1000000000000):aZ Tryz.prog 197 (.st bs) [sB (dd n)] (.a_ [In n,B true]) (.st (bs++[PG (dd n) (dd n).length])):=by
 obtain⟨es,e1,e2,e3,e4,e5⟩:=aaD n n (A0m _);have oe:(dd n).length=es.length:=by rw[e1];simp
 have hlen:=DF 11 n (by simpa using hn);have lE:∀i (h:i<(dd n).length),((dd n)[i]).toNat=48+es[i]'(by omega)∧es[i]'(by omega)<10:=fun i h=>by
  have hd:=e2 _ (A0T (show i<es.length by omega));have:(dd n)[i]=RQ (es[i]'(by omega)):=by simp[e1]
  rw[this,Pe hd];exact⟨rfl,hd⟩
 have hsr:D.m4 .Iv (.st bs) (sB (dd n)) (.agg []) (.agg [])=some (.st (bs++[PG (dd n) 0])):=rfl;refine agD.W rfl ?_;unfold aeL;simp only[aB,aI,A0i,A0j]
 repeat' (first|(apply kT;rfl;rfl;rfl;rfl;exact hsr;simp only[au];rfl)|refine aO ?_)
 refine ew (fun i=>[In (vn es i),.st (bs++[PG (dd n) i])]) (fun _=>True) (dd n).length rfl (fun _=>rfl) trivial (fun i hi hJ R hR=>?_) (fun hJ R=>?_)
 ·obtain⟨a1,a2⟩:=lE i hi;have aiB:(dd n)[i].toNat<128:=by omega
  have q1:=aa5 (bs:=bs) hi aiB;have q2:=aa4 (bs:=bs) hi aiB;have hv:=WO (es:=es) (i:=i) (by omega);have iL:=Zk e3 i;have aws:=Zk e3 (i+1);rw[a1] at q2;generalize hde:es[i]'(by omega)=d at a1 a2 hv q2;have hc:(decide (((48+d:Nat):Int)<48)||decide (((48+d:Nat):Int) > 57)||decide (((vn es i:Nat):Int) > 1000000000000000))=false:=by rw[B0V (by omega),B0V (by omega),B0V (by omega)];rfl
  have hm:=amB (a:=10) (b:=((vn es i:Nat):Int)) (by omega);have Ej:((vn es (i+1):Nat):Int)=10*((vn es i:Nat):Int)+(d:Int):=by omega
  have hIn:In (vn es (i+1))=I (10*((vn es i:Nat):Int)+(d:Int)):=B0q I Ej;rw[hIn] at hR
  repeat' (first|(apply dX;simp only[au];rfl)|(apply bF;rfl;exact rfl)|(apply bf;rfl;exact hc)|(apply jl;rfl;rfl;(·first|exact hm|exact afm a2);simp only[au];rfl)|(apply kT;rfl;rfl;rfl;rfl;exact q1;simp only[au];rfl)|(apply jf;rfl;rfl;omega;simp only[au];rfl)|(apply aU;(·first|exact aau (M_ rfl rfl q2) rfl|exact adi rfl (by omega));simp only[au];rfl)|(apply aU;rfl;simp only[au];rfl)|(apply iP;rfl)|refine aO ?_|(apply aL;rfl;rfl)|refine aC ?_|refine kj rfl ?_|exact aH rfl rfl|(intro hz;(try simp only[gq] at hz)))
  exact hR trivial
 ·have q1:=W9 (bs:=bs) (l:=dd n);have q2:=W8 (bs:=bs) (l:=dd n);have hvn:vn es (dd n).length=n:=by unfold vn;rw[oe,C0d,e3]
  repeat' (first|(apply dX;simp only[au];rfl)|(apply bf;rfl;exact rfl)|(apply kT;rfl;rfl;rfl;rfl;exact q1;simp only[au];rfl)|(apply aU;(·exact aau (M_ rfl rfl q2) rfl);simp only[au];rfl))
  refine aL (evO (M_ rfl rfl q2)) rfl ?_;have mK:0<(dd n).length:=by rw[oe];exact B0x.2 e4
  obtain⟨a1,a2⟩:=lE 0 mK;have Qu:D.m4 .kN (sB (dd n)) (I 0) (.agg []) (.agg [])=some (.v (.int .u8 ((48+es[0]:Nat):Int))):=by
   have hg:(⟨⟨dd n⟩⟩:ByteArray)[0]? = some (dd n)[0]:=by rw[getElem?_pos (⟨⟨dd n⟩⟩:ByteArray) 0 mK];rfl
   simp[D.m4,D.kN,hg,a1]
  have bQ:((⟨⟨dd n⟩⟩:ByteArray).toList==(⟨#[]⟩:ByteArray).toList)=false:=by rw[B0N,B0N];have:dd n≠[]:=B0x.1 mK;simpa using this
  repeat' (first|(apply dX;simp only[au];rfl)|(apply kT;rfl;rfl;rfl;rfl;exact Qu;simp only[au];rfl)|(apply aU;rfl;simp only[au];rfl)|(apply iP;rfl)|(apply fp;rfl)|refine aC ?_|(refine aT (by decide) ?_)|refine kj rfl ?_|exact aH rfl rfl|(apply aH;rfl;first|exact rfl|(refine eX ?_)|(refine eV ?_)|(refine eW ?_))|(intro hz;(try simp only[gq] at hz)))
  have hx:((((48+es[0]:Nat):Int) != 48)||((((⟨⟨dd n⟩⟩:ByteArray).size:Nat):Int)==1))=true:=by
   have bV:(⟨⟨dd n⟩⟩:ByteArray).size=es.length:=oe;rw[bV]
   by_cases h0:es[0]=0
   ·have h1:=e5 (by rw[List.head?_eq_getElem?,A0e (B0x.2 e4),h0]);simp[h1]
   ·have:(((48+es[0]:Nat):Int) != 48)=true:=by simp only[E0j,ne_eq];omega
    rw[this];rfl
  rw[bQ,hx,hvn,C0T (show(n:Int)≤1000000000000000 by omega)];rfl
theorem Nb {sz b o n i:Nat}(hi:i<n):D.ax sz (.sl b o n) (.v (.int .i64 i))=some (.loc b (o+i*sz)):=by simp[D.ax,hi]
theorem ZJ:eS Tryz.prog 157 (.st bs) [I 0] (.ret (.a_ [])):=by
 refine ZR.N2 rfl rfl ?_;unfold aaS;simp only[aB,aI,A0i,A0j]
 repeat' (first|(apply dX;simp only[au];rfl)|(apply bf;rfl;exact rfl)|(apply aU;rfl;simp only[au];rfl)|refine aO ?_|(apply aL;rfl;rfl)|refine aC ?_|refine kj rfl ?_|(apply aH;rfl;first|exact rfl|(refine eX ?_)|(refine eV ?_)|(refine eW ?_)))
abbrev Xg (e:Int):D:=.iW 156 (.agg [I e])
theorem agl {e:Int}(h:(!(e==0))=true):eS Tryz.prog 157 (.st bs) [I e] (.ee (Xg e)):=by
 refine ZR.N2 rfl rfl ?_;unfold aaS;simp only[aB,aI,A0i,A0j]
 repeat' (first|(apply bF;rfl;exact h)|(apply aU;rfl;simp only[au];rfl)|refine aO ?_)
 exact aex rfl rfl rfl ⟨_,_,rfl⟩
theorem c34 (x lo hi:Int):aQ Tryz.prog 34 (.st bs) [I x,I lo,I hi] (B (fK x lo hi)):=by
 refine anc.R rfl rfl ?_;unfold u34;simp only[aB,aI,A0i,A0j]
 repeat' (first|(apply dX;simp only[au];rfl)|(apply aU;rfl;simp only[au];rfl)|(apply fp;rfl)|exact aH rfl rfl|(intro hz;(try simp only[gq] at hz)))
attribute [local irreducible] fK
theorem ajw {cl:List D}{n:Nat}{k:Nat}(h:bs[1]? = some (.blk 90 35 cl))(h6:cl[6]? = some (In n))(hk:k<n)(hn:n≤1000):eS Tryz.prog 159 (.st bs) [.loc 1 0,I ((k:Int)+1)] (.ret (In k)):=by
 have hi:fK ((k:Int)+1) 1 (n:Int)=true:=by unfold fK;simp;omega
 refine agN.N2 rfl rfl ?_;unfold aeV;simp only[aB,aI,A0i,A0j];have h34:=c34 (bs:=bs) ((k:Int)+1) 1 n;rw[hi] at h34
 repeat' (first|(apply dX;simp only[au];rfl)|(apply bf;rfl;exact rfl)|(apply bG;rfl)|(apply dS;rfl;rfl;exact aW h h6;simp only[au];rfl)|(apply fP;rfl;rfl;omega;simp only[au];rfl)|(apply aU;rfl;simp only[au];rfl)|(apply bC;rfl;rfl;exact h34;rfl;simp only[au];rfl)|refine aO ?_|(apply aL;rfl;rfl)|refine aC ?_|refine kj rfl ?_|(apply aH;rfl;first|exact rfl|(refine eX ?_)|(refine eV ?_)|(refine eW ?_)))
 omega
def qN (ns:List Nat):List D:=ns.map fun n=>PG (dd n) (dd n).length
theorem p6:∀ns,aN (qN ns)=true
 | []=>rfl
 | n :: ns=>by have:=p6 ns;simp only[qN,B0p,aN,D.bZ,D0M] at this ⊢;exact this
theorem ajx {ns:List Nat}{x:D}{b off:Nat}(hn:∀n∈ns,n<1000000000000)(hl:ns.length≤6)(hw:∀i (h:i<ns.length),∀X:List D,D.ld false 1 (.st (bs++X)) (.loc b (off+i*1))=some (sB (dd ns[i]))) :
  bu Tryz.prog 156 (.st bs) [.agg [x,.sl b off ns.length],In ns.length] (.ret (Is (ns.map fun n:Nat=>(n:Int)))) (.st (bs++qN ns)):=by
 have h0:(!(((ns.length:Nat):Int)==((ns.length:Nat):Int)))=false:=by simp
 refine agP.F7 rfl ?_;unfold aeX;simp only[aB,aI,A0i,A0j]
 repeat' (first|(apply dX;simp only[au];rfl)|(apply bf;rfl;exact h0)|(apply bG;rfl)|(apply aU;rfl;simp only[au];rfl)|refine aO ?_|(apply aL;rfl;rfl)|refine aC ?_|refine kj rfl ?_)
 refine ew (fun i=>[Is ((ns.take i).map fun n:Nat=>(n:Int)),In i,.st (bs++qN (ns.take i))]) (fun _=>True) ns.length (by simp[qN];rfl) (fun _=>rfl) trivial (fun i hi hJ R hR=>?_) (fun hJ R=>?_)
 ·have gA:decide ((i:Int)<(ns.length:Int))=true:=by simp;omega
  have hm:=A0T hi;have aiA:=aqk (bs:=bs++qN (ns.take i)) (hn _ hm);have e1:bs++qN (ns.take i)++[PG (dd ns[i]) (dd ns[i]).length]=bs++qN (ns.take (i+1)):=by rw[A0O hi,qN,qN,C0z,A0A];rfl
  rw[e1] at aiA;have vK:D.app 1 8 (Is ((ns.take i).map fun n:Nat=>(n:Int))) (.bk [In ns[i]])=some (Is ((ns.take (i+1)).map fun n:Nat=>(n:Int))):=by rw[A0O hi,C0z];exact D2 (enc:=I) (by simp;omega) (by simp[maxLen];omega) (fun _=>rfl)
  repeat' (first|(apply dX;simp only[au];rfl)|(apply bF;rfl;exact gA)|(apply bf;rfl;exact rfl)|(apply dS;rfl;rfl;exact hw i hi _;simp only[au];rfl)|(apply bH;rfl;rfl;exact Nb hi;simp only[au];rfl)|(apply NQ;rfl;rfl;exact vK;simp only[au];rfl)|(apply eo;rfl;omega;simp only[au];rfl)|(apply aU;rfl;simp only[au];rfl)|(apply dZ;rfl;rfl;exact aiA;rfl;simp only[au];rfl)|refine aO ?_|(apply aL;rfl;rfl)|refine aC ?_|refine kj rfl ?_)
  exact hR trivial
 ·have gA:decide ((ns.length:Int)<(ns.length:Int))=false:=by simp
  repeat' (first|(apply dX;simp only[au];rfl)|(apply bf;rfl;exact gA)|(apply aU;rfl;simp only[au];rfl)|(apply aL;rfl;rfl)|refine aC ?_|(refine aT (by decide) ?_)|refine kj rfl ?_)
  rw[C0d];exact aH rfl rfl
end
end Go.Am.To
namespace Go.Am.Tw
section
set_option maxRecDepth 100000
abbrev KN:Kd:=.agg [0,0]
abbrev Nm:=List ((Int×Int)×D)
def qi (k:Int×Int):D:=.agg [I k.1,I k.2]
def tW (e:(Int×Int)×D):D:=.a_ [qi e.1,e.2]
theorem XU (a b:Int×Int):D.s6 KN (qi a) (qi b)=some (decide (a=b)):=by
 obtain⟨a1,a2⟩:=a;obtain⟨b1,b2⟩:=b;simp only[D.s6,qi,D.bin,D.eqs,rP,Prod.mk.injEq]
 by_cases h1:a1=b1 <;> by_cases h2:a2=b2 <;> simp_all
def IZ (k:Int×Int):Nm→Nat→Option (Nat×D)
 | [],_=>none
 | e :: r,i=>if k=e.1 then some (i,e.2) else IZ k r (i+1)
def kY (k:Int×Int):Nm→Option D
 | []=>none
 | e :: r=>if k=e.1 then some e.2 else kY k r
def i_ (k:Int×Int)(u:D):Nm→Nm
 | []=>[(k,u)]
 | e :: r=>if k=e.1 then(k,u) :: r else e :: i_ k u r
def q6 (k:Int×Int):Nm→Nat
 | []=>0
 | e :: r=>if k=e.1 then 0 else q6 k r+1
theorem wU (k k':Int×Int)(u:D):∀m:Nm,kY k' (i_ k u m)=if k'=k then some u else kY k' m
 | []=>by simp[i_,kY]
 | e :: r=>by
  simp only[i_,kY]
  by_cases h:k=e.1
  ·rw[A0z h,kY]
   by_cases h2:k'=k
   ·rw[A0z h2,A0z h2]
   ·rw[A0B h2,A0B h2,A0B (fun e2=>h2 (e2.trans h.symm))]
  ·rw[A0B h,kY,wU k k' u r]
   by_cases h2:k'=k
   ·rw[A0z h2,A0B (fun e2=>h (h2.symm.trans e2)),A0z h2]
   ·rw[A0B h2,A0B h2]
theorem Fi (k:Int×Int):∀(m:Nm) (i:Nat),IZ k m i=(kY k m).map fun u=>(i+q6 k m,u)
 | [],_=>rfl
 | e :: r,i=>by
  simp only[IZ,kY,q6]
  by_cases h:k=e.1
  ·simp[h]
  ·rw[A0B h,A0B h,A0B h,Fi k r (i+1)];congr 1
   funext u
   rw[show i+1+q6 k r=i+(q6 k r+1) by omega]
theorem I4 (k:Int×Int):∀(m:Nm) (i:Nat),D.uJ KN (qi k) (m.map tW) i=some (IZ k m i)
 | [],_=>rfl
 | e :: r,i=>by
  simp only[B0p,tW,D.uJ,XU,IZ]
  by_cases h:k=e.1
  ·simp[h]
  ·simp only[h,decide_false,B0n];exact I4 k r (i+1)
theorem wX (k:Int×Int)(m:Nm):D.jU KN (qi k) (m.map tW)=some ((kY k m).map fun u=>(q6 k m,u)):=by unfold D.jU;rw[A0z (show D.Ft KN (qi k)=true from rfl),I4,Fi];simp
theorem Od (k:Int×Int)(u:D):∀m:Nm,(i_ k u m)[q6 k m]? = some (k,u)
 | []=>by simp[i_,q6]
 | e :: r=>by
  simp only[i_,q6]
  by_cases h:k=e.1
  ·simp[h]
  ·rw[A0B h,A0B h,B0B,Od k u r]
theorem IA (k:Int×Int)(u v:D):∀m:Nm,(i_ k u m).set (q6 k m) (k,v)=i_ k v m
 | []=>by simp[i_,q6]
 | e :: r=>by
  simp only[i_,q6]
  by_cases h:k=e.1
  ·simp[h]
  ·rw[A0B h,A0B h,A0B h,D0q,IA k u v r]
theorem Gl {k:Int×Int}{u x:D}:∀{m:Nm},kY k m=some x→m.set (q6 k m) (k,u)=i_ k u m
 | [],h=>by simp[kY] at h
 | e :: r,h=>by
  simp only[kY,i_,q6] at h ⊢
  by_cases h1:k=e.1
  ·simp[h1]
  ·rw[A0B h1] at h;rw[A0B h1,A0B h1,D0q,Gl h]
theorem HO {k:Int×Int}{u:D}:∀{m:Nm},kY k m=none→m++[(k,u)]=i_ k u m
 | [],_=>rfl
 | e :: r,h=>by
  simp only[kY,i_] at h ⊢
  by_cases h1:k=e.1
  ·rw[A0z h1] at h;cases h
  ·rw[A0B h1] at h;rw[A0B h1,A0i,HO h]
theorem Ov {k:Int×Int}:∀{m:Nm},kY k m=none→q6 k m=m.length
 | [],_=>rfl
 | e :: r,h=>by
  simp only[kY,q6] at h ⊢
  by_cases h1:k=e.1
  ·rw[A0z h1] at h;cases h
  ·rw[A0B h1] at h;rw[A0B h1,Ov h,B0a]
theorem XJ (m:Nm):D.lost (m.map tW)=false:=by cases m <;> rfl
theorem OB (m:Nm):D.kept (m.map tW)=m.map tW:=by cases m <;> rfl
section
variable {bs:List D} {i:Nat} {m:Nm} (hm:bs[i]? = some (.cg (m.map tW))) (k:Int×Int)
include hm
theorem zm {z x:D}(hx:(kY k m).getD z=x)(h1:x.one=true):D.m4 (.get KN false) (.st bs) (.mp i) (qi k) z=some x:=by
 simp only[D.m4,D.entries,hm,A0d,OB,wX];cases h:kY k m with
 | none=>rw[h] at hx;simp at hx;subst hx;simp[h1]
 | some y=>rw[h] at hx;simp at hx;subst hx;simp[h1]
theorem abb (u:D):D.m4 (.put KN) (.st bs) (.mp i) (qi k) u=some (.st (bs.set i (.cg ((i_ k u m).map tW)))):=by
 simp only[D.m4,D.I2,hm,wX,A0y];cases h:kY k m with
 | none=>simp[←HO (u:=u) h,tW]
 | some y=>simp[←Gl (u:=u) h,tW,D0p]
theorem YJ (z:D):D.m4 (.QV KN) (.st bs) (.mp i) (qi k) z=some (.a_ [(kY k m).getD z,I (q6 k m)]):=by
 simp only[D.m4,D.I8,D.entries,hm,A0d,OB,wX,A0y];cases h:kY k m with
 | none=>simp[Ov h,D.int]
 | some y=>simp[D.int]
theorem YL (z:D):D.m4 (.YM KN) (.st bs) (.mp i) (qi k) z=some (.st (bs.set i (.cg ((i_ k ((kY k m).getD z) m).map tW)))):=by
 simp only[D.m4,D.Ol,hm,wX,A0y];cases h:kY k m with
 | none=>simp[←HO (u:=z) h,tW]
 | some y=>simp[←Gl (u:=y) h,tW,D0p]
end
theorem YK {bs:List D}{i:Nat}{m:Nm}{k:Int×Int}{v:D}(hm:bs[i]? = some (.cg ((i_ k v m).map tW)))(x:D):D.m4 .nw (.st bs) (.mp i) (I (q6 k m)) x=some (.st (bs.set i (.cg ((i_ k x m).map tW)))):=by
 have h:=Od k v m;have hp:pQ ((i_ k v m).map tW) (q6 k m)=some (qi k,v):=by simp[pQ,h,tW]
 simp only[D.m4,D.Oj,hm];rw[A0z ⟨by omega,XJ _⟩];simp only[C0j,hp,A0y];rw[←IA k v x m,D0p];rfl
end
section
open Go.Proofs
set_option maxRecDepth 100000
set_option maxHeartbeats 4000000
variable {bs:List D}
def ncs (i:Nat):List D:=[In i]
def qB (W:List aF)(i:Nat):aF:=W.getD i ⟨0,0,0,0,0,0,0⟩
theorem Gw {W:List aF}{i:Nat}(h:i<W.length):qB W i=W[i]:=by simp[qB,h]
def Ec (dV:Int)(r:aF):Bool:=r.kind != 4&&r.dV==dV
structure pY (bs:List D)(v j:Nat)(W:List aF)(s:D)(idx:List Nat):Prop where
 blk:bs[v]? = some (.blk 220 3 [.loc j 0,.bk (W.map aF.d),s])
 sl:jI bs 3 1 ncs s idx
 lt:∀i,i∈idx→i<W.length
theorem aqH (v:Nat)(dV:Int):aQ Tryz.prog 126 (.st bs) [.loc v 0,I dV] (.fn 178 [] [.ptr [.loc v 0],.ptr [I dV]]):=by
 refine ag2.R rfl rfl ?_;unfold ae_;simp only[aB,aI,A0i,A0j]
 repeat' (first|(apply aU;rfl;simp only[au];rfl)|exact aH rfl rfl)
theorem aqL (W:List aF):aZ Tryz.prog 122 (.st bs) [.bk (W.map aF.d)] (.fn 177 [] [.ptr [.bk (W.map aF.d)]]) (.st bs):=by
 refine ag5.W rfl ?_;unfold afc;simp only[aB,aI,A0i,A0j]
 repeat' (first|(apply aU;rfl;simp only[au];rfl)|exact aH rfl rfl)
theorem aqp {v j:Nat} {W:List aF} {s:D} {idx:List Nat} {dV:Int} (f:Nat→List D) (hV:∀k,k≤idx.length→pY (f k) v j W s idx) (hL:idx.length≤1000000) {m0:Nat} {rec:Loop} {sl:List Nat} {eH:List D}
  (hy:∀k (h:k<idx.length),Ec dV (qB W idx[k])=true→r7 Tryz.prog (.yl m0 rec sl eH) (.st (f k)) [In idx[k],(qB W idx[k]).d] (.st (f (k+1)))) (hn:∀k (h:k<idx.length),Ec dV (qB W idx[k])=false→f (k+1)=f k) :
  aZ Tryz.prog 178 (.st (f 0)) [.yl m0 rec sl eH,.ptr [.loc v 0],.ptr [I dV]] (.a_ []) (.st (f idx.length)):=by
 have h0:=hV 0 (B0e _);refine agJ.W rfl ?_;unfold aeR;simp only[aB,aI,A0i,A0j]
 repeat' (first|(apply bG;rfl)|(apply dS;rfl;rfl;exact aW h0.blk rfl;simp only[au];rfl)|(apply cM;rfl;exact h0.sl.len;simp only[au];rfl)|(apply aU;rfl;simp only[au];rfl)|refine aO ?_)
 refine ew (fun i=>[I i,.st (f i)]) (fun _=>True) idx.length rfl (fun _=>rfl) trivial (fun i hi _ R hR=>?_) (fun _ R=>?_)
 ·have hA:=hV i (by omega);obtain⟨b,rfl,hb⟩:=hA.sl.get hi;have ug:=hA.lt _ (A0T hi);have hr:=Gw ug;have dU:decide ((i:Int)<(idx.length:Int))=true:=by simp;omega
  have hd:D.ax 7 (.bk (W.map aF.d)) (In idx[i])=some (.ptr (qB W idx[i]).cs):=by rw[hr];exact c_ ug rfl
  cases eE:Ec dV (qB W idx[i])
  ·have e:=hn i hi eE;have Ur:((qB W idx[i]).kind != 4&&(qB W idx[i]).dV==dV)=false:=eE;have ab5:((qB W idx[i]).kind != 4&&(qB W idx[i]).dV==dV&&!false)=false:=by rw[Ur];rfl
   repeat' (first|(apply dX;simp only[au];rfl)|((apply WT (.v (.bool false)));rfl;exact Ur;rfl;simp only[au];rfl)|(apply bF;rfl;exact dU)|(apply bf;rfl;exact ab5)|(apply bG;rfl)|(apply dS;rfl;rfl;(·first|exact Mu hb (fun _=>rfl) (A0e hi) rfl|exact aW hA.blk rfl);simp only[au];rfl)|(apply bH;rfl;rfl;(·first|exact fA hi|exact hd);simp only[au];rfl)|(apply eo;rfl;omega;simp only[au];rfl)|(apply aU;rfl;simp only[au];rfl)|(apply fp;rfl)|refine aO ?_|(apply aL;rfl;rfl)|refine aC ?_|refine kj rfl ?_|exact aH rfl rfl|(intro hz;(try simp only[gq] at hz)))
   rw[←e];exact hR trivial
  ·have Ur:((qB W idx[i]).kind != 4&&(qB W idx[i]).dV==dV)=true:=eE;have ab5:((qB W idx[i]).kind != 4&&(qB W idx[i]).dV==dV&&!true)=false:=by rw[Ur];rfl
   repeat' (first|(apply dX;simp only[au];rfl)|(apply aaO;rfl;exact Ur;rfl;rfl;rfl;(·exact⟨rfl,hy i hi eE⟩);rfl;simp only[au];rfl)|(apply bF;rfl;exact dU)|(apply bf;rfl;exact ab5)|(apply bG;rfl)|(apply dS;rfl;rfl;(·first|exact Mu hb (fun _=>rfl) (A0e hi) rfl|exact aW hA.blk rfl);simp only[au];rfl)|(apply bH;rfl;rfl;(·first|exact fA hi|exact hd);simp only[au];rfl)|(apply eo;rfl;omega;simp only[au];rfl)|(apply aU;rfl;simp only[au];rfl)|(apply fp;rfl)|refine aO ?_|(apply aL;rfl;rfl)|refine aC ?_|refine kj rfl ?_|exact aH rfl rfl|(intro hz;(try simp only[gq] at hz)))
   exact hR trivial
 ·have dU:decide ((idx.length:Int)<(idx.length:Int))=false:=by simp
  repeat' (first|(apply dX;simp only[au];rfl)|(apply bf;rfl;exact dU)|(apply aU;rfl;simp only[au];rfl)|(apply aL;rfl;rfl)|refine aC ?_|(refine aT (by decide) ?_)|refine kj rfl ?_|exact aH rfl rfl)
theorem aqq {W:List aF} (f:Nat→List D) (hL:W.length≤1000000) {m0:Nat} {rec:Loop} {sl:List Nat} {eH:List D}
  (hy:∀k (h:k<W.length),r7 Tryz.prog (.yl m0 rec sl eH) (.st (f k)) [In (W.length-1-k),(W[W.length-1-k]).d] (.st (f (k+1)))) :
  aZ Tryz.prog 177 (.st (f 0)) [.yl m0 rec sl eH,.ptr [.bk (W.map aF.d)]] (.a_ []) (.st (f W.length)):=by
 refine agK.W rfl ?_;unfold aeS;simp only[aB,aI,A0i,A0j]
 repeat' (first|(apply cM;rfl;exact bR;simp only[au];rfl)|(apply fP;rfl;rfl;omega;simp only[au];rfl)|(apply aU;rfl;simp only[au];rfl)|refine aO ?_)
 refine ew (fun i=>[I ((W.length:Int)-1-i),.st (f i)]) (fun _=>True) W.length (by simp[aA,E.eval]) (fun _=>rfl) trivial (fun i hi _ R hR=>?_) (fun _ R=>?_)
 ·have dU:decide ((W.length:Int)-1-(i:Int)≥0)=true:=by simp;omega
  have e1:(W.length:Int)-1-(i:Int)=((W.length-1-i:Nat):Int):=by omega
  have hd:D.ax 7 (.bk (W.map aF.d)) (I ((W.length:Int)-1-i))=some (.ptr (W[W.length-1-i]).cs):=by rw[e1];exact c_ (by omega) rfl
  have hyi:=hy i hi;simp only[In,←e1] at hyi
  repeat' (first|(apply dX;simp only[au];rfl)|(apply BG;rfl;rfl;rfl;(·exact⟨rfl,hyi⟩);rfl;simp only[au];rfl)|(apply bF;rfl;exact dU)|(apply bf;rfl;exact rfl)|(apply bH;rfl;rfl;exact hd;simp only[au];rfl)|(apply fP;rfl;rfl;omega;simp only[au];rfl)|(apply aU;rfl;simp only[au];rfl)|refine aO ?_|(apply aL;rfl;rfl)|refine aC ?_|refine kj rfl ?_)
  have e2:(W.length:Int)-1-(i:Int)-1=(W.length:Int)-1-((i+1:Nat):Int):=by omega
  rw[e2];exact hR trivial
 ·have dU:decide ((W.length:Int)-1-(W.length:Int)≥0)=false:=by simp;omega
  repeat' (first|(apply dX;simp only[au];rfl)|(apply bf;rfl;exact dU)|(apply aU;rfl;simp only[au];rfl)|(apply aL;rfl;rfl)|refine aC ?_|(refine aT (by decide) ?_)|refine kj rfl ?_|exact aH rfl rfl)
end
section
set_option maxRecDepth 100000
abbrev KR:Kd:=.agg [0,0,0,0,0,0,0]
theorem Qj (a b:aF):D.s6 KR a.d b.d=some (decide (a=b)):=by
 obtain⟨a1,a2,a3,a4,a5,a6,a7⟩:=a;obtain⟨b1,b2,b3,b4,b5,b6,b7⟩:=b;simp only[D.s6,aF.d,aF.cs,D.bin,D.eqs,rP,aF.mk.injEq]
 by_cases h1:a1=b1 <;> by_cases h2:a2=b2 <;> by_cases h3:a3=b3 <;> by_cases h4:a4=b4 <;> by_cases h5:a5=b5 <;> by_cases h6:a6=b6 <;> by_cases h7:a7=b7 <;> simp_all
def q_ (a:aF):List (aF×Int)→Nat→Option (Nat×Int)
 | [],_=>none
 | e :: r,i=>if a=e.1 then some (i,e.2) else q_ a r (i+1)
theorem Ot (kv:List (aF×Int)):D.lost (kv.map vv)=false:=by cases kv <;> rfl
theorem OC (kv:List (aF×Int)):D.kept (kv.map vv)=kv.map vv:=by cases kv <;> rfl
theorem I5 (a:aF):∀(kv:List (aF×Int)) (i:Nat),D.uJ KR a.d (kv.map vv) i=some ((q_ a kv i).map fun p=>(p.1,I p.2))
 | [],_=>rfl
 | e :: r,i=>by
  simp only[B0p,vv,D.uJ,Qj,q_]
  by_cases h:a=e.1
  ·simp[h]
  ·simp only[h,decide_false,B0n];exact I5 a r (i+1)
theorem I3 (a:aF)(kv:List (aF×Int)):D.jU KR a.d (kv.map vv)=some ((q_ a kv 0).map fun p=>(p.1,I p.2)):=by unfold D.jU;rw[A0z (show D.Ft KR a.d=true from rfl),I5]
theorem Fk {a:aF}:∀{kv:List (aF×Int)} {i:Nat},q_ a kv i=none→∀e,e∈kv→e.1≠a
 | [],_,_,e,he=>by simp at he
 | x :: r,i,h,e,he=>by
  simp only[q_] at h;split at h
  ·cases h
  ·rename_i h1;rcases A0E.1 he with rfl | he
   ·exact fun e=>h1 e.symm
   ·exact Fk h e he
theorem Fj {a:aF}{j:Nat}{t:Int}:∀{kv:List (aF×Int)} {i:Nat},q_ a kv i=some (j,t)→i≤j∧kv[j-i]? = some (a,t)
 | [],_,h=>by simp[q_] at h
 | x :: r,i,h=>by
  simp only[q_] at h;split at h
  ·rename_i h1;cases h;exact⟨A0m _,by rw[B0R,A0L,h1]⟩
  ·obtain⟨h2,h3⟩:=Fj h;refine⟨by omega,?_⟩;rw[show j-i=(j-(i+1))+1 by omega,B0B];exact h3
def PX (kv:List (aF×Int))(r:aF):List (aF×Int):=
 match q_ (dW r) kv 0 with
 | none=>kv++[(dW r,r.aX)]
 | some (j,t)=>if r.aX<t then kv.set j (dW r,r.aX) else kv
theorem N4 {kv:List (aF×Int)}(h:mV kv)(r:aF):PX kv r=put kv r:=by
 unfold PX put;cases hg:q_ (dW r) kv 0 with
 | none=>
  have hn:kv.any (fun e=>decide (e.1=dW r))=false:=by rw[List.any_eq_false];intro e he;simpa using Fk hg e he
  simp[hn]
 | some p=>
  obtain⟨j,t⟩:=p;obtain⟨_,hj⟩:=Fj hg;simp only[C0y] at hj;obtain⟨pT,hje⟩:=A0c.1 hj;have hy:kv.any (fun e=>decide (e.1=dW r))=true:=by rw[B0h];exact⟨_,A0T pT,by rw[hje];simp⟩
  simp only[hy,B0d];apply E0h;intro i;rw[A0w]
  by_cases AR:i=j
  ·subst AR;split
   ·rename_i hlt;rw[A0M pT,hj];simp[hlt]
   ·rename_i hlt;rw[hj];simp[hlt]
  ·have bQ:∀e,kv[i]? = some e→e.1≠dW r:=by
    intro e he ha;obtain⟨ug,hie⟩:=A0c.1 he;have hp:=C0k.1 h.nd;rcases Nat.lt_or_gt_of_ne AR with g | g
    ·exact hp i j ug pT g (by rw[hie,hje];exact ha)
    ·exact hp j i pT ug g (by rw[hie,hje];exact ha.symm)
   split
   ·rw[A0q (B0O AR)];cases hi:kv[i]? with
    | none=>rfl
    | some e=>simp[bQ e hi]
   ·cases hi:kv[i]? with
    | none=>rfl
    | some e=>simp[bQ e hi]
variable {bs:List D}
theorem J9 {m:Nat}{kv:List (aF×Int)}(hm:bs[m]? = some (.cg (kv.map vv)))(a:aF):D.m4 (.xM KR) (.st bs) (.mp m) a.d (I 0)=some (match q_ a kv 0 with | some p=>.a_ [I p.2,B true] | none=>.a_ [I 0,B false]):=by simp only[D.m4,D.entries,hm,A0d,OC,I3,A0y];cases q_ a kv 0 <;> rfl
theorem SM {m:Nat}{kv:List (aF×Int)}(hm:bs[m]? = some (.cg (kv.map vv)))(r:aF)(hp:∀p,q_ (dW r) kv 0=some p→r.aX<p.2):D.m4 (.put KR) (.st bs) (.mp m) (dW r).d (I r.aX)=some (.st (bs.set m (.cg ((PX kv r).map vv)))):=by
 simp only[D.m4,D.I2,hm,I3,A0y,PX];cases hg:q_ (dW r) kv 0 with
 | none=>simp[vv]
 | some p=>
  obtain⟨j,t⟩:=p;have:=hp _ hg;simp only at this;simp[vv,this,D0p]
theorem Oi {m:Nat}{kv:List (aF×Int)}(hm:bs[m]? = some (.cg (kv.map vv))):D.m4 .XD (.st bs) (.mp m) (.agg []) (.agg [])=some (I kv.length):=by simp only[D.m4,D.entries,hm,OC,A0y,B0u]
end
end Go.Am.Tw
namespace Go.Proofs
section
open Go.Shelf
def Tryz.Mz:Go.Shelf.Ren:=⟨fun | 6=>175 | 15=>215 | 14=>214 | 28=>256 | 29=>221 | 20=>248 | 21=>249 | 22=>250 | 23=>251 | 24=>252 | 25=>253 | 26=>254 | 27=>255 | 46=>273 | 47=>274 | 48=>275 | 49=>276 | 50=>277 | 57=>282 | n=>n,fun | 22=>217 | 24=>224 | 25=>298 | 3=>3 | 39=>258 | 0=>0 | 53=>312 | 55=>126 | 4=>4 | 46=>371 | 45=>370 | 50=>319 | 5=>5 | 9=>9 | 66=>388 | 70=>392 | 76=>398 | 77=>399 | n=>n,fun | n=>n⟩
theorem Tryz.TE:Go.Proofs.SlLaysF0.n6 Tryz.prog Tryz.Mz:={
 mixed:=by kernel_rfl
 f6:=⟨Tryz.f175.name,by decide,Tryz.func175.trans (congrArg some (by kernel_rfl))⟩
 f14:=⟨Tryz.f214.name,by decide,Tryz.func214.trans (congrArg some (by kernel_rfl))⟩
 f15:=Tryz.func215.trans (congrArg some (by kernel_rfl))
 f20:=⟨Tryz.f248.name,by decide,Tryz.func248.trans (congrArg some (by kernel_rfl))⟩
 f21:=⟨Tryz.f249.name,by decide,Tryz.func249.trans (congrArg some (by kernel_rfl))⟩
 f22:=⟨Tryz.f250.name,by decide,Tryz.func250.trans (congrArg some (by kernel_rfl))⟩
 f23:=⟨Tryz.f251.name,by decide,Tryz.func251.trans (congrArg some (by kernel_rfl))⟩
 f24:=⟨Tryz.f252.name,by decide,Tryz.func252.trans (congrArg some (by kernel_rfl))⟩
 f25:=⟨Tryz.f253.name,by decide,Tryz.func253.trans (congrArg some (by kernel_rfl))⟩
 f26:=⟨Tryz.f254.name,by decide,Tryz.func254.trans (congrArg some (by kernel_rfl))⟩
 f27:=⟨Tryz.f255.name,by decide,Tryz.func255.trans (congrArg some (by kernel_rfl))⟩
 f28:=Tryz.func256.trans (congrArg some (by kernel_rfl))
 f29:=Tryz.func221.trans (congrArg some (by kernel_rfl))
 f46:=⟨Tryz.f273.name,by decide,Tryz.func273.trans (congrArg some (by kernel_rfl))⟩
 f47:=Tryz.func274.trans (congrArg some (by kernel_rfl))
 f48:=Tryz.func275.trans (congrArg some (by kernel_rfl))
 f49:=⟨Tryz.f276.name,by decide,Tryz.func276.trans (congrArg some (by kernel_rfl))⟩
 f50:=⟨Tryz.f277.name,by decide,Tryz.func277.trans (congrArg some (by kernel_rfl))⟩
 f57:=⟨Tryz.f282.name,by decide,Tryz.func282.trans (congrArg some (by kernel_rfl))⟩
 t0:=Tryz.underlying0
 a0:=Tryz.isAgg0
 z0:=Tryz.sizeOf0
 v0:=Tryz.zeroValue0
 t3:=Tryz.underlying3
 a3:=Tryz.isAgg3
 z3:=Tryz.sizeOf3
 v3:=Tryz.zeroValue3
 t4:=Tryz.underlying4
 a4:=Tryz.isAgg4
 z4:=Tryz.sizeOf4
 v4:=Tryz.zeroValue4
 t5:=Tryz.underlying5
 a5:=Tryz.isAgg5
 z5:=Tryz.sizeOf5
 v5:=Tryz.zeroValue5
 t9:=Tryz.underlying9
 a9:=Tryz.isAgg9
 z9:=Tryz.sizeOf9
 v9:=Tryz.zeroValue9
 t22:=Tryz.underlying217
 a22:=Tryz.isAgg217
 z22:=Tryz.sizeOf217
 v22:=Tryz.zeroValue217
 t25:=Tryz.underlying298
 a25:=Tryz.isAgg298
 z25:=Tryz.sizeOf298
 v25:=Tryz.zeroValue298
 t39:=Tryz.underlying258
 a39:=Tryz.isAgg258
 z39:=Tryz.sizeOf258
 v39:=Tryz.zeroValue258
 t45:=Tryz.underlying370
 a45:=Tryz.isAgg370
 z45:=Tryz.sizeOf370
 v45:=Tryz.zeroValue370
 t46:=Tryz.underlying371
 a46:=Tryz.isAgg371
 z46:=Tryz.sizeOf371
 v46:=Tryz.zeroValue371
 t50:=Tryz.underlying319
 a50:=Tryz.isAgg319
 z50:=Tryz.sizeOf319
 v50:=Tryz.zeroValue319
 t53:=Tryz.underlying312
 a53:=Tryz.isAgg312
 z53:=Tryz.sizeOf312
 v53:=Tryz.zeroValue312
 t55:=Tryz.underlying126
 a55:=Tryz.isAgg126
 z55:=Tryz.sizeOf126
 v55:=Tryz.zeroValue126
 t66:=Tryz.underlying388
 a66:=Tryz.isAgg388
 z66:=Tryz.sizeOf388
 v66:=Tryz.zeroValue388
 t70:=Tryz.underlying392
 a70:=Tryz.isAgg392
 z70:=Tryz.sizeOf392
 v70:=Tryz.zeroValue392
 t76:=Tryz.underlying398
 a76:=Tryz.isAgg398
 z76:=Tryz.sizeOf398
 v76:=Tryz.zeroValue398
 t77:=Tryz.underlying399
 a77:=Tryz.isAgg399
 z77:=Tryz.sizeOf399
 v77:=Tryz.zeroValue399 }
def Tryz.MA:Go.Shelf.Ren:=⟨fun | 5=>204 | 7=>232 | n=>n,fun | 23=>148 | 25=>224 | 3=>3 | 4=>4 | 20=>20 | n=>n,fun | n=>n⟩
theorem Tryz.abz:Go.Proofs.SlLaysW.n5 Tryz.prog Tryz.MA:={
 mixed:=by kernel_rfl
 f5:=⟨Tryz.f204.name,by decide,Tryz.func204.trans (congrArg some (by kernel_rfl))⟩
 f7:=Tryz.func232.trans (congrArg some (by kernel_rfl))
 t4:=Tryz.underlying4
 a4:=Tryz.isAgg4
 z4:=Tryz.sizeOf4
 v4:=Tryz.zeroValue4
 t20:=Tryz.underlying20
 a20:=Tryz.isAgg20
 z20:=Tryz.sizeOf20
 v20:=Tryz.zeroValue20
 t23:=Tryz.underlying148
 a23:=Tryz.isAgg148
 z23:=Tryz.sizeOf148
 v23:=Tryz.zeroValue148 }
end
end Go.Proofs
