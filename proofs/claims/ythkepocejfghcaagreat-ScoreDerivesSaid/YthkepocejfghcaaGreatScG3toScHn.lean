/-
  Several texts, one behind the other.
-/
import Derived.Test.YthkepocejfghcaaGreatScC1toScShelf
import Derived.Test.YthkepocejfghcaaGreatScT3toScHa
import Derived.Test.YthkepocejfghcaaGreatAmApp
import Derived.Test.YthkepocejfghcaaGreatScCfgtoScAct
set_option linter.unusedSimpArgs false
set_option linter.unusedVariables false
namespace Go.Am.Sc
section
theorem vw {α:Type}{enc:α→List D}{sz:Nat}(hsz:∀x,(enc x).length=sz):∀xs:List α,chunks sz xs.length (xs.flatMap enc)=xs.map enc
 | []=>rfl
 | x :: xs=>by
  rw[List.length_cons,chunks,List.flatMap_cons,List.take_append_of_le_length (by rw[hsz];exact Nat.le_refl _),List.drop_append_of_le_length (by rw[hsz];exact Nat.le_refl _)]
  rw[List.take_of_length_le (by rw[hsz];exact Nat.le_refl _),List.drop_eq_nil_of_le (by rw[hsz];exact Nat.le_refl _),List.nil_append,vw hsz xs,List.map_cons]

variable {bs:List D} {n:Nat}

def iX (A:List aS)(c:aS)(B:List aS)(s:D):List D:=A.flatMap aS.cs++(I c.cls :: Is c.dH :: s :: B.flatMap aS.cs)

variable {A Bc:List aS} {c:aS} {s s':D}

theorem zz (c:aS):c.cs.length=3:=rfl
theorem uI (x:gL):x.cs.length=4:=rfl

theorem nH:(A.flatMap aS.cs).length=A.length*3:=h_ zz

theorem v_:(iX A c Bc s)[A.length*3+2]? = some s:=by
 unfold iX
 rw[List.getElem?_append_right (by rw[nH];omega),nH]
 simp
end

section
open Go.Proofs

noncomputable def u41:U:=(aI [.aY (.bB 14 y0),
 .call 53 y2 [(fN 14 y0),y1] [true,true],
 .ev (.cI 90 1 y2 (.const (.agg [(.v (.pointer none))]))),
 .ev (.gQ 1 y4 (.aU y2) (.az 0 y3)),
 .ev (.un .not (.az 1 y3))]
 (.ite y6 (.ret (.aa (.aa (.const (.bq [])) (.aa (ki 2) .ax)) (.aa y5 .ax))) (aI [.ev (.cI 73 1 y5 (.const (.agg [.cq]))),
 .ev (.m4 .aaA y7 .nil .nil .nil),
 .ev (.cI 115 1 y8 (.const (.agg [(.v (.map none))]))),
 .ev (.gQ 1 y9 (.aU y8) (.m4 .abR y7 .nil .nil .nil)),
 .ev (.gV 93 .ax (.aa (.aU y2) (.aa (.aU y8) (.aa (.aU y5) .ax)))),
 .ev (.aR (.cell 0 y0)),
 .join 0 1 (.loop 1 [(ki 0),y10] (aI [.ev (.bin .lss .int y13 y12)]
 (.ite y15 (aI [.join 2 1 (aI [.ev (.aR y1),
 .join 3 3 (.loop 4 [(ki 0),y14] (aI [.ev (.bin .lss .int y17 y16)]
 (.ite y19 (aI [.join 5 1 (aI [.ev (.cons (.bt (ki 1)) (.cons (.bt y17) (.cons (.bt y13) .nil))),
 .gen (.fC [] y11 y18 [y20] [])]
 (.jump 5 [(.az 1 y21)] [])),
 .ev (.bin .add .int y17 (ki 1))]
 (.jump 4 [y21,y20] [])) (.jump 3 [y17,y19,y18] [])))),
 .ev (.aR y1),
 .join 3 3 (.loop 4 [(ki 0),y19] (aI [.ev (.bin .lss .int y21 y20)]
 (.ite y23 (aI [.join 5 1 (aI [.join 6 4 (.loop 7 [(ki 2),y22] (aI [.ev (.bin .leq .int y24 (ki 6))]
 (.ite y26 (aI [.join 8 1 (aI [.ev (.cons (.bt y24) (.cons (.bt y21) (.cons (.bt y13) .nil))),
 .gen (.fC [] y11 y25 [y27] [])]
 (.jump 8 [(.az 1 y28)] [])),
 .ev (.bin .add .int y24 (ki 1))]
 (.jump 7 [y28,y27] [])) (.jump 6 [y24,y24,y26,y25] []))))]
 (.jump 5 [y27] [])),
 .ev (.bin .add .int y21 (ki 1))]
 (.jump 4 [y25,y24] [])) (.jump 3 [y21,y23,y22] []))))]
 (.jump 2 [y23] [])),
 .ev (.bin .add .int y13 (ki 1))]
 (.jump 1 [y17,y16] [])) (.jump 0 [y14] [])))),
 .ev (.aR y1),
 .join 0 1 (.loop 1 [(ki 0),y13] (aI [.ev (.bin .lss .int y15 y14)]
 (.ite y17 (aI [.join 2 1 (aI [.ev (.cons (.bt (ki 7)) (.cons (.bt y15) (.cons (.bt (ki 0)) .nil))),
 .gen (.fC [] y11 y16 [y18] [])]
 (.jump 2 [(.az 1 y19)] [])),
 .ev (.bin .add .int y15 (ki 1))]
 (.jump 1 [y19,y18] [])) (.jump 0 [y16] [])))),
 .ev (.ld false 1 y15 (.aU y5))]
 (.ret (.aa (.aa y16 (.aa (ki 0) .ax)) (.aa y15 .ax))))))
theorem au8:cm Tryz.prog 41 .plain { bE false [93,1000041,1000057,1000068] [] Tryz.f41 with FB:=true } [false,true] u41:=cm.plain Tryz.func41 (by kernel_rfl) (by kernel_rfl)

noncomputable def u93:U:=(aI [.aY (.bB 3 y0),
 .ev (.ld false 1 y4 y1),
 .call 94 y4 [y5,(fN 3 y0)] [true,true],
 .ev (.un .not (.az 1 y6))]
 (.ite y7 (.ret (.aa .ax (.aa y4 .ax))) (aI [.ev (.cons (.bt (.cell 0 y0)) (.cons (.bt (.cell 1 y0)) (.cons (.bt (.cell 2 y0)) (.cons (.bt (.az 0 y6)) (.cons (.const (.agg [.cq])) .nil))))),
 .aY (.bB 5 y8),
 .ev (.ld false 1 y4 y1),
 .call 95 y4 [y9,(fN 3 y0)] [true],
 .ev (.bin .eql .int (.cell 0 y0) (ki 3)),
 .join 0 1 (.ite y11 (aI [.ev (.aR y10),
 .ev (.mm false (ki 1) y12),
 .ev (.sub 3 y10 (ki 0) y13)]
 (.jump 0 [y14] [])) (.jump 0 [y10] [])),
 .ev (.aR y12),
 .join 0 2 (.loop 1 [(ki 0),(.cell 4 y8),y4] (aI [.ev (.bin .lss .int y14 y13)]
 (.ite y17 (aI [.join 2 2 (aI [.ev (.aj 3 y12 y14),
 .ev (.ld true 3 y16 y18),
 .aY (.bB 3 y19),
 .ev (.ld false 1 y16 y2),
 .ev (.m4 (.get (.agg [0,0,0]) false) y16 y20 (fN 3 y19) (ki 0)),
 .ev (.bz (.bt y21) (.const (.bq []))),
 .ev (.fU 3 1 8 y16 y15 y22)]
 (.jump 2 [(.apps y16 y15 y22),y23] [(fN 3 y19),(.apps y16 y15 y22),(.cell 0 y19),(.cell 1 y19),(.cell 2 y19)])),
 .ev (.bin .add .int y14 (ki 1))]
 (.jump 1 [y20,y18,y19] [])) (.jump 0 [y15,y16] [])))),
 .bQ 96 y15 [y14] [],
 .ev (.ld false 1 y17 y2),
 .ev (.ld false 1 y17 y3),
 .ev (.aR y19),
 .ev (.m4 (.put (.agg [0,0,0])) y17 y18 (fN 3 y0) y20),
 .ev (.ld false 1 y21 y3),
 .ev (.bz (.bB 5 (.cons (.cell 0 y8) (.cons (.cell 1 y8) (.cons (.cell 2 y8) (.cons (.cell 3 y8) (.cons y14 .nil)))))) (.const (.bq []))),
 .ev (.fU 76 5 56 y21 y22 y23),
 .ev (.gQ 1 y24 y3 (.apps y21 y22 y23))]
 (.ret (.aa .ax (.aa y25 .ax))))))
theorem au4:cm Tryz.prog 93 .plain { bE false [96] [] Tryz.f93 with FB:=true } [false,true,true,true] u93:=cm.plain Tryz.func93 (by kernel_rfl) (by kernel_rfl)

noncomputable def u98:U:=(aI [.aY (.bB 14 y0),
 .ev (.cons (.bt y3) (.cons (.bt y4) (.cons (.bt y5) (.cons (.const (.agg [(.v (.int .i64 0))])) (.cons (.const (.agg [(.bq [])])) .nil))))),
 .aY (.bB 5 y7),
 .call 122 y6 [(fN 14 y0),y1,(fN 5 y7)] [true],
 .call 121 y6 [(fN 14 y0),y1,y2,(.cons (.cell 0 y7) (.cons (.cell 1 y7) (.cons (.cell 2 y7) (.cons y8 (.cons (.cell 4 y7) .nil)))))] [true,true],
 .ev (.bin .eql .int y3 (ki 3)),
 .chain false y10 (aI [.aY (.az 0 y9),
 .ev (.aR (.az 0 y9)),
 .ev (.bin .gtr .int y11 (ki 1))]
 (.ret y12)),
 .join 0 1 (.ite y11 (aI [.ev (.sub 1 (.az 0 y9) (ki 0) (ki 1))]
 (.jump 0 [y12] [])) (.jump 0 [(.az 0 y9)] [])),
 .ev (.bz (.bB 5 (.cons (.cell 0 y7) (.cons (.cell 1 y7) (.cons (.cell 2 y7) (.cons y8 (.cons y12 .nil)))))) (.const (.bq []))),
 .ev (.fU 76 5 56 y6 y2 y13)]
 (.ret (.aa (.apps y6 y2 y13) (.aa y14 .ax))))
theorem au3:cm Tryz.prog 98 .plain (bE false [] [] Tryz.f98) [false,true,true,true,true,true] u98:=cm.plain Tryz.func98 (by kernel_rfl) (by kernel_rfl)

noncomputable def u43:U:=(aI [.aY (.bB 14 y0),
 .join 0 2 (.loop 1 [(.const .cq),(ki 0),y2] (aI [.ev (.aR (.cell 0 y0)),
 .ev (.bin .lss .int y4 y6)]
 (.ite y7 (aI [.join 2 2 (aI [.join 3 5 (.loop 4 [y3,(ki 0),y5] (aI [.ev (.bin .lss .int y9 (ki 2))]
 (.ite y11 (aI [.join 5 2 (aI [.join 6 6 (.loop 7 [y8,(ki 0),y10] (aI [.ev (.aR y1),
 .ev (.bin .lss .int y13 y15)]
 (.ite y16 (aI [.join 8 2 (aI [.call 97 y14 [(fN 14 y0),y1,y13,y4] [true],
 .join 9 6 (.loop 10 [y12,(ki 0),y14] (aI [.ev (.aR y17),
 .ev (.bin .lss .int y19 y21)]
 (.ite y22 (aI [.join 11 2 (aI [.ev (.aj 1 y17 y19),
 .ev (.ld false 1 y20 y23),
 .ev (.bin .eql .int y24 (ki 1)),
 .ev (.bin .eql .int y9 (ki 0)),
 .ev (.bin .eql .bool y25 y26),
 .join 12 2 (.ite y27 (aI [.ev (.aj 1 y17 y19),
 .ev (.ld false 1 y20 y28),
 .bQ 98 y20 [(fN 14 y0),y1,y18,y29,y13,y4] [true]]
 (.jump 12 [y30,y31] [])) (.jump 12 [y18,y20] []))]
 (.jump 11 [y28,y29] [])),
 .ev (.bin .add .int y19 (ki 1))]
 (.jump 10 [y23,y25,y24] [])) (.jump 9 [y18,y19,y19,y21,y22,y20] []))))]
 (.jump 8 [y18,y23] [])),
 .ev (.bin .add .int y13 (ki 1))]
 (.jump 7 [y17,y19,y18] [])) (.jump 6 [y12,y13,y13,y15,y16,y14] []))))]
 (.jump 5 [y12,y17] [])),
 .ev (.bin .add .int y9 (ki 1))]
 (.jump 4 [y12,y14,y13] [])) (.jump 3 [y8,y9,y9,y11,y10] []))))]
 (.jump 2 [y8,y12] [])),
 .ev (.bin .add .int y4 (ki 1))]
 (.jump 1 [y8,y10,y9] [])) (.jump 0 [y3,y5] [])))),
 .join 0 2 (.loop 1 [y3,(ki 0),y4] (aI [.ev (.aR y1),
 .ev (.bin .lss .int y6 y8)]
 (.ite y9 (aI [.join 2 2 (aI [.bQ 98 y7 [(fN 14 y0),y1,y5,(ki 7),y6,(ki 0)] [true]]
 (.jump 2 [y10,y11] [y10])),
 .ev (.bin .add .int y6 (ki 1))]
 (.jump 1 [y10,y12,y11] [])) (.jump 0 [y5,y7] []))))]
 (.ret (.aa y5 (.aa y6 .ax))))
theorem au6:cm Tryz.prog 43 .plain (bE false [98] [5] Tryz.f43) [false,true] u43:=cm.plain Tryz.func43 (by kernel_rfl) (by kernel_rfl)

noncomputable def u42:U:=(aI [.ev (.aR y0),
 .ev (.aR y1),
 .ev (.bin .neq .int y3 y4)]
 (.ite y5 (.ret (.aa (kb false) (.aa y2 .ax))) (aI [.join 0 0 (.loop 1 [(ki 0)] (aI [.ev (.aR y0),
 .ev (.bin .lss .int y6 y7)]
 (.ite y8 (aI [.join 2 0 (aI [.ev (.aj 5 y0 y6),
 .aY (.ay 0 y9),
 .ev (.ld false 1 y2 (.ay 0 y9)),
 .ev (.aj 5 y1 y6),
 .aY (.ay 0 y11),
 .ev (.ld false 1 y2 (.ay 0 y11)),
 .ev (.bin .neq .int y10 y12),
 .chain true y13 (aI [.ev (.aj 5 y0 y6),
 .aY (.ay 1 y14),
 .ev (.ld false 1 y2 (.ay 1 y14)),
 .ev (.aj 5 y1 y6),
 .aY (.ay 1 y16),
 .ev (.ld false 1 y2 (.ay 1 y16)),
 .ev (.bin .neq .int y15 y17)]
 (.ret y18)),
 .chain true y14 (aI [.ev (.aj 5 y0 y6),
 .aY (.ay 2 y15),
 .ev (.ld false 1 y2 (.ay 2 y15)),
 .ev (.aj 5 y1 y6),
 .aY (.ay 2 y17),
 .ev (.ld false 1 y2 (.ay 2 y17)),
 .ev (.bin .neq .int y16 y18)]
 (.ret y19)),
 .chain true y15 (aI [.ev (.aj 5 y0 y6),
 .aY (.ay 3 y16),
 .ev (.ld false 1 y2 (.ay 3 y16)),
 .ev (.aj 5 y1 y6),
 .aY (.ay 3 y18),
 .ev (.ld false 1 y2 (.ay 3 y18)),
 .ev (.bin .neq .int y17 y19)]
 (.ret y20)),
 .chain true y16 (aI [.ev (.aj 5 y0 y6),
 .aY (.ay 4 y17),
 .ev (.ld false 1 y2 (.ay 4 y17)),
 .ev (.aj 5 y1 y6),
 .aY (.ay 4 y19),
 .ev (.ld false 1 y2 (.ay 4 y19)),
 .call 34 y2 [y18,y20] [true],
 .ev (.un .not y21)]
 (.ret y22))]
 (.ite y17 (.ret (.aa (kb false) (.aa y2 .ax))) (.jump 2 [] []))),
 .ev (.bin .add .int y6 (ki 1))]
 (.jump 1 [y9] [])) (.jump 0 [] []))))]
 (.ret (.aa (kb true) (.aa y2 .ax))))))
theorem au7:cm Tryz.prog 42 .plain (bE true [] [] Tryz.f42) [true,true] u42:=cm.plain Tryz.func42 (by kernel_rfl) (by kernel_rfl)

noncomputable def u14:U:=(aI [.aY (.bB 14 y0),
 .call 15 y2 [(fN 14 y0)] [true],
 .ev (.un .not y3),
 .chain true y4 (aI [.call 16 y2 [y1,(ki 6)] [true],
 .ev (.un .not y5)]
 (.ret y6))]
 (.ite y5 (aI [.call 17 y2 [] [true]]
 (.ret (.aa y6 (.aa y2 .ax)))) (aI [.call 41 y2 [(fN 14 y0),y1] [true,true],
 .call 20 y2 [(fN 14 y0)] [true],
 .ev (.un .not y7),
 .chain true y8 (aI [.call 24 y2 [(fN 14 y0),y1] [true],
 .ev (.un .not y9)]
 (.ret y10))]
 (.ite y9 (aI [.ev (.bin .eql .int (.az 1 y6) (ki 2)),
 .chain false y10 (aI [.aY (.az 0 y6),
 .ev (.aR (.az 0 y6)),
 .ev (.bin .eql .int y11 (ki 0))]
 (.ret y12)),
 .chain false y11 (aI [.call 39 y2 [(fN 14 y0),y1,(.const (.bq []))] [true],
 .ev (.un .not y12)]
 (.ret y13)),
 .chain false y12 (aI [.call 17 y2 [] [true]]
 (.ret y13))]
 (.ret (.aa y13 (.aa y2 .ax)))) (aI [.ev (.bin .eql .int (.az 1 y6) (ki 0)),
 .chain false y10 (aI [.aY (.az 0 y6),
 .call 43 y2 [(fN 14 y0),y1] [true],
 .call 42 y2 [(.az 0 y6),y11] [true]]
 (.ret y12)),
 .chain false y11 (aI [.aY (.az 0 y6),
 .call 39 y2 [(fN 14 y0),y1,(.az 0 y6)] [true]]
 (.ret y12)),
 .chain false y12 (aI [.call 39 y2 [(fN 14 y0),y1,(.const (.bq []))] [true]]
 (.ret y13)),
 .chain false y13 (aI [.call 17 y2 [] [true]]
 (.ret y14))]
 (.ret (.aa y14 (.aa y2 .ax))))))))
theorem au_:cm Tryz.prog 14 .plain (bE true [] [] Tryz.f14) [false,true] u14:=cm.plain Tryz.func14 (by kernel_rfl) (by kernel_rfl)
end

section
open Go.Proofs
set_option maxRecDepth 100000
set_option maxHeartbeats 4000000

attribute [local irreducible] gR fV dQ

variable {bs:List D} {p:aL} {l:List aS} {d:List Tal}

/-! ## lines aiY grow in a store of their own -/

def tS:List Tal→D
 | []=>.cq
 | _ :: r=>.sl r.length 0 (r.length+1)
def tB:List Tal→List D
 | []=>[]
 | x :: r=>List.replicate r.length (.bh [])++[.blk 76 5 ((x :: r).flatMap fun t=>t.d.cells)]

theorem tal_cells (t:Tal):t.d.cells.length=5:=rfl

theorem flat5 (rows:List Tal):(rows.flatMap fun t=>t.d.cells).length=rows.length*5:=by
 induction rows with
 | nil=>rfl
 | cons x r ih=>rw[List.flatMap_cons,List.length_append,ih,tal_cells,List.length_cons];omega

theorem t_apph {rows:List Tal}{t:Tal}(h:rows.length≤100000):D.fU 76 5 56 (.st (tB rows)) (tS rows) (.bq [t.d])=some (.st (tB (rows++[t]))):=by
 have hone:(cB [t.d]).all (·.one)=true:=rfl
 have hac:bK 5 [t.d]=true:=rfl
 cases rows with
 | nil=>
  simp only[tS,tB,D.fU,D.JN,hac,hone,List.cons_ne_nil,if_false,List.length_cons,List.length_nil]
  rw[if_pos (by refine⟨by omega,by decide,?_⟩;simp)]
  rfl
 | cons x r=>
  have hg:(tB (x :: r))[r.length]? = some (.blk 76 5 ((x :: r).flatMap fun t=>t.d.cells)):=by
   rw[tB,List.getElem?_append_right (by simp)]
   simp
  have hl:=flat5 (x :: r)
  simp only[List.length_cons] at h
  simp only[tS,D.fU,D.JN,D.gF,hg,Option.bind_some,hac,hone,List.cons_ne_nil,if_false,List.length_cons,List.length_nil]
  have hm:r.length+1+1≤maxLen:=Nat.le_trans (show r.length+1+1≤1000000000 by omega) (by decide)
  rw[if_pos (by refine⟨?_,?_,?_,?_,?_,?_,?_,?_⟩ <;> first | trivial | (simp only[List.length_cons] at hl;omega) | omega)]
  simp only[tB,List.cons_append,List.length_append,List.length_cons,List.length_nil,Nat.zero_add]
  rw[List.set_append_right _ _ (by simp)]
  simp[List.replicate_succ',cB]

theorem t_apps {rows:List Tal}{t:Tal}:D.apps (.st (tB rows)) (tS rows) (.bq [t.d])=some (tS (rows++[t])):=by
 cases rows with
 | nil=>rfl
 | cons x r=>
  simp only[tS,D.apps,D.cnt,List.length_cons,List.length_nil,List.length_append,List.cons_append]
  rw[if_neg (by omega)]
  simp[tB]

theorem t_melt {rows:List Tal}:bD (tB rows) 3 (tS rows)=some (abE rows):=by
 cases rows with
 | nil=>rfl
 | cons x r=>
  have hg:(tB (x :: r))[r.length]? = some (.blk 76 5 ((x :: r).flatMap fun t=>t.d.cells)):=by
   rw[tB,List.getElem?_append_right (by simp)]
   simp
  have hl:=flat5 (x :: r)
  rw[tS,bD]
  simp only[hg]
  rw[if_pos (by rw[hl];simp)]
  simp only[List.drop_zero]
  rw[show(r.length+1)*5=((x :: r).flatMap fun t=>t.d.cells).length by rw[hl];simp,List.take_length]
  have hm:∀rows:List Tal,dK (bD (tB (x :: r)) 2) (rows.flatMap fun t=>t.d.cells)=some (rows.flatMap fun t=>t.d.cells):=by
   intro rows
   have:=jj (enc:=id) (f:=bD (tB (x :: r)) 2) (l:=rows.flatMap fun t=>t.d.cells) fun a ha=>by
    obtain⟨t,_,ht⟩:=List.mem_flatMap.1 ha
    simp only[Tal.d,D.cells,List.mem_cons,List.not_mem_nil,or_false] at ht
    rcases ht with rfl | rfl | rfl | rfl | rfl
    ·rfl
    ·rfl
    ·rfl
    ·rfl
    ·exact oJ (n:=0)
   simpa using this
  rw[hm]
  simp only[Option.map_some]
  rw[if_neg (by decide)]
  have hc:=vw (enc:=fun t:Tal=>t.d.cells) (sz:=5) tal_cells (x :: r)
  rw[List.length_cons] at hc
  rw[hc,List.map_map]
  rfl

theorem ev_ret2 {env:List D}{x y:E}{dx dy:D}(hx:x.eval env=some dx)(hy:y.eval env=some dy):(E.aa x (E.aa y .ax)).eval env=some (.bh [dx,dy]):=by simp[E.eval,hx,hy,D.aa]

theorem c98 (hp:p.Ok)(hok:p.ok=true)(hc:br p l=true){rows:List Tal}(hL:rows.length≤100000){i aO:Nat}(hi:i<p.n)(cF:aO<l.length)(kd:Int):bk Tryz.prog 98 (.st (tB rows)) [p.d,dM l,tS rows,I kd,In aO,In i] (tS (rows++[rowR p l rows (kd,aO,i)])) (.st (tB (rows++[rowR p l rows (kd,aO,i)]))):=by
 have agk:∀a b c:Int,aP Tryz.prog 120 (.st (tB rows)) [tS rows,I a,I b,I c] (I (aaN rows (a,b,c))):=fun a b c=>
  zX (n:=3) (aoL (bs:=[]) hL a b c) (by simp only[dK,t_melt];rfl) (.v _)
 have VL:=arn (bs:=tB rows) hp hok hc hi cF (x:=⟨kd,aO,i,0,[]⟩) rfl rfl
 have ajY:=c121g (bs:=tB rows) agk hp hok hc hi cF (x:=⟨kd,aO,i,acK p l kd aO i,[]⟩) rfl rfl (by cases rows <;> rfl)
 have hfl:=aiR (d:=rows) (kd:=kd) hok hc hi cF
 unfold Tal.d at VL ajY
 simp only at VL ajY
 refine au3.W (by cases rows <;> rfl) ?_
 unfold u98
 simp only[aC,aG,List.cons_append,List.nil_append]
 have hrow:rowR p l rows (kd,aO,i)=⟨kd,aO,i,acK p l kd aO i,if kd=3∧1<(acy p l rows kd aO i).length then(acy p l rows kd aO i).take 1 else acy p l rows kd aO i⟩:=rfl
 rw[hrow]
 generalize acy p l rows kd aO i=F at *
 generalize okR p l rows kd aO i=q at *
 generalize acK p l kd aO i=v at *
 by_cases hb:kd=3∧1<F.length
 ·have ht:(kd==3&&decide ((F.length:Int) > 1))=true:=by simp[hb.1];omega
  have hs:D.sub 1 (Is F) (I 0) (I 1)=some (Is (F.take 1)):=by
   have:=ud (o:=F) (a:=0) (b:=1) (by omega) (by omega)
   rw[List.drop_zero] at this
   exact this
  have ha:=t_apph (rows:=rows) (t:=⟨kd,aO,i,v,F.take 1⟩) hL
  have ha2:=t_apps (rows:=rows) (t:=⟨kd,aO,i,v,F.take 1⟩)
  unfold Tal.d at ha ha2
  rw[if_pos hb]
  repeat' (first|(apply bp;simp only[ai];rfl)|(apply aH;rfl;exact ht)|(apply aN;rfl)|(apply sC;rfl;rfl;rfl;exact hs;simp only[ai];rfl)|(apply qN;rfl;rfl;rfl;exact ha;simp only[ai];rfl)|(apply ar;rfl;exact ak;simp only[ai];rfl)|(apply aD;rfl;simp only[ai];rfl)|(apply aF;rfl;rfl;(·first|exact ajY|exact VL);rfl;simp only[ai];rfl)|(apply bg;rfl)|refine au ?_|(apply av;rfl;rfl)|refine Qav ?_|refine kj rfl ?_|exact aq rfl rfl|(intro hz;(try simp only[bA] at hz)))
  refine aq (ev_ret2 (mN rfl rfl rfl ha2) rfl) ?_
  exact rfl
 ·have hf:(kd==3&&decide ((F.length:Int) > 1))=false:=by
   rw[Bool.eq_false_iff]
   intro h
   simp only[Bool.and_eq_true,beq_iff_eq,decide_eq_true_eq] at h
   exact hb ⟨h.1,by omega⟩
  have ha:=t_apph (rows:=rows) (t:=⟨kd,aO,i,v,F⟩) hL
  have ha2:=t_apps (rows:=rows) (t:=⟨kd,aO,i,v,F⟩)
  unfold Tal.d at ha ha2
  rw[if_neg hb]
  repeat' (first|(apply bp;simp only[ai];rfl)|(apply aK;rfl;exact hf)|(apply aN;rfl)|(apply qN;rfl;rfl;rfl;exact ha;simp only[ai];rfl)|(apply ar;rfl;exact ak;simp only[ai];rfl)|(apply aD;rfl;simp only[ai];rfl)|(apply aF;rfl;rfl;(·first|exact ajY|exact VL);rfl;simp only[ai];rfl)|(apply bg;rfl)|refine au ?_|(apply av;rfl;rfl)|refine Qav ?_|refine kj rfl ?_|exact aq rfl rfl|(intro hz;(try simp only[bA] at hz)))
  refine aq (ev_ret2 (mN rfl rfl rfl ha2) rfl) ?_
  exact rfl
end

section
variable {p:aL} {l:List aS}

def derR (p:aL)(l:List aS)(ks:List Key):List Tal:=ks.foldl (fun r k=>r++[rowR p l r k]) []

theorem derR_snoc (ks:List Key)(k:Key):derR p l (ks++[k])=derR p l ks++[rowR p l (derR p l ks) k]:=by
 unfold derR
 rw[List.foldl_append]
 rfl

theorem derR_len:∀ks:List Key,(derR p l ks).length=ks.length:=by
 have h:∀(n:Nat) (ks:List Key),ks.length=n→(derR p l ks).length=ks.length:=by
  intro n
  induction n with
  | zero=>
   intro ks h
   have:ks=[]:=List.length_eq_zero_iff.1 h
   subst this
   rfl
  | succ n ih=>
   intro ks h
   obtain⟨a,k,rfl⟩:∃a k,ks=a++[k]:=⟨ks.dropLast,ks.getLast (by intro e;simp[e] at h),(List.dropLast_concat_getLast _).symm⟩
   rw[derR_snoc,List.length_append,ih a (by simp at h;omega)]
   simp
 exact fun ks=>h _ ks rfl

def fL (t:Nat)(kd:Int):Bool:=(kd==1)==((t:Int)==0)
def rK (p:aL)(l:List aS)(i t c:Nat):List Key:=((aba p l c i).filter (fL t)).map fun kd=>(kd,(c:Int),(i:Int))
def rC (p:aL)(l:List aS)(i t c:Nat):List Key:=(List.range c).flatMap (rK p l i t)
def rL (p:aL)(l:List aS)(i t:Nat):List Key:=(List.range t).flatMap fun t=>rC p l i t l.length
def rI (p:aL)(l:List aS)(i:Nat):List Key:=(List.range i).flatMap fun i=>rL p l i 2
def seqR (p:aL)(l:List aS):List Key:=rI p l p.n++seqT l.length

theorem flat_succ {α:Type}{f:Nat→List α}{n:Nat}:(List.range (n+1)).flatMap f=(List.range n).flatMap f++f n:=by
 rw[List.range_succ,List.flatMap_append]
 simp

theorem flat_cong {α β:Type}{f g:α→List β}:∀{a:List α},(∀x,x∈a→f x=g x)→a.flatMap f=a.flatMap g
 | [],_=>rfl
 | x :: r,h=>by rw[List.flatMap_cons,List.flatMap_cons,h x (by simp),flat_cong fun y hy=>h y (by simp[hy])]

theorem map_flat {α β:Type}{f:α→β}:∀a:List α,a.map f=a.flatMap fun x=>[f x]
 | []=>rfl
 | x :: r=>by rw[List.map_cons,List.flatMap_cons,map_flat r];rfl

theorem want_filter {q:Int→Bool}{c i:Nat}(hok:p.ok=true)(hc:br p l=true)(hi:i<p.n)(cF:c<l.length):(aba p l c i).filter q=([1,2,3,4,5,6]:List Int).filter fun kd=>q kd&&(aaV p l kd c i).2:=by
 rw[←want_eq hok hc hi cF]
 unfold kTo
 rw[List.filter_filter]
 rfl

theorem isK_eq (kd:Int)(c i:Nat):isK p l (kd,(c:Int),(i:Int))=(aaV p l kd c i).2:=by
 unfold isK
 simp

theorem seqAt_filter (hok:p.ok=true)(hc:br p l=true){i:Nat}(hi:i<p.n):(seqAt l.length i).filter (isK p l)=rL p l i 2:=by
 have e2:rL p l i 2=rC p l i 0 l.length++rC p l i 1 l.length:=by
  unfold rL
  rw[show(2:Nat)=0+1+1 from rfl,flat_succ,flat_succ,List.range_zero,List.flatMap_nil,List.nil_append]
 rw[e2]
 unfold seqAt rC
 rw[List.filter_append,map_flat,List.filter_flatMap,List.filter_flatMap]
 congr 1
 ·refine flat_cong fun c GR=>?_
  have GR:=List.mem_range.1 GR
  unfold rK
  rw[want_filter hok hc hi GR]
  have e:([1,2,3,4,5,6]:List Int).filter (fun kd=>fL 0 kd&&(aaV p l kd c i).2)=if(aaV p l 1 c i).2=true then[1] else[]:=by
   simp[List.filter_cons,fL]
  rw[e,List.filter_cons,isK_eq]
  split <;> rfl
 ·refine flat_cong fun c GR=>?_
  have GR:=List.mem_range.1 GR
  unfold rK
  rw[want_filter hok hc hi GR,List.filter_map]
  have e:([1,2,3,4,5,6]:List Int).filter (fun kd=>fL 1 kd&&(aaV p l kd c i).2)=([2,3,4,5,6]:List Int).filter fun kd=>(aaV p l kd c i).2:=by
   simp[List.filter_cons,fL]
  rw[e]
  congr 1

theorem seq_eq (hok:p.ok=true)(hc:br p l=true):kseq p l=seqR p l:=by
 unfold kseq seqP seqR rI
 rw[List.filter_append,List.filter_flatMap]
 congr 1
 ·exact flat_cong fun i hi=>seqAt_filter hok hc (List.mem_range.1 hi)
 ·refine List.filter_eq_self.2 fun k hk=>?_
  obtain⟨c,h1,h2,h3,h4⟩:=seqT_mem.1 hk
  unfold isK aaV
  rw[if_pos h4,h3]
  rfl

theorem der_eq (hok:p.ok=true)(hc:br p l=true):∀{i:Nat},i≤(kseq p l).length→derR p l ((kseq p l).take i)=derTo p l ((kseq p l).take i)
 | 0,_=>rfl
 | i+1,h=>by
  have ih:=der_eq hok hc (i:=i) (by omega)
  have hi:i<(kseq p l).length:=by omega
  rw[List.take_add_one,List.getElem?_eq_getElem hi]
  simp only[Option.toList_some]
  rw[derR_snoc,derTo_snoc,ih,row_eq hok hc hi]

theorem der_full (hok:p.ok=true)(hc:br p l=true):derR p l (seqR p l)=derTo p l (kseq p l):=by
 have:=der_eq hok hc (i:=(kseq p l).length) (Nat.le_refl _)
 rw[List.take_length] at this
 rw[←seq_eq hok hc]
 exact this
end

section
open Go.Proofs
set_option maxRecDepth 100000
set_option maxHeartbeats 4000000

attribute [local irreducible] gR fV dQ

variable {bs:List D} {p:aL} {l:List aS}

theorem rK_len {i t c:Nat}:(rK p l i t c).length≤4:=by
 unfold rK
 rw[List.length_map]
 exact Nat.le_trans (List.length_filter_le ..) acZ

theorem rC_len {i t:Nat}:∀{c:Nat},(rC p l i t c).length≤4*c
 | 0=>by simp[rC]
 | c+1=>by
  have:=rC_len (i:=i) (t:=t) (c:=c)
  have:=rK_len (p:=p) (l:=l) (i:=i) (t:=t) (c:=c)
  unfold rC at *
  rw[flat_succ,List.length_append]
  omega

theorem rL_len (h6:l.length≤6){i:Nat}:∀{t:Nat},(rL p l i t).length≤24*t
 | 0=>by simp[rL]
 | t+1=>by
  have:=rL_len h6 (i:=i) (t:=t)
  have:=rC_len (p:=p) (l:=l) (i:=i) (t:=t) (c:=l.length)
  unfold rL at *
  rw[flat_succ,List.length_append]
  omega

theorem rI_len (h6:l.length≤6):∀{i:Nat},(rI p l i).length≤48*i
 | 0=>by simp[rI]
 | i+1=>by
  have:=rI_len h6 (i:=i)
  have:=rL_len (p:=p) h6 (i:=i) (t:=2)
  unfold rI at *
  rw[flat_succ,List.length_append]
  omega

abbrev oS (p:aL)(l:List aS)(ks:List Key):D:=tS (derR p l ks)
abbrev oB (p:aL)(l:List aS)(ks:List Key):D:=.st (tB (derR p l ks))

theorem tS_fit (rows:List Tal):(tS rows).fits [true]=true:=by cases rows <;> rfl

theorem seqT_take {c m:Nat}(h:c<m):(seqT m).take (c+1)=(seqT m).take c++[((7:Int),(c:Int),(0:Int))]:=by
 unfold seqT
 rw[List.take_add_one,List.getElem?_eq_getElem (by simpa using h)]
 simp

theorem c43w (hp:p.Ok)(hok:p.ok=true)(hc:br p l=true)(h6:l.length≤6)(h12:p.n≤12):bk Tryz.prog 43 (.st []) [p.d,dM l] (oS p l (seqR p l)) (oB p l (seqR p l)):=by
 have hh:=aL.gi hok
 refine au6.W rfl ?_
 unfold u43
 simp only[aC,aG,List.cons_append,List.nil_append]
 repeat' (((with_reducible apply aN);(·rfl)))
 refine x_ (fun ds=>ds=[oS p l (rI p l p.n),oB p l (rI p l p.n)]) ?_ ?_
 ·refine bf (fun i=>[oS p l (rI p l i),In i,oB p l (rI p l i)]) (fun _=>True) p.n rfl (fun _=>rfl) trivial (fun i hi _ R hR=>?_) (fun _ R=>?_)
  ·have gH:decide ((i:Int)<(p.n:Int))=true:=by simp;omega
   have hR:=hR trivial
   have hA:=rI_len (p:=p) h6 (i:=i)
   have eI:rI p l (i+1)=rI p l i++rL p l i 2:=flat_succ
   rw[eI] at hR
   generalize rI p l i=A at *
   repeat' (first|(apply bp;simp only[ai];rfl)|(apply aH;rfl;exact gH)|(apply ar;rfl;exact cT;simp only[ai];rfl)|(apply aD;rfl;simp only[ai];rfl)|refine au ?_)
   refine bf (fun t=>[oS p l (A++rL p l i t),In t,oB p l (A++rL p l i t)]) (fun _=>True) 2 (by simp only[rL,List.range_zero,List.flatMap_nil,List.append_nil];rfl) (fun _=>rfl) trivial (fun t ht _ R2 k_=>?_) (fun _ R2=>?_)
   ·have hlt:decide ((t:Int)<2)=true:=by simp;omega
    have k_:=k_ trivial
    have hB:=rL_len (p:=p) h6 (i:=i) (t:=t)
    have eL:rL p l i (t+1)=rL p l i t++rC p l i t l.length:=flat_succ
    rw[eL,←List.append_assoc] at k_
    have hAB:(A++rL p l i t).length≤700:=by rw[List.length_append];omega
    generalize A++rL p l i t=A2 at *
    repeat' (first|(apply bp;simp only[ai];rfl)|(apply aH;rfl;exact hlt)|(apply aD;rfl;simp only[ai];rfl)|refine au ?_)
    refine bf (fun c=>[oS p l (A2++rC p l i t c),In c,oB p l (A2++rC p l i t c)]) (fun _=>True) l.length (by simp only[rC,List.range_zero,List.flatMap_nil,List.append_nil];rfl) (fun _=>rfl) trivial (fun c dG _ R3 hR3=>?_) (fun _ R3=>?_)
    ·have hlc:decide ((c:Int)<(l.length:Int))=true:=by simp;omega
     have hR3:=hR3 trivial
     have hC:=rC_len (p:=p) (l:=l) (i:=i) (t:=t) (c:=c)
     have eC:rC p l i t (c+1)=rC p l i t c++rK p l i t c:=flat_succ
     rw[eC,←List.append_assoc] at hR3
     have hABC:(A2++rC p l i t c).length≤800:=by rw[List.length_append];omega
     generalize A2++rC p l i t c=A3 at *
     have h97:=c97 (bs:=tB (derR p l A3)) hp hok hc hi dG
     have hwl:=acZ (p:=p) (l:=l) (aO:=c) (i:=i)
     unfold rK at hR3
     generalize aba p l c i=W at *
     repeat' (first|(apply bp;simp only[ai];rfl)|(apply aH;rfl;exact hlc)|(apply ar;rfl;exact ak;simp only[ai];rfl)|(apply aD;rfl;simp only[ai];rfl)|(apply aF;rfl;rfl;exact h97;rfl;simp only[ai];rfl)|refine au ?_)
     refine bf (fun j=>[oS p l (A3++((W.take j).filter (fL t)).map fun kd=>(kd,(c:Int),(i:Int))),In j,oB p l (A3++((W.take j).filter (fL t)).map fun kd=>(kd,(c:Int),(i:Int)))]) (fun _=>True) W.length (by simp only[List.take_zero,List.filter_nil,List.map_nil,List.append_nil];rfl) (fun _=>rfl) trivial (fun j hj _ R4 hR4=>?_) (fun _ R4=>?_)
     ·have hlj:decide ((j:Int)<(W.length:Int))=true:=by simp;omega
      have hR4:=hR4 trivial
      rw[abI hj,List.filter_append,List.map_append,←List.append_assoc] at hR4
      have hfl:(A3++((W.take j).filter (fL t)).map fun kd=>(kd,(c:Int),(i:Int))).length≤900:=by
       rw[List.length_append,List.length_map]
       have:=List.length_filter_le (fL t) (W.take j)
       simp only[List.length_take] at this
       omega
      generalize(A3++((W.take j).filter (fL t)).map fun kd=>(kd,(c:Int),(i:Int)))=A4 at *
      have h98:=c98 hp hok hc (rows:=derR p l A4) (by rw[derR_len];omega) hi dG (W.getD j 0)
      rw[←derR_snoc] at h98
      have hgd:=iK hj
      generalize W.getD j 0=kd at *
      cases hq:fL t kd
      ·have hf:((kd==1)==((t:Int)==0))=false:=hq
       rw[List.filter_cons,hq] at hR4
       simp only[Bool.false_eq_true,if_false,List.filter_nil,List.map_nil,List.append_nil] at hR4
       repeat' (first|(apply bp;simp only[ai];rfl)|(apply aH;rfl;exact hlj)|(apply aK;rfl;exact hf)|(apply aA;rfl;rfl;exact hgd;simp only[ai];rfl)|(apply ar;rfl;exact ak;simp only[ai];rfl)|(apply aW;rfl;omega;simp only[ai];rfl)|(apply aD;rfl;simp only[ai];rfl)|refine au ?_|(apply av;rfl;rfl)|refine Qav ?_|refine kj rfl ?_)
       exact hR4
      ·have ht2:((kd==1)==((t:Int)==0))=true:=hq
       rw[List.filter_cons,hq] at hR4
       simp only[if_true,List.filter_nil,List.map_cons,List.map_nil] at hR4
       repeat' (first|(apply bp;simp only[ai];rfl)|(apply aH;rfl;(·first|exact hlj|exact ht2))|(apply aA;rfl;rfl;exact hgd;simp only[ai];rfl)|(apply ar;rfl;exact ak;simp only[ai];rfl)|(apply aW;rfl;omega;simp only[ai];rfl)|(apply aD;rfl;simp only[ai];rfl)|(apply eZ;rfl;rfl;exact h98;exact tS_fit _;simp only[ai];rfl)|refine au ?_|(apply av;rfl;rfl)|refine Qav ?_|refine kj rfl ?_)
       exact hR4
     ·have hlf:decide ((W.length:Int)<(W.length:Int))=false:=by simp
      rw[List.take_length]
      repeat' (first|(apply bp;simp only[ai];rfl)|(apply aK;rfl;exact hlf)|(apply ar;rfl;exact ak;simp only[ai];rfl)|(apply aW;rfl;omega;simp only[ai];rfl)|(apply aD;rfl;simp only[ai];rfl)|(apply av;rfl;rfl)|refine Qav ?_|(refine aB (by decide) ?_)|refine kj rfl ?_)
      exact hR3
    ·have hlf:decide ((l.length:Int)<(l.length:Int))=false:=by simp
     repeat' (first|(apply bp;simp only[ai];rfl)|(apply aK;rfl;exact hlf)|(apply ar;rfl;exact ak;simp only[ai];rfl)|(apply aW;rfl;omega;simp only[ai];rfl)|(apply aD;rfl;simp only[ai];rfl)|(apply av;rfl;rfl)|refine Qav ?_|(refine aB (by decide) ?_)|refine kj rfl ?_)
     exact k_
   ·have hlf:decide (((2:Nat):Int)<2)=false:=by decide
    repeat' (first|(apply bp;simp only[ai];rfl)|(apply aK;rfl;exact hlf)|(apply aW;rfl;omega;simp only[ai];rfl)|(apply aD;rfl;simp only[ai];rfl)|(apply av;rfl;rfl)|refine Qav ?_|(refine aB (by decide) ?_)|refine kj rfl ?_)
    exact hR
  ·have hlf:decide ((p.n:Int)<(p.n:Int))=false:=by simp
   repeat' (first|(apply bp;simp only[ai];rfl)|(apply aK;rfl;exact hlf)|(apply ar;rfl;exact cT;simp only[ai];rfl)|(apply aD;rfl;simp only[ai];rfl)|(apply av;rfl;rfl)|refine Qav ?_|(refine aB (by decide) ?_))
   exact rfl
 rintro _ rfl
 refine⟨rfl,?_⟩
 have hA:=rI_len (p:=p) h6 (i:=p.n)
 have eT:seqR p l=rI p l p.n++(seqT l.length).take l.length:=by
  rw[List.take_of_length_le (by simp[seqT])]
  rfl
 rw[eT]
 generalize rI p l p.n=A at *
 repeat' ((with_reducible refine au ?_))
 refine bf (fun c=>[oS p l (A++(seqT l.length).take c),In c,oB p l (A++(seqT l.length).take c)]) (fun _=>True) l.length (by simp only[List.take_zero,List.append_nil];rfl) (fun _=>rfl) trivial (fun c dG _ R hR=>?_) (fun _ R=>?_)
 ·have hlc:decide ((c:Int)<(l.length:Int))=true:=by simp;omega
  have hR:=hR trivial
  rw[seqT_take dG,←List.append_assoc] at hR
  have uY:(A++(seqT l.length).take c).length≤900:=by
   rw[List.length_append,List.length_take]
   omega
  generalize A++(seqT l.length).take c=A2 at *
  have h98:=c98 hp hok hc (rows:=derR p l A2) (by rw[derR_len];omega) (i:=0) (by omega) dG 7
  rw[←derR_snoc] at h98
  repeat' (first|(apply bp;simp only[ai];rfl)|(apply aH;rfl;exact hlc)|(apply ar;rfl;exact ak;simp only[ai];rfl)|(apply aW;rfl;omega;simp only[ai];rfl)|(apply aD;rfl;simp only[ai];rfl)|(apply eZ;rfl;rfl;exact h98;exact tS_fit _;simp only[ai];rfl)|refine au ?_|(apply av;rfl;rfl)|refine Qav ?_|refine kj rfl ?_)
  exact hR
 ·have hlf:decide ((l.length:Int)<(l.length:Int))=false:=by simp
  repeat' (first|(apply bp;simp only[ai];rfl)|(apply aK;rfl;exact hlf)|(apply ar;rfl;exact ak;simp only[ai];rfl)|(apply aD;rfl;simp only[ai];rfl)|(apply av;rfl;rfl)|refine Qav ?_|(refine aB (by decide) ?_)|refine kj rfl ?_|exact aq rfl rfl)

theorem c43 (hp:p.Ok)(hok:p.ok=true)(hc:br p l=true)(h6:l.length≤6)(h12:p.n≤12):aP Tryz.prog 43 (.st bs) [p.d,dM l] (abE (derTo p l (kseq p l))):=by
 have h:=c43w hp hok hc h6 h12
 rw[←der_full hok hc]
 have h2:(dM l).iw=true:=tC l
 exact h.bD (n:=3) (by unfold eG eG eG;rw[aiZ,h2];rfl) t_melt bs
end

section
open Go.Proofs
set_option maxRecDepth 100000
set_option maxHeartbeats 4000000

attribute [local irreducible] gR fV dQ

variable {bs:List D} {p:aL} {l:List aS}

/-! ## the map of places -/

def entI:List Key→Nat→List D
 | [],_=>[]
 | k :: r,n=>.bh [kyD k,In n] :: entI r (n+1)

theorem mfind_entI (k:Key):∀(ks:List Key) (n m:Nat),D.Kx MK (kyD k) (entI ks m) n=some (if k∈ks then some (n+ks.idxOf k,In (m+ks.idxOf k)) else none)
 | [],n,m=>by simp[entI,D.Kx]
 | a :: r,n,m=>by
  have ih:=mfind_entI k r (n+1) (m+1)
  rw[entI,D.Kx,key_eq]
  by_cases h:k=a
  ·subst h
   simp
  ·have h1:(k==a)=false:=by simpa using h
   have h2:(a==k)=false:=by simpa using fun e=>h e.symm
   simp only[h1]
   rw[ih]
   by_cases hm:k∈r
   ·have:List.idxOf k (a :: r)=r.idxOf k+1:=by
     rw[List.idxOf_cons,h2]
     rfl
    rw[if_pos hm,if_pos (List.mem_cons_of_mem _ hm),this,show n+1+r.idxOf k=n+(r.idxOf k+1) by omega,show m+1+r.idxOf k=m+(r.idxOf k+1) by omega]
   ·rw[if_neg hm,if_neg (by simp[h,hm])]

theorem mlook_entI (k:Key)(ks:List Key):D.uD MK (kyD k) (entI ks 0)=some (if k∈ks then some (ks.idxOf k,In (ks.idxOf k)) else none):=by
 unfold D.uD
 rw[if_pos (show D.P9 MK (kyD k)=true from rfl),mfind_entI,Nat.zero_add]

theorem kept_entI (ks:List Key)(n:Nat):D.kept (entI ks n)=entI ks n:=by
 cases ks <;> rfl

theorem entI_snoc (k:Key):∀(ks:List Key) (n:Nat),entI (ks++[k]) n=entI ks n++[.bh [kyD k,In (n+ks.length)]]
 | [],n=>rfl
 | a :: r,n=>by
  rw[List.cons_append,entI,entI,entI_snoc k r (n+1),List.cons_append,List.length_cons,show n+1+r.length=n+(r.length+1) by omega]

theorem idx_min {k:Key}:∀(l:List Key) (j:Nat) (h:j<l.length),j<l.idxOf k→l[j]≠k
 | a :: r,0,_,hj=>by
  intro e
  have e:a=k:=e
  subst e
  simp at hj
 | a :: r,j+1,h,hj=>by
  have h2:(a==k)=false:=by
   rw[beq_eq_false_iff_ne]
   intro e
   subst e
   simp at hj
  rw[List.idxOf_cons,h2] at hj
  exact idx_min r j (by simpa using h) (by simpa using hj)

theorem plc_idx {rows:List Tal}(k:Key):plcT rows k=if k∈rows.map Tal.key then(((rows.map Tal.key).idxOf k:Nat):Int) else 0:=by
 unfold plcT
 by_cases h:k∈rows.map Tal.key
 ·rw[if_pos h,if_pos (find_mem h)]
  have hi:=List.idxOf_lt_length_of_mem h
  have hg:∀{a:Nat} (h:a<rows.length),(rows.map Tal.key)[a]'(by simpa using h)=(tl rows a).key:=fun {a} h=>by
   rw[List.getElem_map]
   unfold tl
   rw[List.getD_eq_getElem?_getD,List.getElem?_eq_getElem h]
   rfl
  have hi':(rows.map Tal.key).idxOf k<rows.length:=by simpa using hi
  refine I3 hi' ?_ fun j hj=>?_
  ·rw[←hg hi',List.getElem_idxOf hi]
   simp
  ·rw[←hg (by omega),beq_eq_false_iff_ne]
   exact idx_min _ j (by simp;omega) hj
 ·rw[if_neg h,if_neg]
  intro h0
  obtain⟨a,h1,_,h3⟩:=agp h0
  refine h (List.mem_map.2 ⟨tl rows a,?_,h3⟩)
  unfold tl
  rw[List.getD_eq_getElem?_getD,List.getElem?_eq_getElem h1]
  exact List.getElem_mem h1

theorem get_entI {rows:List Tal}{k:Key}(h:bs[2]? = some (.iE (entI (rows.map Tal.key) 0))):D.m4 (.get MK false) (.st bs) (.mp 2) (kyD k) (I 0)=some (I (plcT rows k)):=by
 rw[plc_idx]
 simp only[D.m4,D.entries,h,kept_entI,Option.bind_some,mlook_entI]
 by_cases hm:k∈rows.map Tal.key
 ·simp[hm,D.one]
 ·simp[hm,D.one]

theorem put_entI {rows:List Tal}{k:Key}(h:bs[2]? = some (.iE (entI (rows.map Tal.key) 0)))(hm:k∉rows.map Tal.key):D.m4 (.put MK) (.st bs) (.mp 2) (kyD k) (I rows.length)=some (.st (bs.set 2 (.iE (entI (rows.map Tal.key++[k]) 0)))):=by
 have h1:=mlook_entI k (rows.map Tal.key)
 rw[if_neg hm] at h1
 simp only[D.m4,D.Ul,h,h1,Option.map_some]
 rw[entI_snoc,Nat.zero_add,List.length_map]

/-! ## the store -/

def encR (x:Tal×D):List D:=[I x.1.kind,I x.1.aO,I x.1.item,I x.1.val,x.2]

def FrmAt (bs:List D)(f:D)(F:List Int):Prop:=(F=[]∧f=.cq)∨∃b,4≤b∧f=.sl b 0 F.length∧bs[b]? = some (.blk 3 1 (F.map I))

structure DInv (p:aL)(l:List aS)(bs:List D)(rows:List Tal):Prop where
 b0:bs[0]? = some (.blk 90 1 [iW p l])
 b2:bs[2]? = some (.iE (entI (rows.map Tal.key) 0))
 b3:bs[3]? = some (.blk 115 1 [.mp 2])
 out:∃(s:D) (pr:List (Tal×D)),bs[1]? = some (.blk 73 1 [s])∧pr.map Prod.fst=rows∧o5 bs 76 5 encR s pr∧(∀b,s.SX=some b→4≤b)∧∀x,x∈pr→FrmAt bs x.2 x.1.frm

theorem DInv.len {rows:List Tal}(h:DInv p l bs rows):4≤bs.length:=by
 have:=(List.getElem?_eq_some_iff.1 h.b3).1
 omega

theorem gB_sort {xs:List Int}(h:xs≠[]):(gB bs xs).set (bs.length+(xs.length-1)) (.blk 3 1 ((lp xs).map I))=gB bs (lp xs):=by
 have hl:=kH xs
 cases xs with
 | nil=>exact absurd rfl h
 | cons x r=>
  cases hs:lp (x :: r) with
  | nil=>rw[hs] at hl;simp at hl
  | cons y q=>
   rw[hs] at hl
   simp only[List.length_cons,Nat.add_right_cancel_iff] at hl
   simp only[gB,List.length_cons,Nat.add_sub_cancel,hl]
   rw[List.set_append_right _ _ (by omega),List.set_append_right _ _ (by simp)]
   simp

theorem c96g {xs:List Int}(hL:xs.length≤1000):bk Tryz.prog 96 (.st (gB bs xs)) [gS bs.length xs] (.bh []) (.st (gB bs (lp xs))):=by
 by_cases hx:xs=[]
 ·subst hx
  rw[show lp []=[] by simp[lp]]
  exact jy.adM fun p cap w=>(Tryz.slices_Sort_int_none p cap w).mono fun e w' h=>⟨h.1,0,by rw[h.2];rfl⟩
 ·have hg:=Ez (b0:=bs) hx
  have h:bk Tryz.prog 96 (.st (gB bs xs)) [.sl (bs.length+(xs.length-1)) 0 xs.length] (.bh []) (.st ((gB bs xs).set (bs.length+(xs.length-1)) (.blk 3 1 ((lp xs).map I)))):=jy.adL (P:=Tryz.prog) (f:=96) (fun blk off cap zs w h1 h2 h3=>Tryz.slices_Sort_int blk off cap zs w h1 h2 h3) (xs:=xs) hg (by omega)
  rw[gB_sort hx] at h
  rw[tc hx]
  exact h

theorem sub_ky {Q:List Key}{n:Nat}(h:n≤Q.length):D.sub 3 (Kys Q) (I 0) (In n)=some (Kys (Q.take n)):=by
 simp only[D.sub]
 rw[if_pos ⟨by omega,by omega,by simp;omega,by simp only[bK,List.all_map,List.all_eq_true];exact fun _ _=>rfl⟩,show((n:Int)-0).toNat=n by omega]
 show some (D.bq _)=some (D.bq (List.map kyD _))
 rw[List.map_take]
 rfl

theorem sub_ky1 (Q:List Key):D.sub 3 (Kys Q) (I 0) (I (if(Q.length:Int)<1 then(Q.length:Int) else 1))=some (Kys (Q.take 1)):=by
 cases Q with
 | nil=>exact sub_ky (Q:=[]) (n:=0) (Nat.le_refl _)
 | cons a r=>
  rw[if_neg (by simp;omega)]
  exact sub_ky (Q:=a :: r) (n:=1) (by simp)

theorem c93_no (hp:p.Ok)(hok:p.ok=true)(hc:br p l=true){rows:List Tal}(hI:DInv p l bs rows){i aO:Nat}(hi:i<p.n)(cF:aO<l.length){kd:Int}(hk:(aaV p l kd aO i).2=false):bk Tryz.prog 93 (.st bs) [kyD (kd,aO,i),.loc 0 0,.loc 3 0,.loc 1 0] (.bh []) (.st bs):=by
 have h94:=c94 (bs:=bs) hp hok hc hi cF kd
 rw[hk] at h94
 have hl0:D.ld false 1 (.st bs) (.loc 0 0)=some (iW p l):=gX hI.b0 rfl
 unfold kyD at *
 simp only at *
 refine au4.W rfl ?_
 unfold u93
 simp only[aC,aG,List.cons_append,List.nil_append]
 repeat' (first|(apply aH;rfl;exact rfl)|(apply aN;rfl)|(apply jI;rfl;rfl;exact hl0;simp only[ai];rfl)|(apply aD;rfl;simp only[ai];rfl)|(apply aF;rfl;rfl;exact h94;rfl;simp only[ai];rfl)|exact aq rfl rfl)

theorem frmAt_keep {bs':List D}{f:D}{F:List Int}(h:FrmAt bs f F)(hk:∀b,4≤b→bs[b]? = some (.blk 3 1 (F.map I))→bs'[b]? = bs[b]?):FrmAt bs' f F:=by
 rcases h with h | ⟨b,h1,h2,h3⟩
 ·exact .inl h
 ·exact .inr ⟨b,h1,h2,(hk b h1 h3).trans h3⟩

theorem e_row {env:List D}{x y:E}{a b c v:Int}{m:Nat}{xs:List Int}{z:D}(hx:x.eval env=some (.agg [I a,I b,I c,I v,z]))(hy:y.eval env=some (gS m xs)) :
  (E.bz (.bB 5 (.cons (.cell 0 x) (.cons (.cell 1 x) (.cons (.cell 2 x) (.cons (.cell 3 x) (.cons y .nil)))))) (.const (.bq []))).eval env=some (.bq [.agg [I a,I b,I c,I v,gS m xs]]):=by
 simp only[E.eval,hx,hy,Option.bind_some]
 cases xs <;> rfl

theorem c93_yes (hp:p.Ok)(hok:p.ok=true)(hc:br p l=true){rows:List Tal}(hI:DInv p l bs rows){i aO:Nat}(hi:i<p.n)(cF:aO<l.length){kd:Int}(hk:(aaV p l kd aO i).2=true)(hnew:(kd,(aO:Int),(i:Int))∉rows.map Tal.key)(hR:rows.length≤1000) :
  ∃bs',bk Tryz.prog 93 (.st bs) [kyD (kd,aO,i),.loc 0 0,.loc 3 0,.loc 1 0] (.bh []) (.st bs')∧DInv p l bs' (rows++[rowP p l rows (kd,aO,i)]):=by
 obtain⟨s,pr,MA,hpr,WZ,hsid,hfr⟩:=hI.out
 have hlen:=hI.len
 have BF:=ais (kd:=kd) (aO:=aO) hok hc hi
 have hQ:fstP p l (kd,(aO:Int),(i:Int))=if kd=3 then(aa4 p l kd aO i).take 1 else aa4 p l kd aO i:=rfl
 have hv:vK p l (kd,(aO:Int),(i:Int))=(aaV p l kd aO i).1:=rfl
 have hrow:rowP p l rows (kd,(aO:Int),(i:Int))=⟨kd,aO,i,(aaV p l kd aO i).1,lp ((fstP p l (kd,(aO:Int),(i:Int))).map (plcT rows))⟩:=rfl
 rw[hrow]
 have h94:=c94 (bs:=bs) hp hok hc hi cF kd
 have h95:=c95 (bs:=bs) hp hok hc hi cF kd
 rw[hk] at h94
 generalize aa4 p l kd aO i=P at *
 generalize(aaV p l kd aO i).1=v at *
 have hQl:(fstP p l (kd,(aO:Int),(i:Int))).length≤400:=by
  rw[hQ]
  split
  ·rw[List.length_take];omega
  ·exact BF
 generalize fstP p l (kd,(aO:Int),(i:Int))=Q at *
 have hl0:D.ld false 1 (.st bs) (.loc 0 0)=some (iW p l):=gX hI.b0 rfl
 have low:∀{xs:List Int} {k:Nat},k<bs.length→(gB bs xs)[k]? = bs[k]?:=fun h=>Ey h
 have hgl:∀xs:List Int,(gB bs xs).length=bs.length+xs.length:=fun xs=>abP
 have hl3:∀xs:List Int,D.ld false 1 (.st (gB bs xs)) (.loc 3 0)=some (.mp 2):=fun xs=>gX ((low (by omega)).trans hI.b3) rfl
 have W0:∀xs:List Int,D.ld false 1 (.st (gB bs xs)) (.loc 1 0)=some s:=fun xs=>gX ((low (by omega)).trans MA) rfl
 have hm2:∀xs:List Int,(gB bs xs)[2]? = some (.iE (entI (rows.map Tal.key) 0)):=fun xs=>(low (by omega)).trans hI.b2
 have hslt:∀o,s.SX=some o→4≤o∧o<bs.length∧bs[o]? = some (.blk 76 5 (pr.flatMap encR)):=by
  intro o ho
  rcases WZ with⟨rfl,rfl⟩ | ⟨o',rfl,h⟩
  ·cases ho
  ·cases ho
   exact⟨hsid _ rfl,(List.getElem?_eq_some_iff.1 h).1,h⟩
 have hprl:pr.length=rows.length:=by rw[←hpr];simp
 generalize hxs:Q.map (plcT rows)=xs
 have su:xs.length≤400:=by rw[←hxs];simpa using hQl
 have h96:=c96g (bs:=bs) (xs:=xs) (by omega)
 have hput:=put_entI (k:=(kd,(aO:Int),(i:Int))) (hm2 (lp xs)) hnew
 generalize hB2:(gB bs (lp xs)).set 2 (.iE (entI (rows.map Tal.key++[(kd,(aO:Int),(i:Int))]) 0))=B2 at hput
 have hB2l:B2.length=bs.length+xs.length:=by rw[←hB2,List.length_set,hgl,kH]
 have hB2k:∀{k:Nat},k≠2→B2[k]? = (gB bs (lp xs))[k]?:=fun h=>by rw[←hB2,List.getElem?_set_ne (fun e=>h e.symm)]
 have hso2:o5 B2 76 5 encR s pr:=by
  rcases WZ with h | ⟨o,rfl,h⟩
  ·exact .inl h
  ·have:=hslt o rfl
   exact .inr ⟨o,rfl,by rw[hB2k (by omega),low this.2.1];exact h⟩
 have hone:(encR (⟨kd,aO,i,v,lp xs⟩,gS bs.length xs)).all (·.one)=true:=by
  simp only[encR,List.all_cons,abM,List.all_nil,Bool.and_true]
  rfl
 obtain⟨ia,a1,a2,a3,a4,a5⟩:=hso2.append (bytes:=56) (x:=(⟨kd,aO,i,v,lp xs⟩,gS bs.length xs)) (y:=.agg [I kd,In aO,In i,I v,gS bs.length xs]) (fun _=>rfl) rfl hone (by omega) (Nat.le_trans (show pr.length+1≤1000000000 by omega) (by decide))
 have hl1':D.ld false 1 (.st B2) (.loc 1 0)=some s:=gX (by rw[hB2k (by omega),low (by omega)];exact MA) rfl
 have hb11:ia[1]? = some (.blk 73 1 [s]):=by
  rw[a5 1 (by omega) (fun e=>by have:=(hslt 1 e).1;omega),hB2k (by omega),low (by omega)]
  exact MA
 have IK:=mr (d:=.sl B2.length 0 (pr.length+1)) hb11 (k:=0) (by simp) rfl
 refine⟨ia.set 1 (.blk 73 1 ([s].set 0 (.sl B2.length 0 (pr.length+1)))),?_,?_⟩
 ·have hlen2:=WZ.len
  rw[hprl] at hlen2
  refine au4.W rfl ?_
  unfold u93
  unfold kyD at *
  simp only at *
  simp only[aC,aG,List.cons_append,List.nil_append]
  repeat' (first|(apply aK;rfl;exact rfl)|(apply aN;rfl)|(apply jI;rfl;rfl;exact hl0;simp only[ai];rfl)|(apply aD;rfl;simp only[ai];rfl)|(apply aF;rfl;rfl;(·first|exact h94|exact h95);rfl;simp only[ai];rfl))
  refine x_ (fun ds=>ds=[Kys Q]) ?_ ?_
  ·by_cases k3:kd=3
   ·have ht:(kd==3)=true:=by simp[k3]
    rw[if_pos k3] at hQ
    rw[hQ]
    repeat' (first|(apply aH;rfl;exact ht)|(apply sC;rfl;rfl;rfl;exact sub_ky1 P;simp only[ai];rfl)|(apply ar;rfl;exact ak;simp only[ai];rfl)|(apply aD;rfl;simp only[ai];rfl)|(apply av;rfl;rfl)|refine Qav ?_)
    exact rfl
   ·have hf:(kd==3)=false:=by simp[k3]
    rw[if_neg k3] at hQ
    rw[hQ]
    repeat' (first|(apply aK;rfl;exact hf)|(apply av;rfl;rfl)|refine Qav ?_)
    exact rfl
  rintro _ rfl
  refine⟨rfl,?_⟩
  repeat' (((with_reducible apply ar);(·rfl);(·exact ak);(·simp only[ai];rfl)))
  refine x_ (fun ds=>ds=[gS bs.length xs,.st (gB bs xs)]) ?_ ?_
  ·refine bf (fun j=>[In j,gS bs.length (xs.take j),.st (gB bs (xs.take j))]) (fun _=>True) Q.length rfl (fun _=>rfl) trivial (fun j hj _ R hR=>?_) (fun _ R=>?_)
   ·have hlj:decide ((j:Int)<(Q.length:Int))=true:=by simp;omega
    have hR:=hR trivial
    have hjx:j<xs.length:=by rw[←hxs];simpa using hj
    have hxj:xs.getD j 0=plcT rows Q[j]:=by
     rw[←hxs]
     simp[List.getD,hj]
    rw[abI hjx,hxj] at hR
    have IS:D.aj 3 (Kys Q) (In j)=some (.ptr (kyD Q[j]).cells):=b_ hj rfl
    have hl33:=hl3 (xs.take j)
    have hge:=get_entI (k:=Q[j]) (hm2 (xs.take j))
    have hal:(xs.take j).length+1≤1000000000:=by simp;omega
    generalize xs.take j=ys at *
    generalize plcT rows Q[j]=w at *
    have ha1:=I1 (b0:=bs) (xs:=ys) (x:=w) hal
    have ha2:=IZ (b0:=bs) (xs:=ys) (x:=w)
    unfold kyD at IS hge
    repeat' (first|(apply bp;simp only[ai];rfl)|(apply aH;rfl;exact hlj)|(apply aN;rfl)|(apply jI;rfl;rfl;exact hl33;simp only[ai];rfl)|(apply aA;rfl;rfl;exact IS;simp only[ai];rfl)|(apply qN;rfl;rfl;rfl;exact ha1;simp only[ai];rfl)|(apply Xg;rfl;rfl;rfl;rfl;exact hge;simp only[ai];rfl)|(apply aD;rfl;simp only[ai];rfl)|refine au ?_)
    refine av (xY rfl (xY (mN rfl rfl rfl ha2) (xY rfl (xY rfl (xY rfl V0))))) (xY (mN rfl rfl rfl ha2) (xY rfl V0)) ?_
    repeat' (first|(apply bp;simp only[ai];rfl)|(apply aW;rfl;omega;simp only[ai];rfl)|(apply av;rfl;rfl)|refine Qav ?_|refine kj rfl ?_)
    exact hR
   ·have hlf:decide ((Q.length:Int)<(Q.length:Int))=false:=by simp
    have hQx:Q.length=xs.length:=by rw[←hxs];simp
    rw[show xs.take Q.length=xs by rw[hQx,List.take_length]]
    repeat' (first|(apply bp;simp only[ai];rfl)|(apply aK;rfl;exact hlf)|(apply aD;rfl;simp only[ai];rfl)|(apply av;rfl;rfl)|refine Qav ?_|(refine aB (by decide) ?_))
    exact rfl
  rintro _ rfl
  refine⟨rfl,?_⟩
  have hl31:=hl3 (lp xs)
  have hl11:=W0 (lp xs)
  repeat' (first|(apply zZ;rfl;rfl;rfl;rfl;rfl;exact a2;exact IK;simp only[ai];rfl)|(apply jI;rfl;rfl;(·first|exact hl31|exact hl11|exact hl1');simp only[ai];rfl)|(apply ar;rfl;exact hlen2;simp only[ai];rfl)|(apply qN;rfl;rfl;rfl;exact a1;simp only[ai];rfl)|(apply Xg;rfl;rfl;rfl;rfl;exact hput;simp only[ai];rfl)|(apply aD;exact e_row rfl rfl;simp only[ai];rfl)|(apply eZ;rfl;rfl;exact h96;rfl;simp only[ai];rfl)|exact aq rfl rfl)
 ·have kY:∀{k:Nat},k≠1→(ia.set 1 (.blk 73 1 ([s].set 0 (.sl B2.length 0 (pr.length+1)))))[k]? = ia[k]?:=fun h=>List.getElem?_set_ne fun e=>h e.symm
  have hkeep:∀{k:Nat},k<B2.length→k≠1→s.SX≠some k→(ia.set 1 (.blk 73 1 ([s].set 0 (.sl B2.length 0 (pr.length+1)))))[k]? = B2[k]?:=fun h1 h2 h3=>(kY h2).trans (a5 _ h1 h3)
  refine⟨?_,?_,?_,?_⟩
  ·rw[hkeep (by omega) (by omega) (fun e=>by have:=(hslt 0 e).1;omega),hB2k (by omega),low (by omega)]
   exact hI.b0
  ·rw[hkeep (by omega) (by omega) (fun e=>by have:=(hslt 2 e).1;omega),←hB2,List.map_append]
   exact XG (by rw[hgl];omega)
  ·rw[hkeep (by omega) (by omega) (fun e=>by have:=(hslt 3 e).1;omega),hB2k (by omega),low (by omega)]
   exact hI.b3
  ·refine⟨.sl B2.length 0 (pr.length+1),pr++[(⟨kd,aO,i,v,lp xs⟩,gS bs.length xs)],?_,?_,?_,?_,?_⟩
   ·exact XG (by omega)
   ·rw[List.map_append,hpr]
    rfl
   ·refine .inr ⟨B2.length,by simp,?_⟩
    rw[kY (by omega)]
    exact a3
   ·intro b hb
    cases hb
    omega
   ·intro x hx
    rcases List.mem_append.1 hx with hx | hx
    ·refine frmAt_keep (hfr x hx) fun b h4 hb=>?_
     have q_:b<bs.length:=(List.getElem?_eq_some_iff.1 hb).1
     rw[hkeep (by omega) (by omega) (fun e=>by have:=(hslt b e).2.2;rw[hb] at this;cases this),hB2k (by omega),low q_]
    ·obtain rfl:=List.mem_singleton.1 hx
     by_cases hx0:xs=[]
     ·subst hx0
      exact .inl ⟨by simp[lp],rfl⟩
     ·have hsx:lp xs≠[]:=fun e=>by
       have:=kH xs
       rw[e] at this
       exact hx0 (List.length_eq_zero_iff.1 this.symm)
      have hg:=Ez (b0:=bs) hsx
      have hxp:0<xs.length:=List.length_pos_iff.2 hx0
      rw[kH] at hg
      refine .inr ⟨bs.length+(xs.length-1),by omega,?_,?_⟩
      ·show gS bs.length xs=_
       rw[tc hx0,kH]
      ·rw[hkeep (by omega) (by omega) (fun e=>by have:=(hslt _ e).2.1;omega),hB2k (by omega)]
       exact hg
end

section
open Go.Proofs
set_option maxRecDepth 100000
set_option maxHeartbeats 4000000

attribute [local irreducible] gR fV dQ

variable {bs:List D} {p:aL} {l:List aS}

def st0 (p:aL)(l:List aS):List D:=[.blk 90 1 [iW p l],.blk 73 1 [.cq],.iE [],.blk 115 1 [.mp 2]]

theorem inv0:DInv p l (st0 p l) []:=⟨rfl,rfl,rfl,.cq,[],rfl,rfl,.inl ⟨rfl,rfl⟩,fun b hb=>by simp[D.SX] at hb,fun x hx=>by simp at hx⟩

abbrev capD:List D:=[.loc 0 0,.loc 3 0,.loc 1 0]

open Classical in
noncomputable def nxtB (p:aL)(l:List aS)(bs:List D)(rows:List Tal)(k:Key):List D:=
 if h:∃bs',bk Tryz.prog 93 (.st bs) ([kyD k]++capD) (.bh []) (.st bs')∧DInv p l bs' (rows++[rowP p l rows k]) then h.choose else bs

noncomputable def stP (p:aL)(l:List aS)(s:List D×List Tal)(k:Key):List D×List Tal:=if isK p l k=true then(nxtB p l s.1 s.2 k,s.2++[rowP p l s.2 k]) else s
noncomputable def stQ (p:aL)(l:List aS)(ks:List Key):List D×List Tal:=ks.foldl (stP p l) (st0 p l,[])

theorem stQ_snoc (ks:List Key)(k:Key):stQ p l (ks++[k])=stP p l (stQ p l ks) k:=by
 unfold stQ
 rw[List.foldl_append]
 rfl

theorem snoc_ind {α:Type}{C:List α→Prop}(h0:C [])(h1:∀a x,C a→C (a++[x])):∀a,C a:=by
 have h:∀(n:Nat) (a:List α),a.length=n→C a:=by
  intro n
  induction n with
  | zero=>
   intro a h
   have:a=[]:=List.length_eq_zero_iff.1 h
   rw[this]
   exact h0
  | succ n ih=>
   intro a h
   obtain⟨b,x,rfl⟩:∃b x,a=b++[x]:=⟨a.dropLast,a.getLast (by intro e;simp[e] at h),(List.dropLast_concat_getLast _).symm⟩
   exact h1 b x (ih b (by simp at h;omega))
 exact fun a=>h _ a rfl

theorem stQ_rows:∀ks:List Key,(stQ p l ks).2=derTo p l (ks.filter (isK p l)):=by
 refine snoc_ind rfl fun a x ih=>?_
 rw[stQ_snoc,List.filter_append]
 unfold stP
 by_cases h:isK p l x=true
 ·rw[if_pos h,List.filter_cons,if_pos h,List.filter_nil,derTo_snoc,←ih]
 ·rw[if_neg h,List.filter_cons,if_neg h,List.filter_nil,List.append_nil]
  exact ih

theorem p4 {α:Type}{f:Nat→List α}{b:Nat}(h:∀i,(f i).length≤b):∀n:Nat,((List.range n).flatMap f).length≤b*n
 | 0=>by simp
 | n+1=>by
  have:=p4 h n
  have:=h n
  rw[flat_succ,List.length_append,Nat.mul_succ]
  omega

theorem seqAt_len {m i:Nat}(h:m≤6):(seqAt m i).length≤36:=by
 unfold seqAt
 rw[List.length_append,List.length_map,List.length_range]
 have:=p4 (f:=fun c:Nat=>([2,3,4,5,6]:List Int).map fun kd=>(kd,(c:Int),(i:Int))) (b:=5) (fun c=>by simp) m
 omega

theorem seqP_len (h6:l.length≤6)(h12:p.n≤12):(seqP p l).length≤500:=by
 unfold seqP seqT
 rw[List.length_append,List.length_map,List.length_range]
 have:=p4 (f:=seqAt l.length) (b:=36) (fun i=>seqAt_len h6) p.n
 omega

theorem stQ_step (hp:p.Ok)(hok:p.ok=true)(hc:br p l=true)(h6:l.length≤6)(h12:p.n≤12){ks:List Key}{k:Key}(hpre:ks++[k] <+: seqP p l)(hI:DInv p l (stQ p l ks).1 (stQ p l ks).2) :
  bk Tryz.prog 93 (.st (stQ p l ks).1) ([kyD k]++capD) (.bh []) (.st (stQ p l (ks++[k])).1)∧DInv p l (stQ p l (ks++[k])).1 (stQ p l (ks++[k])).2:=by
 have hm:=(cr hc).1
 have hh:=aL.gi hok
 have hmem:k∈seqP p l:=hpre.subset (by simp)
 obtain⟨aO,i,cF,hi,e1,e2⟩:∃aO i:Nat,aO<l.length∧i<p.n∧k.2.1=aO∧k.2.2=i:=by
  rcases seqP_mem.1 hmem with⟨c,i,h1,h2,h3,h4,_⟩ | ⟨c,h1,h2,h3,_⟩
  ·exact⟨c,i,h1,h2,h3,h4⟩
  ·exact⟨c,0,h1,by omega,h2,h3⟩
 obtain⟨kd,a,b⟩:=k
 simp only at e1 e2
 subst e1 e2
 rw[stQ_snoc]
 unfold stP
 have hisk:isK p l (kd,(aO:Int),(i:Int))=(aaV p l kd aO i).2:=isK_eq kd aO i
 cases hv:(aaV p l kd aO i).2
 ·rw[if_neg (by rw[hisk,hv];decide)]
  exact⟨c93_no hp hok hc hI hi cF hv,hI⟩
 ·rw[if_pos (by rw[hisk,hv])]
  have hlen:(stQ p l ks).2.length≤1000:=by
   rw[stQ_rows,derTo_len]
   have h1:=List.length_filter_le (isK p l) ks
   have h2:=hpre.length_le
   have h3:=seqP_len h6 h12
   rw[List.length_append] at h2
   omega
  have hnew:(kd,(aO:Int),(i:Int))∉(stQ p l ks).2.map Tal.key:=by
   rw[stQ_rows,derTo_key]
   intro h
   have hs:=(seqP_sorted (p:=p) hm).sublist hpre.sublist
   have:=(List.pairwise_append.1 hs).2.2 _ (List.mem_filter.1 h).1 _ (List.mem_singleton.2 rfl)
   omega
  have hex:∃bs',bk Tryz.prog 93 (.st (stQ p l ks).1) ([kyD (kd,(aO:Int),(i:Int))]++capD) (.bh []) (.st bs')∧DInv p l bs' ((stQ p l ks).2++[rowP p l (stQ p l ks).2 (kd,(aO:Int),(i:Int))]):=c93_yes hp hok hc hI hi cF hv hnew hlen
  have hd:nxtB p l (stQ p l ks).1 (stQ p l ks).2 (kd,(aO:Int),(i:Int))=Exists.choose hex:=by
   unfold nxtB
   rw[dif_pos hex]
  simp only
  rw[hd]
  exact hex.choose_spec

theorem stQ_inv (hp:p.Ok)(hok:p.ok=true)(hc:br p l=true)(h6:l.length≤6)(h12:p.n≤12):∀ks:List Key,ks <+: seqP p l→DInv p l (stQ p l ks).1 (stQ p l ks).2:=by
 refine snoc_ind (fun _=>inv0) fun a x ih hpre=>?_
 exact(stQ_step hp hok hc h6 h12 hpre (ih ((List.prefix_append a [x]).trans hpre))).2

/-! ## beginnings of the order -/

theorem flat_pre {α:Type}{f:Nat→List α}{i n:Nat}(h:i≤n):(List.range i).flatMap f <+: (List.range n).flatMap f:=by
 induction n with
 | zero=>
  have:i=0:=by omega
  subst this
  exact List.prefix_refl _
 | succ n ih=>
  rcases Nat.lt_or_ge n i with hn | hn
  ·have:i=n+1:=by omega
   subst this
   exact List.prefix_refl _
  ·rw[flat_succ]
   exact(ih hn).trans (List.prefix_append ..)

def qI (m i:Nat):List Key:=(List.range i).flatMap (seqAt m)
def qT (i c:Nat):List Key:=(List.range c).map fun c:Nat=>((1:Int),(c:Int),(i:Int))
def qK (c i:Nat):List Key:=([2,3,4,5,6]:List Int).map fun kd=>(kd,(c:Int),(i:Int))
def qC (i c:Nat):List Key:=(List.range c).flatMap fun c=>qK c i

theorem qT_succ {i c:Nat}:qT i (c+1)=qT i c++[((1:Int),(c:Int),(i:Int))]:=by
 unfold qT
 rw[List.range_succ,List.map_append]
 rfl

theorem seqAt_q {m i:Nat}:seqAt m i=qT i m++qC i m:=rfl

theorem qI_pre {i:Nat}(h:i<p.n):qI l.length i++seqAt l.length i <+: seqP p l:=by
 have:qI l.length (i+1)=qI l.length i++seqAt l.length i:=flat_succ
 rw[←this]
 exact(flat_pre (show i+1≤p.n by omega)).trans (List.prefix_append ..)

theorem qT_pre {i c:Nat}(h:i<p.n)(hc:c≤l.length):qI l.length i++qT i c <+: seqP p l:=by
 refine List.IsPrefix.trans ?_ (qI_pre h)
 refine(List.prefix_append_right_inj _).2 ?_
 rw[seqAt_q]
 refine List.IsPrefix.trans ?_ (List.prefix_append ..)
 unfold qT
 rw[map_flat,map_flat]
 exact flat_pre hc

theorem qC_pre {i c:Nat}(h:i<p.n)(hc:c≤l.length):qI l.length i++(qT i l.length++qC i c) <+: seqP p l:=by
 refine List.IsPrefix.trans ?_ (qI_pre h)
 refine(List.prefix_append_right_inj _).2 ?_
 rw[seqAt_q]
 refine(List.prefix_append_right_inj _).2 ?_
 exact flat_pre hc

theorem qK_pre {i c j:Nat}(h:i<p.n)(hc:c<l.length):qI l.length i++(qT i l.length++(qC i c++(qK c i).take j)) <+: seqP p l:=by
 refine List.IsPrefix.trans ?_ (qC_pre h (c:=c+1) (by omega))
 refine(List.prefix_append_right_inj _).2 ((List.prefix_append_right_inj _).2 ?_)
 have:qC i (c+1)=qC i c++qK c i:=flat_succ
 rw[this]
 exact(List.prefix_append_right_inj _).2 (List.take_prefix ..)

theorem qZ_pre {c:Nat}:qI l.length p.n++(seqT l.length).take c <+: seqP p l:=(List.prefix_append_right_inj _).2 (List.take_prefix ..)
end

section
open Go.Proofs
set_option maxRecDepth 100000
set_option maxHeartbeats 4000000

attribute [local irreducible] gR fV dQ

variable {bs:List D} {p:aL} {l:List aS}

noncomputable abbrev sQ (p:aL)(l:List aS)(ks:List Key):D:=.st (stQ p l ks).1

theorem c41_no (hp:p.Ok)(hl:Qbz l)(h:(p.ok&&br p l)=false):aP Tryz.prog 41 (.st bs) [p.d,dM l] (.bh [.bq [],I 2]):=by
 have JM:=O4 (bs:=[]) hp hl h
 have hW:bk Tryz.prog 41 (.st []) [p.d,dM l] (.bh [.bq [],I 2]) (.st [.blk 90 1 [.v (.pointer none)]]):=by
  refine au8.W rfl ?_
  unfold u41
  simp only[aC,aG,List.cons_append,List.nil_append]
  repeat' (first|(apply aH;rfl;exact rfl)|(apply aN;rfl)|(apply aD;rfl;simp only[ai];rfl)|(apply aF;rfl;rfl;exact JM;rfl;simp only[ai];rfl)|exact aq rfl rfl)
 have h2:(dM l).iw=true:=tC l
 exact hW.bD (n:=2) (by unfold eG eG eG;rw[aiZ,h2];rfl) rfl bs

theorem call93 {ks:List Key}{k:Key}(h:bk Tryz.prog 93 (.st (stQ p l ks).1) ([kyD k]++capD) (.bh []) (.st (stQ p l (ks++[k])).1)):tQ Tryz.prog (.fn 93 [] capD) (sQ p l ks) [kyD k] (.bh []) (sQ p l (ks++[k])):=⟨by kernel_rfl,h⟩

theorem c41w (hp : p.Ok) (hl : Qbz l) (hok : p.ok = true) (hc : br p l = true) (h6 : l.length ≤ 6) (h12 : p.n ≤ 12) : ∃ s, (stQ p l (seqP p l)).1[1]? = some (.blk 73 1 [s]) ∧ bk Tryz.prog 41 (.st []) [p.d, dM l] (.bh [s, I 0]) (sQ p l (seqP p l)) := by
  have hh := aL.gi hok
  have JM := zA (bs := []) hp hl hok hc
  have hin := fun (ks : List Key) (h : ks <+: seqP p l) => stQ_inv hp hok hc h6 h12 ks h
  have hst := fun (ks : List Key) (k : Key) (h : ks ++ [k] <+: seqP p l) => call93 (stQ_step hp hok hc h6 h12 h (hin ks ((List.prefix_append ks [k]).trans h))).1
  obtain ⟨s, _, hs1, _⟩ := (hin (seqP p l) (List.prefix_refl _)).out
  refine ⟨s, hs1, ?_⟩
  have W0 : D.ld false 1 (sQ p l (seqP p l)) (.loc 1 0) = some s := gX hs1 rfl
  unfold kyD at hst
  refine au8.W rfl ?_
  unfold u41
  simp only [aC, aG, List.cons_append, List.nil_append]
  repeat' (first | ((with_reducible apply aK); (· rfl); (· exact rfl)) | ((with_reducible apply aN); (· rfl)) | ((with_reducible apply ar); (· rfl); (· exact cT); (· simp only [ai]; rfl)) | ((with_reducible apply aD); (· rfl); (· simp only [ai]; rfl)) | ((with_reducible apply aF); (· rfl); (· rfl); (· exact JM); (· rfl); (· simp only [ai]; rfl)))
  refine x_ (fun ds => ds = [sQ p l (qI l.length p.n)]) ?_ ?_
  · refine bf (fun i => [In i, sQ p l (qI l.length i)]) (fun _ => True) p.n rfl (fun _ => rfl) trivial (fun i hi _ R hR => ?_) (fun _ R => ?_)
    · have gH : decide ((i : Int) < (p.n : Int)) = true := by simp; omega
      have hR := hR trivial
      have eI : qI l.length (i + 1) = qI l.length i ++ (qT i l.length ++ qC i l.length) := flat_succ
      rw [eI] at hR
      repeat' (first | ((with_reducible apply bp); (· simp only [ai]; rfl)) | ((with_reducible apply aH); (· rfl); (· exact gH)) | ((with_reducible apply aD); (· rfl); (· simp only [ai]; rfl)))
      refine au ?_
      repeat' (((with_reducible apply ar); (· rfl); (· exact ak); (· simp only [ai]; rfl)))
      refine au ?_
      refine bf (fun c => [In c, sQ p l (qI l.length i ++ qT i c)]) (fun _ => True) l.length (by simp only [qT, List.range_zero, List.map_nil, List.append_nil]; rfl) (fun _ => rfl) trivial (fun c dG _ R2 k_ => ?_) (fun _ R2 => ?_)
      · have hlc : decide ((c : Int) < (l.length : Int)) = true := by simp; omega
        have k_ := k_ trivial
        have hq := qT_pre (p := p) (l := l) hi (c := c + 1) (by omega)
        rw [qT_succ, ← List.append_assoc] at hq k_
        have h93 := hst _ _ hq
        simp only at h93
        repeat' (first | ((with_reducible apply bp); (· simp only [ai]; rfl)) | ((with_reducible apply aiL); (· rfl); (· rfl); (· rfl); (· exact h93); (· rfl); (· simp only [ai]; rfl)) | ((with_reducible apply aH); (· rfl); (· exact hlc)) | ((with_reducible apply aW); (· rfl); (· omega); (· simp only [ai]; rfl)) | ((with_reducible apply aD); (· rfl); (· simp only [ai]; rfl)) | (with_reducible refine au ?_) | ((with_reducible apply av); (· rfl); (· rfl)) | (with_reducible refine Qav ?_) | (with_reducible refine kj rfl ?_))
        exact k_
      · have hlf : decide ((l.length : Int) < (l.length : Int)) = false := by simp
        repeat' (first | ((with_reducible apply bp); (· simp only [ai]; rfl)) | ((with_reducible apply aK); (· rfl); (· exact hlf)) | ((with_reducible apply ar); (· rfl); (· exact ak); (· simp only [ai]; rfl)) | ((with_reducible apply aD); (· rfl); (· simp only [ai]; rfl)) | ((with_reducible apply av); (· rfl); (· rfl)) | (with_reducible refine Qav ?_) | (with_reducible refine aB (by decide) ?_) | (with_reducible refine kj rfl ?_))
        refine au ?_
        refine bf (fun c => [In c, sQ p l (qI l.length i ++ (qT i l.length ++ qC i c))]) (fun _ => True) l.length (by simp only [qC, List.range_zero, List.flatMap_nil, List.append_nil]; rfl) (fun _ => rfl) trivial (fun c dG _ R3 hR3 => ?_) (fun _ R3 => ?_)
        · have hlc : decide ((c : Int) < (l.length : Int)) = true := by simp; omega
          have hR3 := hR3 trivial
          have eC : qC i (c + 1) = qC i c ++ qK c i := flat_succ
          rw [eC] at hR3
          repeat' (first | ((with_reducible apply bp); (· simp only [ai]; rfl)) | ((with_reducible apply aH); (· rfl); (· exact hlc)) | ((with_reducible apply aD); (· rfl); (· simp only [ai]; rfl)) | (with_reducible refine au ?_))
          refine bf (fun j => [I ((j : Int) + 2), sQ p l (qI l.length i ++ (qT i l.length ++ (qC i c ++ (qK c i).take j)))]) (fun _ => True) 5 (by simp only [List.take_zero, List.append_nil]; rfl) (fun _ => rfl) trivial (fun j hj _ R4 hR4 => ?_) (fun _ R4 => ?_)
          · have hlj : decide ((j : Int) + 2 ≤ 6) = true := by simp; omega
            have hR4 := hR4 trivial
            have hq := qK_pre (p := p) (l := l) (j := j + 1) hi dG
            have eK : (qK c i).take (j + 1) = (qK c i).take j ++ [((j : Int) + 2, (c : Int), (i : Int))] := by
              have : j = 0 ∨ j = 1 ∨ j = 2 ∨ j = 3 ∨ j = 4 := by omega
              rcases this with rfl | rfl | rfl | rfl | rfl <;> rfl
            rw [eK, ← List.append_assoc (qC i c), ← List.append_assoc (qT i l.length), ← List.append_assoc (qI l.length i)] at hq hR4
            have h93 := hst _ _ hq
            simp only at h93
            repeat' (first | ((with_reducible apply bp); (· simp only [ai]; rfl)) | ((with_reducible apply aiL); (· rfl); (· rfl); (· rfl); (· exact h93); (· rfl); (· simp only [ai]; rfl)) | ((with_reducible apply aH); (· rfl); (· exact hlj)) | ((with_reducible apply bM); (· rfl); (· rfl); (· omega); (· simp only [ai]; rfl)) | ((with_reducible apply aD); (· rfl); (· simp only [ai]; rfl)) | (with_reducible refine au ?_) | ((with_reducible apply av); (· rfl); (· rfl)) | (with_reducible refine Qav ?_) | (with_reducible refine kj rfl ?_))
            have e : ((j : Int) + 2 + 1) = (((j + 1 : Nat) : Int) + 2) := by omega
            rw [e]
            exact hR4
          · have hlf : decide (((5 : Nat) : Int) + 2 ≤ 6) = false := by decide
            rw [show (qK c i).take 5 = qK c i from rfl]
            repeat' (first | ((with_reducible apply bp); (· simp only [ai]; rfl)) | ((with_reducible apply aK); (· rfl); (· exact hlf)) | ((with_reducible apply aW); (· rfl); (· omega); (· simp only [ai]; rfl)) | ((with_reducible apply aD); (· rfl); (· simp only [ai]; rfl)) | ((with_reducible apply av); (· rfl); (· rfl)) | (with_reducible refine Qav ?_) | (with_reducible refine aB (by decide) ?_) | (with_reducible refine kj rfl ?_))
            exact hR3
        · have hlf : decide ((l.length : Int) < (l.length : Int)) = false := by simp
          repeat' (first | ((with_reducible apply bp); (· simp only [ai]; rfl)) | ((with_reducible apply aK); (· rfl); (· exact hlf)) | ((with_reducible apply aW); (· rfl); (· omega); (· simp only [ai]; rfl)) | ((with_reducible apply aD); (· rfl); (· simp only [ai]; rfl)) | ((with_reducible apply av); (· rfl); (· rfl)) | (with_reducible refine Qav ?_) | (with_reducible refine aB (by decide) ?_) | (with_reducible refine kj rfl ?_))
          exact hR
    · have hlf : decide ((p.n : Int) < (p.n : Int)) = false := by simp
      repeat' (first | ((with_reducible apply bp); (· simp only [ai]; rfl)) | ((with_reducible apply aK); (· rfl); (· exact hlf)) | ((with_reducible apply aD); (· rfl); (· simp only [ai]; rfl)) | ((with_reducible apply av); (· rfl); (· rfl)) | (with_reducible refine Qav ?_) | (with_reducible refine aB (by decide) ?_))
      exact rfl
  rintro _ rfl
  refine ⟨rfl, ?_⟩
  repeat' (first | ((with_reducible apply ar); (· rfl); (· exact ak); (· simp only [ai]; rfl)) | (with_reducible refine au ?_))
  refine bf (fun c => [In c, sQ p l (qI l.length p.n ++ (seqT l.length).take c)]) (fun _ => True) l.length (by simp only [List.take_zero, List.append_nil]; rfl) (fun _ => rfl) trivial (fun c dG _ R hR => ?_) (fun _ R => ?_)
  · have hlc : decide ((c : Int) < (l.length : Int)) = true := by simp; omega
    have hR := hR trivial
    have hq := qZ_pre (p := p) (l := l) (c := c + 1)
    rw [seqT_take dG, ← List.append_assoc] at hq hR
    have h93 := hst _ _ hq
    simp only at h93
    repeat' (first | ((with_reducible apply bp); (· simp only [ai]; rfl)) | ((with_reducible apply aiL); (· rfl); (· rfl); (· rfl); (· exact h93); (· rfl); (· simp only [ai]; rfl)) | ((with_reducible apply aH); (· rfl); (· exact hlc)) | ((with_reducible apply aW); (· rfl); (· omega); (· simp only [ai]; rfl)) | ((with_reducible apply aD); (· rfl); (· simp only [ai]; rfl)) | (with_reducible refine au ?_) | ((with_reducible apply av); (· rfl); (· rfl)) | (with_reducible refine Qav ?_) | (with_reducible refine kj rfl ?_))
    exact hR
  · have hlf : decide ((l.length : Int) < (l.length : Int)) = false := by simp
    rw [show (seqT l.length).take l.length = seqT l.length from List.take_of_length_le (by simp [seqT])]
    rw [show qI l.length p.n ++ seqT l.length = seqP p l from rfl]
    repeat' (first | ((with_reducible apply bp); (· simp only [ai]; rfl)) | ((with_reducible apply aK); (· rfl); (· exact hlf)) | ((with_reducible apply jI); (· rfl); (· rfl); (· exact W0); (· simp only [ai]; rfl)) | ((with_reducible apply aD); (· rfl); (· simp only [ai]; rfl)) | ((with_reducible apply av); (· rfl); (· rfl)) | (with_reducible refine Qav ?_) | (with_reducible refine aB (by decide) ?_) | (with_reducible refine kj rfl ?_) | (with_reducible exact aq rfl rfl))
end

section
open Go.Proofs
set_option maxRecDepth 100000
set_option maxHeartbeats 4000000

attribute [local irreducible] gR fV dQ

variable {bs:List D} {p:aL} {l:List aS}

theorem melt_rowH {s:List D}{n b:Nat}{e:TypeId}{l:List Int}(h:s[b]? = some (.blk e 1 (l.map I))):bD s (n+2) (.sl b 0 l.length)=some (Is l):=by
 rw[bD]
 simp only[h]
 rw[if_pos (by simp)]
 simp only[Nat.mul_one,List.drop_zero]
 rw[show(List.map I l).take l.length=List.map I l from List.take_of_length_le (by simp),jj (enc:=I) fun a _=>by rw[bD]]
 simp

theorem meltL_flat2 {α:Type}{f:D→Option D}{g h:α→List D}:∀{a:List α},(∀x,x∈a→dK f (g x)=some (h x))→dK f (a.flatMap g)=some (a.flatMap h)
 | [],_=>rfl
 | x :: r,hx=>by
  have ih:=meltL_flat2 (f:=f) (g:=g) (h:=h) (a:=r) fun y hy=>hx y (by simp[hy])
  rw[List.flatMap_cons,List.flatMap_cons]
  have nD:∀{a b a' b':List D},dK f a=some a'→dK f b=some b'→dK f (a++b)=some (a'++b'):=by
   intro a
   induction a with
   | nil=>intro b a' b' h1 h2;cases h1;exact h2
   | cons y q ih2=>
    intro b a' b' h1 h2
    simp only[dK,Option.bind_eq_some_iff,Option.map_eq_some_iff] at h1
    obtain⟨z,hz,w,hw,rfl⟩:=h1
    simp only[List.cons_append,dK,hz,Option.bind_some,ih2 hw h2,Option.map_some]
  exact nD (hx x (by simp)) ih

theorem melt_out {rows:List Tal}(hI:DInv p l bs rows){s:D}(hs:bs[1]? = some (.blk 73 1 [s])):bD bs 3 s=some (abE rows):=by
 obtain⟨s',pr,h1,rfl,WZ,hsid,hfr⟩:=hI.out
 rw[hs] at h1
 cases h1
 rcases WZ with⟨rfl,rfl⟩ | ⟨o,rfl,ho⟩
 ·rfl
 ·have hcells:dK (bD bs 2) (pr.flatMap encR)=some (pr.flatMap fun x=>x.1.d.cells):=by
   refine meltL_flat2 fun x hx=>?_
   have hm:bD bs 2 x.2=some (Is x.1.frm):=by
    rcases hfr x hx with⟨e1,e2⟩ | ⟨b,_,e2,e3⟩
    ·rw[e1,e2]
     rfl
    ·rw[e2]
     exact melt_rowH (n:=0) e3
   have hz:∀z:Int,bD bs 2 (I z)=some (I z):=fun z=>rfl
   unfold encR
   generalize bD bs 2=f at hm hz ⊢
   simp only[dK,hm,hz,Option.bind_some,Option.map_some]
   rfl
  have hl:(pr.flatMap encR).length=pr.length*5:=h_ (sz:=5) fun _=>rfl
  have uY:(pr.flatMap fun x=>x.1.d.cells).length=pr.length*5:=h_ (sz:=5) fun _=>rfl
  rw[bD]
  simp only[ho]
  rw[if_pos (by rw[hl];omega)]
  simp only[List.drop_zero]
  rw[List.take_of_length_le (by rw[hl];exact Nat.le_refl _),hcells]
  simp only[Option.map_some]
  rw[if_neg (by decide)]
  have hc:=vw (enc:=fun x:Tal×D=>x.1.d.cells) (sz:=5) (fun _=>rfl) pr
  rw[hc,List.map_map]
  show some (D.bq _)=some (D.bq (List.map Tal.d _))
  rw[List.map_map]
  rfl

theorem c41_yes (hp:p.Ok)(hl:Qbz l)(hok:p.ok=true)(hc:br p l=true)(h6:l.length≤6)(h12:p.n≤12):aP Tryz.prog 41 (.st bs) [p.d,dM l] (.bh [abE (derTo p l (kseq p l)),I 0]):=by
 obtain⟨s,hs,hW⟩:=c41w hp hl hok hc h6 h12
 have hI:=stQ_inv hp hok hc h6 h12 (seqP p l) (List.prefix_refl _)
 have hm:=melt_out hI hs
 rw[stQ_rows] at hm
 have h2:(dM l).iw=true:=tC l
 refine hW.bD (n:=4) (by unfold eG eG eG;rw[aiZ,h2];rfl) ?_ bs
 rw[bD]
 simp only[dK,hm,Option.bind_some]
 rfl

theorem der_ok (hok:p.ok=true)(hc:br p l=true)(h6:l.length≤6)(h12:p.n≤12):acH (derTo p l (kseq p l))∧(derTo p l (kseq p l)).length≤500:=by
 have hlen:(derTo p l (kseq p l)).length≤500:=by
  rw[derTo_len]
  exact Nat.le_trans (List.length_filter_le ..) (seqP_len h6 h12)
 have hh:=aL.gi hok
 have key:∀t,t∈derTo p l (kseq p l)→t.frm.length≤1000∧alc t:=by
  intro t ht
  obtain⟨i,hi,rfl⟩:=List.getElem_of_mem ht
  have hik:i<(kseq p l).length:=by rw[derTo_len] at hi;exact hi
  have e:(derTo p l (kseq p l))[i]=tl (derTo p l (kseq p l)) i:=by simp[tl,List.getD,hi]
  have r:=row_right hok hc hik
  obtain⟨c,it,dG,e1,e2,his,hw⟩:=kseq_at hik
  rw[e]
  have GN:(tl (derTo p l (kseq p l)) i).kind=(kseq p l)[i].1:=by rw[derTo_at hik];rfl
  have hb:=alm hok hc r.hit r.cF r.is
  have BF:=ais (kd:=(tl (derTo p l (kseq p l)) i).kind) (aO:=(kseq p l)[i].2.1.toNat) hok hc r.hit
  have hfl:(tl (derTo p l (kseq p l)) i).frm.length≤1000:=by
   have h1:=r.len
   unfold abt at h1
   split at h1
   ·split at h1 <;> omega
   ·omega
  have h3:=r.aO
  have h4:=r.it
  have h5:=r.cF
  have h7:=r.hit
  have h8:=r.val
  have hml:(1000:Nat)≤maxLen:=by decide
  refine⟨hfl,⟨?_,?_⟩,⟨?_,?_⟩,⟨?_,?_⟩,⟨?_,?_⟩,fun f hf=>?_,Nat.le_trans hfl hml⟩
  all_goals try omega
  have:=(r.good.2 f hf).1
  exact⟨by omega,by omega⟩
 have hml:(1000:Nat)≤maxLen:=by decide
 exact⟨⟨by omega,fun t ht=>Nat.le_trans (key t ht).1 hml,fun t ht=>(key t ht).2⟩,hlen⟩

theorem c42 {d:List Tal}(hd:acH d)(hL:d.length≤500):aP Tryz.prog 42 (.st bs) [abE d,abE d] (B true):=by
 refine au7.R rfl rfl ?_
 unfold u42
 simp only[aC,aG,List.cons_append,List.nil_append]
 have hf:((d.length:Int) != (d.length:Int))=false:=by simp
 repeat' (first|(apply aK;rfl;exact hf)|(apply ar;rfl;exact ak;simp only[ai];rfl)|(apply aD;rfl;simp only[ai];rfl)|refine au ?_)
 refine bf (fun k=>[In k]) (fun _=>True) d.length rfl (fun _=>rfl) trivial (fun k hk _ R hR=>?_) (fun _ R=>?_)
 ·have hlk:decide ((k:Int)<(d.length:Int))=true:=by simp;omega
  have hR:=hR trivial
  have h34:=c34 (bs:=bs) (xs:=(tl d k).frm) (ys:=(tl d k).frm) (hd.2.1 _ (afU hk))
  rw[decide_eq_true rfl] at h34
  have n:∀x:Int,(x != x)=false:=fun x=>by simp
  have hall:((((((tl d k).kind != (tl d k).kind)||((tl d k).aO != (tl d k).aO))||((tl d k).item != (tl d k).item))||((tl d k).val != (tl d k).val))||!true)=false:=by
   rw[n,n,n,n]
   rfl
  repeat' (first|(apply bp;simp only[ai];rfl)|(apply aH;rfl;exact hlk)|(apply aK;rfl;exact hall)|(apply aN;rfl)|(apply aA;rfl;rfl;exact abe hk;simp only[ai];rfl)|(apply ar;rfl;exact ak;simp only[ai];rfl)|(apply aW;rfl;omega;simp only[ai];rfl)|(apply aD;rfl;simp only[ai];rfl)|(apply aF;rfl;rfl;exact h34;rfl;simp only[ai];rfl)|(apply bL;rfl)|refine au ?_|(apply av;rfl;rfl)|refine Qav ?_|refine kj rfl ?_|exact aq rfl rfl|(intro hz;(try simp only[bA] at hz)))
  exact hR
 ·have hlf:decide ((d.length:Int)<(d.length:Int))=false:=by simp
  repeat' (first|(apply bp;simp only[ai];rfl)|(apply aK;rfl;exact hlf)|(apply ar;rfl;exact ak;simp only[ai];rfl)|(apply aD;rfl;simp only[ai];rfl)|(apply av;rfl;rfl)|refine Qav ?_|(refine aB (by decide) ?_)|refine kj rfl ?_|exact aq rfl rfl)

theorem c14 (hk:aP Tryz.prog 17 (.st bs) [] (B true))(hp:p.Ok)(hl:Qbz l):bk Tryz.prog 14 (.st bs) [p.d,dM l] (B true) (.st bs):=by
 have pZ:=ZT (bs:=bs) (l:=l) (most:=6) hl.2
 have lU:=ZS (bs:=bs) hp
 refine au_.W rfl ?_
 unfold u14
 simp only[aC,aG,List.cons_append,List.nil_append]
 cases hs1:p.small
 ·have h15:=sB (bs:=bs) (p:=p)
  rw[hs1] at h15
  repeat' (first|(apply bp;simp only[ai];rfl)|(apply iF;rfl;exact rfl)|(apply aH;rfl;exact rfl)|(apply aN;rfl)|(apply aD;rfl;simp only[ai];rfl)|(apply aF;rfl;rfl;(·first|exact h15|exact hk);rfl;simp only[ai];rfl)|exact aq rfl rfl)
 have h15:=sB (bs:=bs) (p:=p)
 rw[hs1] at h15
 cases hs2:Db l 6
 ·rw[hs2] at pZ
  repeat' (first|(apply bp;simp only[ai];rfl)|(apply aH;rfl;exact rfl)|(apply aN;rfl)|(apply aD;rfl;simp only[ai];rfl)|(apply aF;rfl;rfl;(·first|exact h15|exact pZ|exact hk);rfl;simp only[ai];rfl)|(apply bL;rfl)|exact aq rfl rfl|(intro hz;(try simp only[bA] at hz)))
 rw[hs2] at pZ
 cases hoc:p.ok&&br p l
 ·have h41:=c41_no (bs:=bs) hp hl hoc
  have h39:=ahV (bs:=bs) (d:=[]) hp hl hoc
  cases hok:p.ok
  ·rw[hok] at lU
   repeat' (first|(apply bp;simp only[ai];rfl)|(apply iF;rfl;exact rfl)|(apply aH;rfl;exact rfl)|(apply aK;rfl;exact rfl)|(apply aN;rfl)|(apply aD;rfl;simp only[ai];rfl)|(apply aF;rfl;rfl;(·first|exact h15|exact pZ|exact h41|exact lU|exact h39|exact hk);rfl;simp only[ai];rfl)|(apply bL;rfl)|(apply bg;rfl)|exact aq rfl rfl|(intro hz;(try simp only[bA] at hz)))
  ·rw[hok] at lU
   have rf:=c24 (bs:=bs) hp hok hl
   rw[hok,Bool.true_and] at hoc
   rw[hoc] at rf
   repeat' (first|(apply bp;simp only[ai];rfl)|(apply aH;rfl;exact rfl)|(apply aK;rfl;exact rfl)|(apply aN;rfl)|(apply aD;rfl;simp only[ai];rfl)|(apply aF;rfl;rfl;(·first|exact h15|exact pZ|exact h41|exact lU|exact rf|exact h39|exact hk);rfl;simp only[ai];rfl)|(apply bL;rfl)|(apply bg;rfl)|exact aq rfl rfl|(intro hz;(try simp only[bA] at hz)))
 ·simp only[Bool.and_eq_true] at hoc
  obtain⟨hok,hc⟩:=hoc
  rw[hok] at lU
  have rf:=c24 (bs:=bs) hp hok hl
  rw[hc] at rf
  have hcs:=(cr hc).1
  have h12:p.n≤12:=by
   simp only[aL.small,Bool.and_eq_true,decide_eq_true_eq] at hs1
   omega
  have h6:l.length≤6:=by
   simp only[Db,Bool.and_eq_true,Bool.or_eq_true,decide_eq_true_eq] at hs2
   omega
  obtain⟨hd,hL⟩:=der_ok hok hc h6 h12
  have h41:=c41_yes (bs:=bs) hp hl hok hc h6 h12
  have h43:=c43 (bs:=bs) hp hok hc h6 h12
  have h42:=c42 (bs:=bs) hd hL
  have h39:=aga (bs:=bs) hp hl hok hc hd (by omega)
  rw[der_holds hok hc] at h39
  have h39e:=aga (bs:=bs) (d:=[]) hp hl hok hc ⟨by simp,by simp,by simp⟩ (by simp)
  generalize derTo p l (kseq p l)=d at *
  repeat' (first|(apply bp;simp only[ai];rfl)|(apply aK;rfl;exact rfl)|(apply aN;rfl)|(apply aD;rfl;simp only[ai];rfl)|(apply aF;rfl;rfl;(·first|exact h15|exact pZ|exact h41|exact lU|exact rf|exact h43|exact h42|exact h39|exact h39e|exact hk);rfl;simp only[ai];rfl)|(apply bL;rfl)|(apply bg;rfl)|exact aq rfl rfl|(intro hz;(try simp only[bA] at hz)))
end
end Go.Am.Sc
