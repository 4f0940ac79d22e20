/-
  Several texts, one behind the other.
-/
import Derived.Test.YthkepocejfghcaaGreatAmFntoAmTabK
import Derived.Test.YthkepocejfghcaaGreatAmPuretoAmDraw3
import Derived.Sort.Row
import Derived.Sort.Grow
set_option linter.unusedSimpArgs false
set_option linter.unusedVariables false
namespace Go.Am.jy
section
noncomputable def MP:U:=(aI [.join 0 1 (.loop 1 [(ki 0),(.sym 5)] (aI [.ev (.bin .lss .int (.sym 6) (.sym 3))]
 (.ite (.sym 8) (aI [.join 2 1 (aI [.ev (.bin .add .int (.sym 1) (.sym 6)),
 .ev (.bin .add .int (.sym 2) (.sym 6)),
 .ev (.bin .add .int (.sym 2) (.sym 6)),
 .ev (.aj 1 (.sym 0) (.sym 11)),
 .ev (.ld false 1 (.sym 7) (.sym 12)),
 .ev (.bin .add .int (.sym 1) (.sym 6)),
 .ev (.aj 1 (.sym 0) (.sym 14)),
 .ev (.ld false 1 (.sym 7) (.sym 15)),
 .ev (.aj 1 (.sym 0) (.sym 9)),
 .ev (.gQ 1 (.sym 7) (.sym 17) (.sym 13)),
 .ev (.aj 1 (.sym 0) (.sym 10)),
 .ev (.gQ 1 (.sym 18) (.sym 19) (.sym 16))]
 (.jump 2 [(.sym 20)] [])),
 .ev (.bin .add .int (.sym 6) (ki 1))]
 (.jump 1 [(.sym 10),(.sym 9)] [])) (.jump 0 [(.sym 7)] []))))]
 (.ret (.aa .ax (.aa (.sym 6) .ax))))

noncomputable def QJ (f132:FuncId):U:=(aI [.ev (.bin .sub .int (.sym 2) (.sym 1)),
 .ev (.bin .sub .int (.sym 3) (.sym 2)),
 .join 0 2 (.loop 1 [(.sym 6),(.sym 7),(.sym 5)] (aI [.ev (.bin .neq .int (.sym 8) (.sym 9))]
 (.ite (.sym 11) (aI [.join 2 3 (aI [.ev (.bin .gtr .int (.sym 8) (.sym 9)),
 .join 3 3 (.ite (.sym 12) (aI [.ev (.bin .sub .int (.sym 2) (.sym 8)),
 .bQ f132 (.sym 10) [(.sym 0),(.sym 13),(.sym 2),(.sym 9),(.sym 4)] [],
 .ev (.bin .sub .int (.sym 8) (.sym 9))]
 (.jump 3 [(.sym 16),(.sym 9),(.sym 15)] [])) (aI [.ev (.bin .sub .int (.sym 2) (.sym 8)),
 .ev (.bin .add .int (.sym 2) (.sym 9)),
 .ev (.bin .sub .int (.sym 14) (.sym 8)),
 .bQ f132 (.sym 10) [(.sym 0),(.sym 13),(.sym 15),(.sym 8),(.sym 4)] [],
 .ev (.bin .sub .int (.sym 9) (.sym 8))]
 (.jump 3 [(.sym 8),(.sym 18),(.sym 17)] [])))]
 (.jump 2 [(.sym 13),(.sym 14),(.sym 15)] []))]
 (.jump 1 [(.sym 12),(.sym 13),(.sym 14)] [])) (.jump 0 [(.sym 8),(.sym 10)] [])))),
 .ev (.bin .sub .int (.sym 2) (.sym 8)),
 .bQ f132 (.sym 9) [(.sym 0),(.sym 10),(.sym 2),(.sym 8),(.sym 4)] []]
 (.ret (.aa .ax (.aa (.sym 12) .ax))))

noncomputable def Tq (f131:FuncId)(f129:FuncId):U:=(aI [.ev (.bin .sub .int (.sym 2) (.sym 1)),
 .ev (.bin .eql .int (.sym 6) (ki 1))]
 (.ite (.sym 7) (aI [.join 0 1 (.loop 1 [(.sym 2),(.sym 3)] (aI [.ev (.bin .lss .int (.sym 8) (.sym 9))]
 (.ite (.sym 10) (aI [.join 2 2 (aI [.ev (.bin .add .int (.sym 8) (.sym 9)),
 .ev (.conv .u64 (.sym 11)),
 .ev (.bin .shr .int (.sym 12) (.const (.v (.int .u64 1)))),
 .ev (.conv .i64 (.sym 13)),
 .ev (.aj 1 (.sym 0) (.sym 14)),
 .ev (.ld false 1 (.sym 5) (.sym 15)),
 .ev (.aj 1 (.sym 0) (.sym 1)),
 .ev (.ld false 1 (.sym 5) (.sym 17)),
 .fu (.sym 4) (.sym 5) [(.sym 16),(.sym 18)] [true],
 .ev (.bin .lss .int (.sym 19) (ki 0)),
 .join 3 2 (.ite (.sym 20) (aI [.ev (.bin .add .int (.sym 14) (ki 1))]
 (.jump 3 [(.sym 21),(.sym 9)] [])) (.jump 3 [(.sym 8),(.sym 14)] []))]
 (.jump 2 [(.sym 21),(.sym 22)] []))]
 (.jump 1 [(.sym 11),(.sym 12)] [])) (.jump 0 [(.sym 8)] [])))),
 .join 0 1 (.loop 1 [(.sym 1),(.sym 5)] (aI [.ev (.bin .sub .int (.sym 8) (ki 1)),
 .ev (.bin .lss .int (.sym 9) (.sym 11))]
 (.ite (.sym 12) (aI [.join 2 1 (aI [.ev (.bin .add .int (.sym 9) (ki 1)),
 .ev (.bin .add .int (.sym 9) (ki 1)),
 .ev (.aj 1 (.sym 0) (.sym 14)),
 .ev (.ld false 1 (.sym 10) (.sym 15)),
 .ev (.aj 1 (.sym 0) (.sym 9)),
 .ev (.ld false 1 (.sym 10) (.sym 17)),
 .ev (.aj 1 (.sym 0) (.sym 9)),
 .ev (.gQ 1 (.sym 10) (.sym 19) (.sym 16)),
 .ev (.aj 1 (.sym 0) (.sym 13)),
 .ev (.gQ 1 (.sym 20) (.sym 21) (.sym 18))]
 (.jump 2 [(.sym 22)] [])),
 .ev (.bin .add .int (.sym 9) (ki 1))]
 (.jump 1 [(.sym 14),(.sym 13)] [])) (.jump 0 [(.sym 10)] []))))]
 (.ret (.aa .ax (.aa (.sym 9) .ax)))) (aI [.ev (.bin .sub .int (.sym 3) (.sym 2)),
 .ev (.bin .eql .int (.sym 8) (ki 1))]
 (.ite (.sym 9) (aI [.join 0 1 (.loop 1 [(.sym 1),(.sym 2)] (aI [.ev (.bin .lss .int (.sym 10) (.sym 11))]
 (.ite (.sym 12) (aI [.join 2 2 (aI [.ev (.bin .add .int (.sym 10) (.sym 11)),
 .ev (.conv .u64 (.sym 13)),
 .ev (.bin .shr .int (.sym 14) (.const (.v (.int .u64 1)))),
 .ev (.conv .i64 (.sym 15)),
 .ev (.aj 1 (.sym 0) (.sym 2)),
 .ev (.ld false 1 (.sym 5) (.sym 17)),
 .ev (.aj 1 (.sym 0) (.sym 16)),
 .ev (.ld false 1 (.sym 5) (.sym 19)),
 .fu (.sym 4) (.sym 5) [(.sym 18),(.sym 20)] [true],
 .ev (.bin .lss .int (.sym 21) (ki 0)),
 .ev (.un .not (.sym 22)),
 .join 3 2 (.ite (.sym 23) (aI [.ev (.bin .add .int (.sym 16) (ki 1))]
 (.jump 3 [(.sym 24),(.sym 11)] [])) (.jump 3 [(.sym 10),(.sym 16)] []))]
 (.jump 2 [(.sym 24),(.sym 25)] []))]
 (.jump 1 [(.sym 13),(.sym 14)] [])) (.jump 0 [(.sym 10)] [])))),
 .join 0 1 (.loop 1 [(.sym 2),(.sym 5)] (aI [.ev (.bin .gtr .int (.sym 11) (.sym 10))]
 (.ite (.sym 13) (aI [.join 2 1 (aI [.ev (.bin .sub .int (.sym 11) (ki 1)),
 .ev (.bin .sub .int (.sym 11) (ki 1)),
 .ev (.aj 1 (.sym 0) (.sym 15)),
 .ev (.ld false 1 (.sym 12) (.sym 16)),
 .ev (.aj 1 (.sym 0) (.sym 11)),
 .ev (.ld false 1 (.sym 12) (.sym 18)),
 .ev (.aj 1 (.sym 0) (.sym 11)),
 .ev (.gQ 1 (.sym 12) (.sym 20) (.sym 17)),
 .ev (.aj 1 (.sym 0) (.sym 14)),
 .ev (.gQ 1 (.sym 21) (.sym 22) (.sym 19))]
 (.jump 2 [(.sym 23)] [])),
 .ev (.bin .sub .int (.sym 11) (ki 1))]
 (.jump 1 [(.sym 15),(.sym 14)] [])) (.jump 0 [(.sym 12)] []))))]
 (.ret (.aa .ax (.aa (.sym 11) .ax)))) (aI [.ev (.bin .add .int (.sym 1) (.sym 3)),
 .ev (.conv .u64 (.sym 10)),
 .ev (.bin .shr .int (.sym 11) (.const (.v (.int .u64 1)))),
 .ev (.conv .i64 (.sym 12)),
 .ev (.bin .add .int (.sym 13) (.sym 2)),
 .ev (.bin .gtr .int (.sym 2) (.sym 13)),
 .join 0 2 (.ite (.sym 15) (aI [.ev (.bin .sub .int (.sym 14) (.sym 3))]
 (.jump 0 [(.sym 16),(.sym 13)] [])) (.jump 0 [(.sym 1),(.sym 2)] [])),
 .ev (.bin .sub .int (.sym 14) (ki 1)),
 .join 0 1 (.loop 1 [(.sym 16),(.sym 17)] (aI [.ev (.bin .lss .int (.sym 19) (.sym 20))]
 (.ite (.sym 21) (aI [.join 2 2 (aI [.ev (.bin .add .int (.sym 19) (.sym 20)),
 .ev (.conv .u64 (.sym 22)),
 .ev (.bin .shr .int (.sym 23) (.const (.v (.int .u64 1)))),
 .ev (.conv .i64 (.sym 24)),
 .ev (.bin .sub .int (.sym 18) (.sym 25)),
 .ev (.aj 1 (.sym 0) (.sym 26)),
 .ev (.ld false 1 (.sym 5) (.sym 27)),
 .ev (.aj 1 (.sym 0) (.sym 25)),
 .ev (.ld false 1 (.sym 5) (.sym 29)),
 .fu (.sym 4) (.sym 5) [(.sym 28),(.sym 30)] [true],
 .ev (.bin .lss .int (.sym 31) (ki 0)),
 .ev (.un .not (.sym 32)),
 .join 3 2 (.ite (.sym 33) (aI [.ev (.bin .add .int (.sym 25) (ki 1))]
 (.jump 3 [(.sym 34),(.sym 20)] [])) (.jump 3 [(.sym 19),(.sym 25)] []))]
 (.jump 2 [(.sym 34),(.sym 35)] []))]
 (.jump 1 [(.sym 22),(.sym 23)] [])) (.jump 0 [(.sym 19)] [])))),
 .ev (.bin .sub .int (.sym 14) (.sym 19)),
 .ev (.bin .lss .int (.sym 19) (.sym 2)),
 .chain false (.sym 21) (aI [.ev (.bin .lss .int (.sym 2) (.sym 20))]
 (.ret (.sym 22))),
 .join 0 1 (.ite (.sym 22) (aI [.bQ f131 (.sym 5) [(.sym 0),(.sym 19),(.sym 2),(.sym 20),(.sym 4)] []]
 (.jump 0 [(.sym 24)] [])) (.jump 0 [(.sym 5)] [])),
 .ev (.bin .lss .int (.sym 1) (.sym 19)),
 .chain false (.sym 24) (aI [.ev (.bin .lss .int (.sym 19) (.sym 13))]
 (.ret (.sym 25))),
 .join 0 1 (.ite (.sym 25) (aI [.bQ f129 (.sym 23) [(.sym 0),(.sym 1),(.sym 19),(.sym 13),(.sym 4)] []]
 (.jump 0 [(.sym 27)] [])) (.jump 0 [(.sym 23)] [])),
 .ev (.bin .lss .int (.sym 13) (.sym 20)),
 .chain false (.sym 27) (aI [.ev (.bin .lss .int (.sym 20) (.sym 3))]
 (.ret (.sym 28))),
 .join 0 1 (.ite (.sym 28) (aI [.bQ f129 (.sym 26) [(.sym 0),(.sym 13),(.sym 20),(.sym 3),(.sym 4)] []]
 (.jump 0 [(.sym 30)] [])) (.jump 0 [(.sym 26)] []))]
 (.ret (.aa .ax (.aa (.sym 29) .ax))))))))

noncomputable def MS:U:=(aI [.ev (.bin .add .int (.sym 1) (ki 1)),
 .join 0 1 (.loop 1 [(.sym 5),(.sym 4)] (aI [.ev (.bin .lss .int (.sym 6) (.sym 2))]
 (.ite (.sym 8) (aI [.join 2 1 (aI [.join 3 6 (.loop 4 [(.sym 6),(.sym 7)] (aI [.ev (.bin .gtr .int (.sym 9) (.sym 1)),
 .chain false (.sym 11) (aI [.ev (.aj 1 (.sym 0) (.sym 9)),
 .ev (.ld false 1 (.sym 10) (.sym 12)),
 .ev (.bin .sub .int (.sym 9) (ki 1)),
 .ev (.aj 1 (.sym 0) (.sym 14)),
 .ev (.ld false 1 (.sym 10) (.sym 15)),
 .fu (.sym 3) (.sym 10) [(.sym 13),(.sym 16)] [true],
 .ev (.bin .lss .int (.sym 17) (ki 0))]
 (.ret (.sym 18)))]
 (.ite (.sym 12) (aI [.join 5 1 (aI [.ev (.bin .sub .int (.sym 9) (ki 1)),
 .ev (.bin .sub .int (.sym 9) (ki 1)),
 .ev (.aj 1 (.sym 0) (.sym 14)),
 .ev (.ld false 1 (.sym 10) (.sym 15)),
 .ev (.aj 1 (.sym 0) (.sym 9)),
 .ev (.ld false 1 (.sym 10) (.sym 17)),
 .ev (.aj 1 (.sym 0) (.sym 9)),
 .ev (.gQ 1 (.sym 10) (.sym 19) (.sym 16)),
 .ev (.aj 1 (.sym 0) (.sym 13)),
 .ev (.gQ 1 (.sym 20) (.sym 21) (.sym 18))]
 (.jump 5 [(.sym 22)] [])),
 .ev (.bin .sub .int (.sym 9) (ki 1))]
 (.jump 4 [(.sym 14),(.sym 13)] [])) (.jump 3 [(.sym 9),(.sym 9),(.sym 11),(.sym 11),(.sym 12),(.sym 10)] []))))]
 (.jump 2 [(.sym 14)] [])),
 .ev (.bin .add .int (.sym 6) (ki 1))]
 (.jump 1 [(.sym 10),(.sym 9)] [])) (.jump 0 [(.sym 7)] []))))]
 (.ret (.aa .ax (.aa (.sym 6) .ax))))

noncomputable def MQ (f128:FuncId)(f129:FuncId):U:=(aI [.join 0 3 (.loop 1 [(ki 0),(ki 20),(.sym 3)] (aI [.ev (.bin .leq .int (.sym 5) (.sym 1))]
 (.ite (.sym 7) (aI [.join 2 2 (aI [.bQ f128 (.sym 6) [(.sym 0),(.sym 4),(.sym 5),(.sym 2)] [],
 .ev (.bin .add .int (.sym 5) (ki 20))]
 (.jump 2 [(.sym 10),(.sym 9)] []))]
 (.jump 1 [(.sym 5),(.sym 8),(.sym 9)] [])) (.jump 0 [(.sym 4),(.sym 5),(.sym 6)] [])))),
 .bQ f128 (.sym 6) [(.sym 0),(.sym 4),(.sym 1),(.sym 2)] [],
 .join 0 1 (.loop 1 [(ki 20),(.sym 4),(.sym 5),(.sym 8)] (aI [.ev (.bin .lss .int (.sym 9) (.sym 1))]
 (.ite (.sym 13) (aI [.join 2 4 (aI [.ev (.bin .mul .int (ki 2) (.sym 9)),
 .join 3 5 (.loop 4 [(ki 0),(.sym 14),(.sym 12)] (aI [.ev (.bin .leq .int (.sym 16) (.sym 1))]
 (.ite (.sym 18) (aI [.join 5 2 (aI [.ev (.bin .add .int (.sym 15) (.sym 9)),
 .bQ f129 (.sym 17) [(.sym 0),(.sym 15),(.sym 19),(.sym 16),(.sym 2)] [],
 .ev (.bin .mul .int (ki 2) (.sym 9)),
 .ev (.bin .add .int (.sym 16) (.sym 22))]
 (.jump 5 [(.sym 23),(.sym 21)] []))]
 (.jump 4 [(.sym 16),(.sym 19),(.sym 20)] [])) (.jump 3 [(.sym 15),(.sym 16),(.sym 16),(.sym 18),(.sym 17)] [])))),
 .ev (.bin .add .int (.sym 15) (.sym 9)),
 .ev (.bin .lss .int (.sym 20) (.sym 1)),
 .join 3 1 (.ite (.sym 21) (aI [.bQ f129 (.sym 19) [(.sym 0),(.sym 15),(.sym 20),(.sym 1),(.sym 2)] []]
 (.jump 3 [(.sym 23)] [])) (.jump 3 [(.sym 19)] [])),
 .ev (.bin .mul .int (.sym 9) (ki 2))]
 (.jump 2 [(.sym 23),(.sym 15),(.sym 16),(.sym 22)] []))]
 (.jump 1 [(.sym 14),(.sym 15),(.sym 16),(.sym 17)] [])) (.jump 0 [(.sym 12)] []))))]
 (.ret (.aa .ax (.aa (.sym 9) .ax))))

noncomputable def MR (f122:FuncId):U:=(aI [.ev (.aR (.sym 0)),
 .bQ f122 (.sym 2) [(.sym 0),(.sym 3),(.sym 1)] []]
 (.ret (.aa .ax (.aa (.sym 5) .ax))))
end

section
def lt (c:Int→Int→Int)(x y:Int):Prop:=c x y<0∨(c x y=0∧x<y)

instance (c:Int→Int→Int) (x y:Int):Decidable (lt c x y):=by unfold lt;infer_instance

structure Ord (c:Int→Int→Int)(dom:Int→Prop):Prop where
 anti:∀x y,dom x→dom y→(c x y<0↔0<c y x)
 trans:∀x y z,dom x→dom y→dom z→c x y≤0→c y z≤0→c x z≤0

section
variable {c:Int→Int→Int} {dom:Int→Prop}

theorem Ord.lt_trans (h:Ord c dom){x y z:Int}(hx:dom x)(hy:dom y)(hz:dom z)(h1:lt c x y)(h2:lt c y z):lt c x z:=by
 unfold lt at *
 have a1:=h.anti x y hx hy
 have a2:=h.anti y z hy hz
 have a3:=h.anti x z hx hz
 have b1:=h.anti y x hy hx
 have b2:=h.anti z y hz hy
 have b3:=h.anti z x hz hx
 have t1:=h.trans x y z hx hy hz (by omega) (by omega)
 have t2:=h.trans z x y hz hx hy
 have t3:=h.trans y z x hy hz hx
 omega

theorem Ord.lt_asymm (h:Ord c dom){x y:Int}(hx:dom x)(hy:dom y)(h1:lt c x y)(h2:lt c y x):False:=by
 unfold lt at *
 have a1:=h.anti x y hx hy
 have b1:=h.anti y x hy hx
 omega

theorem Ord.KE (h:Ord c dom){x y:Int}(hx:dom x)(hy:dom y)(hne:x≠y):lt c x y∨lt c y x:=by
 unfold lt at *
 have a1:=h.anti x y hx hy
 have b1:=h.anti y x hy hx
 omega

theorem Ord.lt_iff (h:Ord c dom){x y:Int}(hx:dom x)(hy:dom y)(hlt:y<x):lt c x y↔c x y<0:=by
 unfold lt
 omega

theorem Ord.lt_iff' (h:Ord c dom){x y:Int}(hx:dom x)(hy:dom y)(hlt:y<x):lt c y x↔¬c x y<0:=by
 unfold lt
 have a1:=h.anti x y hx hy
 have b1:=h.anti y x hy hx
 omega

theorem uB (h:Ord c dom):∀{l1 l2:List Int},(∀x,x∈l1→dom x)→l1.Perm l2→l1.Pairwise (lt c)→l2.Pairwise (lt c)→l1=l2
 | [],l2,_,hp,_,_=>(List.nil_perm.1 hp).symm
 | a :: l1,[],_,hp,_,_=>by simp at hp
 | a :: l1,b :: l2,hd,hp,h1,h2=>by
  rw[List.pairwise_cons] at h1 h2
  have ha:a∈b :: l2:=hp.mem_iff.1 (by simp)
  have hb:b∈a :: l1:=hp.mem_iff.2 (by simp)
  have e:a=b:=by
   rcases List.mem_cons.1 ha with e | ha
   ·exact e
   ·rcases List.mem_cons.1 hb with e | hb
    ·exact e.symm
    ·exact(h.lt_asymm (hd a (by simp)) (hd b (by simp[hb])) (h1.1 b hb) (h2.1 a ha)).elim
  subst e
  rw[uB h (fun x hx=>hd x (by simp[hx])) ((List.perm_cons a).1 hp) h1.2 h2.2]

def ins (c:Int→Int→Int)(x:Int):List Int→List Int
 | []=>[x]
 | y :: r=>if lt c x y then x :: y :: r else y :: ins c x r

def so (c:Int→Int→Int):List Int→List Int
 | []=>[]
 | x :: l=>ins c x (so c l)

theorem nX (x:Int):∀l:List Int,(ins c x l).Perm (x :: l)
 | []=>.refl _
 | y :: r=>by
  unfold ins
  split
  ·exact .refl _
  ·exact((nX x r).cons y).trans (.swap x y r)

theorem lS:∀l:List Int,(so c l).Perm l
 | []=>.refl _
 | x :: l=>(nX x _).trans ((lS l).cons x)

theorem kW (l:List Int):(so c l).length=l.length:=(lS l).length_eq
theorem m_ {l:List Int}{x:Int}:x∈so c l↔x∈l:=(lS l).mem_iff

theorem pX (h:Ord c dom){x:Int}(hx:dom x):∀{l:List Int},(∀y,y∈l→dom y∧x≠y)→l.Pairwise (lt c)→(ins c x l).Pairwise (lt c)
 | [],_,_=>by simp[ins]
 | y :: r,hd,hp=>by
  have hy:=hd y (by simp)
  unfold ins
  split
  ·rename_i hlt
   rw[List.pairwise_cons]
   refine⟨fun z hz=>?_,hp⟩
   rcases List.mem_cons.1 hz with rfl | hz
   ·exact hlt
   ·exact h.lt_trans hx hy.1 (hd z (by simp[hz])).1 hlt ((List.pairwise_cons.1 hp).1 z hz)
  ·rename_i hlt
   rw[List.pairwise_cons] at hp ⊢
   refine⟨fun z hz=>?_,pX h hx (fun z hz=>hd z (by simp[hz])) hp.2⟩
   rcases List.mem_cons.1 ((nX x r).mem_iff.1 hz) with rfl | hz
   ·exact(h.KE hx hy.1 hy.2).resolve_left hlt
   ·exact hp.1 z hz

theorem iL (h:Ord c dom):∀{l:List Int},(∀x,x∈l→dom x)→l.Nodup→(so c l).Pairwise (lt c)
 | [],_,_=>by simp[so]
 | x :: l,hd,hn=>by
  rw[List.nodup_cons] at hn
  refine pX h (hd x (by simp)) (fun y hy=>?_) (iL h (fun y hy=>hd y (by simp[hy])) hn.2)
  have:=m_.1 hy
  exact⟨hd y (by simp[this]),fun e=>hn.1 (e ▸ this)⟩

theorem LN (h:Ord c dom){l r:List Int}(hd:∀x,x∈l→dom x)(hn:l.Nodup)(hp:r.Perm l)(hs:r.Pairwise (lt c)):r=so c l:=
 uB h (fun x hx=>hd x (hp.mem_iff.1 hx)) (hp.trans (lS l).symm) hs (iL h hd hn)

theorem TT (h:Ord c dom){l r:List Int}(hd:∀x,x∈l→dom x)(hn:l.Nodup)(hp:r.Perm l):so c r=so c l:=
 LN h hd hn ((lS r).trans hp) (iL h (fun x hx=>hd x (hp.mem_iff.1 hx)) (hp.nodup_iff.2 hn))

theorem kz {l:List Int}(h:l.Pairwise (·< ·)):l.Nodup:=h.imp fun {a b} (hab:a<b) e=>by omega

def blk (c:Int→Int→Int)(k:Nat)(l:List Int):List Int:=
 if h:0<k∧k<l.length then so c (l.take k)++blk c k (l.drop k) else so c l
termination_by l.length
decreasing_by simp;omega

theorem l6 {k:Nat}{l:List Int}(h:l.length≤k):blk c k l=so c l:=by
 rw[blk,dif_neg (by omega)]

theorem C_:so c []=[]:=rfl

end
end

section
set_option maxRecDepth 100000
set_option maxHeartbeats 4000000

abbrev J (n:Int):D:=.v (.int .i64 n)
abbrev V (b:Bool):D:=.v (.bool b)

def Row (bs:List D)(b:Nat)(e:TypeId)(xs:List Int):List D:=bs.set b (.blk e 1 (xs.map J))

section
variable {bs:List D} {b:Nat} {e:TypeId} {xs:List Int}

theorem PN (hb:b<bs.length):(Row bs b e xs)[b]? = some (.blk e 1 (xs.map J)):=by simp[Row,hb]
theorem iI (hb:b<bs.length){j:Nat}{x:Int}(hj:xs[j]? = some x):D.ld false 1 (.st (Row bs b e xs)) (.loc b (j*1))=some (J x):=by
 simp only[D.ld,D.gF,PN hb,Option.bind_some,Bool.false_eq_true,if_false]
 simp[hj]
theorem qp (hb:b<bs.length){j:Nat}(hj:j<xs.length){x:Int}:D.gQ 1 (.st (Row bs b e xs)) (.loc b (j*1)) (J x)=some (.st (Row bs b e (xs.set j x))):=by
 rw[mr (PN hb) (by simpa using hj) rfl]
 simp[Row]
end

variable {P:Program} {bs:List D} {b:Nat} {e:TypeId} {cf BU E4 Hg BV E5 Hh:cz} {fn:D} {f132 f131 f129 f128 f122 f108:FuncId}
end

section
section
variable {α:Type} [Inhabited α] {enc:α→Value}

theorem Lp {w:World}{b off:Nat}{d:Array α}{c:Array Value}{e:TypeId}{fr:Nat×Nat}(h:w.heap[b]? = some (.cells c e fr)) :
  (Sort.putRow enc w b off d).heap[b]? = some (.cells (Sort.putCells enc off d c) e fr):=by
 simp[Sort.putRow,Sort.mapBlock,Array.getElem?_modify,h,Sort.onCells]

theorem En {w:World}{b off k:Nat}{d:Array α}(h:k≠b):(Sort.putRow enc w b off d).heap[k]? = w.heap[k]?:=by
 simp[Sort.putRow,Sort.mapBlock,Array.getElem?_modify,Ne.symm h]

theorem size_putRow {w:World}{b off:Nat}{d:Array α}:(Sort.putRow enc w b off d).heap.size=w.heap.size:=by
 simp[Sort.putRow,Sort.mapBlock]

theorem xb (w:World)(b off:Nat)(d:Array α):Sort.putRow enc w b off d=Sort.putRow id w b off (d.map enc):=by
 refine Sort.mapBlock_congr w b _ _ fun c e fr _=>?_
 unfold Sort.putCells
 refine Array.ext_getElem? fun k=>?_
 simp only[Array.getElem?_mapIdx,Array.size_map]
 congr 1
 funext x
 split
 ·rename_i h
  have hk:k-off<d.size:=by omega
  rw[getElem!_pos d _ hk,getElem!_pos (d.map enc) _ (by simpa using hk)]
  simp
 ·rfl
end

theorem Dm {w w':World} {S:Sets} {aJ:Nat→Prop} {bs:List D} {b sz:Nat} {e:TypeId} {cs ys:List D} {zs:List Value} (hst:dF w S aJ bs) (hS:∀b o,S b o→b<w.heap.size) (hfl:∀b,aJ b→b<w.heap.size) (hb:bs[b]? = some (.blk e sz cs)) (hl:ys.length≤zs.length) (hz:zs.length≤cs.length)
  (hone:∀(j:Nat) (d:D),ys[j]? = some d→d.one=true) (hyz:∀(j:Nat) (v:Value) (d:D),zs[j]? = some v→ys[j]? = some d→bU w S v d)
  {q:Nat} {os:Array Obj} (hw:w'=Sort.grow (Sort.putRow id (Sort.ahead w q) (S.loc b) 0 zs.toArray) os) :
  dF w' S aJ (bs.set b (.blk e sz ys))∧bW S w w'∧w'.os=w.os∧TL w' w∧w'.output=w.output∧w.heap.size≤w'.heap.size∧(∀k,k<w.heap.size→¬aJ k→w'.heap[k]? = w.heap[k]?):=by
 obtain⟨hf,vs,⟨e0,hh,FL⟩,hsz,hlen,_,hr,oa⟩:=hst.cells b _ _ _ hb
 have hlt:S.loc b<w.heap.size:=hfl _ hf
 have RM:(Sort.putRow id (Sort.ahead w q) (S.loc b) 0 zs.toArray).heap.size=w.heap.size:=size_putRow
 have Lq:∀k,k<w.heap.size→w'.heap[k]? = (Sort.putRow id (Sort.ahead w q) (S.loc b) 0 zs.toArray).heap[k]?:=fun k hk=>by
  rw[hw]
  unfold Sort.grow
  simp only
  rw[Array.getElem?_append_left (by rw[RM];exact hk)]
 have mJ:∀k,k<w.heap.size→k≠S.loc b→w'.heap[k]? = w.heap[k]?:=fun k hk hne=>by
  rw[Lq k hk,En hne]
  rfl
 have hnew:w'.heap[S.loc b]? = some (.cells (Sort.putCells id 0 zs.toArray vs) e0 (0,0)):=by
  rw[Lq _ hlt]
  exact Lp (w:=Sort.ahead w q) hh
 have hK:bW S w w':=fun k o GM=>World.cell?_of_block (a:=⟨k,o,none⟩) (mJ k (hS k o GM) fun e=>oa o (e ▸ GM))
 refine⟨?_,hK,by rw[hw];rfl,⟨by rw[hw];rfl,by rw[hw];exact Nat.le_add_right _ _⟩,by rw[hw];rfl,by rw[hw];unfold Sort.grow;simp only[Array.size_append];rw[RM];omega,fun k hk hnf=>mJ k hk fun e=>hnf (e ▸ hf)⟩
 refine hst.set hK hb rfl (fun j x hj hx hne=>mJ _ (hfl _ (hst.jl hj hx)) hne) (fun e' sz' cs' My=>?_) (fun dL My=>by cases My) (fun My=>by cases My)
 cases My
 refine⟨_,⟨e0,hnew,FL⟩,by simp[Sort.putCells,hsz],by simp[Sort.putCells];omega,hone,fun j v d hv hd=>?_⟩
 have hj:j<zs.length:=Nat.lt_of_lt_of_le (List.getElem?_eq_some_iff.1 hd).1 hl
 simp only[Sort.putCells,Array.getElem?_mapIdx,Option.map_eq_some_iff] at hv
 obtain⟨x,_,hx⟩:=hv
 rw[if_pos ⟨Nat.zero_le _,by simp;omega⟩] at hx
 have UR:zs[j]? = some v:=by
  rw[List.getElem?_eq_getElem hj,←hx]
  simp only[Nat.sub_zero,List.getElem!_toArray,id_eq]
  rw[getElem!_pos zs j hj]
 exact(hyz j v d UR hd).keep hK (Sets.le_refl _)
end

section
theorem Qbj {w w':World} {S:Sets} {aJ:Nat→Prop} {bs:List D} {b:Nat} {e:TypeId} {xs ys zs:List Int} (hst:dF w S aJ bs) (hS:∀b o,S b o→b<w.heap.size) (hfl:∀b,aJ b→b<w.heap.size) (hb:bs[b]? = some (.blk e 1 (xs.map J))) (hl:ys.length≤xs.length) (hz:zs.length=xs.length) (hyz:∀j,j<ys.length→zs[j]? = ys[j]?)
  {q:Nat} {os:Array Obj} (hw:w'=Sort.grow (Sort.putRow (Value.int .i64) (Sort.ahead w q) (S.loc b) 0 zs.toArray) os) :
  dF w' S aJ (bs.set b (.blk e 1 (ys.map J)))∧bW S w w'∧w'.os=w.os∧TL w' w∧w'.output=w.output∧w.heap.size≤w'.heap.size∧(∀k,k<w.heap.size→¬aJ k→w'.heap[k]? = w.heap[k]?):=by
 rw[xb] at hw
 refine Dm (zs:=zs.map (Value.int .i64)) hst hS hfl hb (by simp;omega) (by simp;omega) (fun j d hd=>?_) (fun j v d hv hd=>?_) (by simpa using hw)
 ·simp only[List.getElem?_map,Option.map_eq_some_iff] at hd
  obtain⟨n,_,rfl⟩:=hd
  rfl
 ·simp only[List.getElem?_map,Option.map_eq_some_iff] at hd hv
  obtain⟨n,hn,rfl⟩:=hd
  obtain⟨m,hm,rfl⟩:=hv
  have hj:j<ys.length:=(List.getElem?_eq_some_iff.1 hn).1
  rw[hyz j hj,hn] at hm
  cases hm
  exact .v rfl

theorem Aj {w:World}{S:Sets}{aJ:Nat→Prop}{bs:List D}{b:Nat}{e:TypeId}{xs:List Int}(hst:dF w S aJ bs)(hb:bs[b]? = some (.blk e 1 (xs.map J))):Sort.Holds (Value.int .i64) w (S.loc b) 0 xs.toArray:=by
 obtain⟨hf,vs,⟨e0,hh,_⟩,hsz,hlen,hone,hr,oa⟩:=hst.cells b _ _ _ hb
 intro j hj
 have hj':j<xs.length:=by simpa using hj
 have hvl:xs.length≤vs.size:=by simpa using hlen
 have hv:vs[j]? = some vs[j]:=Array.getElem?_eq_getElem (by omega)
 have h:=hr j vs[j] (J xs[j]) hv (by simp[hj'])
 have hx:vs[j]=.int .i64 xs[j]:=by
  generalize vs[j]=v at h
  cases h
  rfl
 refine⟨?_,?_⟩
 ·rw[Nat.zero_add,gD hh,hv,hx]
  simp[hj']
 ·simp[World.frozen?,hh]

variable {P:Program} {f:FuncId}

theorem adL (h:∀(blk off cap:Nat) (zs:List Int) (w:World),Sort.Holds (Value.int .i64) w blk off zs.toArray→blk<w.heap.size→zs.length<4611686018427387904→Calls P f #[.slice (some ⟨blk,off,none⟩) zs.length cap] w fun e w'=>e=.returned (.tuple #[])∧∃n os,w'=Sort.grow (Sort.putRow (Value.int .i64) (Sort.ahead w n) blk off (zs.mergeSort fun x y=>decide (x≤y)).toArray) os)
  {bs:List D} {b:Nat} {e:TypeId} {xs:List Int} (hb:bs[b]? = some (.blk e 1 (xs.map J))) (hL:xs.length<4611686018427387904) :
  bk P f (.st bs) [.sl b 0 xs.length] (.bh []) (.st (bs.set b (.blk e 1 ((xs.mergeSort fun x y=>decide (x≤y)).map J)))):=by
 intro w S aJ rp vs heq hst dP hfl hS hvl hrd
 cases heq
 obtain⟨v,rfl⟩:∃v,vs=#[v]:=by
  match vs,hvl with
  | ⟨[v]⟩,_=>exact⟨v,rfl⟩
 have hv:=hrd 0 v (.sl b 0 xs.length) rfl rfl
 cases hv with
 | sl hn hl hc h0=>
  rename_i c
  obtain⟨hf,_⟩:=hst.cells b _ _ _ hb
  refine(h (S.loc b) 0 c xs w (Aj hst hb) (hfl _ hf) hL).mono ?_
  rintro _ w' ⟨rfl,q,os,hw⟩
  obtain⟨k1,k2,k3,k4,k5,k6,k7⟩:=Qbj (ys:=xs.mergeSort fun x y=>decide (x≤y)) hst hS hfl hb (by simp) (by simp) (fun _ _=>rfl) hw
  exact⟨.tuple #[],S,aJ,_,⟨rfl,.bh rfl fun i v d hv=>by simp at hv⟩,rfl,k1,k2,Sets.le_refl _,k3,k4,k5,k6,k7,fun k hk=>⟨.inl hk,Nat.lt_of_lt_of_le (hfl k hk) k6⟩,fun k o hk=>.inl hk,fun k o hk=>Nat.lt_of_lt_of_le (hS k o hk) k6⟩

theorem adM (h:∀(p:Option Addr) (cap:Nat) (w:World),Calls P f #[.slice p 0 cap] w fun e w'=>e=.returned (.tuple #[])∧∃n,w'=Sort.ahead w n){bs:List D}:bk P f (.st bs) [.cq] (.bh []) (.st bs):=by
 intro w S aJ rp vs heq hst dP hfl hS hvl hrd
 cases heq
 obtain⟨v,rfl⟩:∃v,vs=#[v]:=by
  match vs,hvl with
  | ⟨[v]⟩,_=>exact⟨v,rfl⟩
 have hv:=hrd 0 v .cq rfl rfl
 cases hv
 refine(h none 0 w).mono ?_
 rintro _ w' ⟨rfl,n,rfl⟩
 have fp:dF (Sort.ahead w n) S aJ bs:=⟨hst.n,fun i e sz cs hi=>by
  obtain⟨a1,vs,a2,a3,a4,a5,a6,a7⟩:=hst.cells i e sz cs hi
  exact⟨a1,vs,a2,a3,a4,a5,fun j v d hv hd=>(a6 j v d hv hd).keep (fun _ _ _=>rfl) (Sets.le_refl _),a7⟩,hst.Cw,fun i dL hi=>by
  obtain⟨a1,es,cl,a2,a3,a4,a5⟩:=hst.maps i dL hi
  refine⟨a1,es,cl,a2,a3,a4,fun j e kv he hkv=>?_⟩
  obtain⟨dk,dv,b1,b2,b3⟩:=a5 j e kv he hkv
  exact⟨dk,dv,b1,b2.keep (fun _ _ _=>rfl) (Sets.le_refl _),b3.keep (fun _ _ _=>rfl) (Sets.le_refl _)⟩,hst.inj,hst.FJ⟩
 exact⟨.tuple #[],S,aJ,_,⟨rfl,.bh rfl fun i v d hv=>by simp at hv⟩,rfl,fp,fun _ _ _=>rfl,Sets.le_refl _,rfl,⟨rfl,Nat.le_add_right _ _⟩,rfl,Nat.le_refl _,fun _ _ _=>rfl,fun k hk=>⟨.inl hk,hfl k hk⟩,fun k o hk=>.inl hk,fun k o hk=>hS k o hk⟩
end
end Go.Am.jy
