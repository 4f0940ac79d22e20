/-
  Several texts, one behind the other.
-/
import Derived.Test.YthkepocejfghcaaAmFntoAmSt2
import Derived.Test.YthkepocejfghcaaAmSortP
import Derived.Test.YthkepocejfghcaaAmKilltoAmOut
set_option linter.unusedSimpArgs false
set_option linter.unusedVariables false
/-
 Stable sorting: the library's functions,as texts over the numbers of those that they call.
-/
namespace Go.Am.Srt

noncomputable def uSwp:U:=(ups [.join 0 1 (.loop 1 [(ki 0),(.sym 5)] (ups [.ev (.bin .lss .int (.sym 6) (.sym 3))]
 (.ite (.sym 8) (ups [.join 2 1 (ups [.ev (.bin .add .int (.sym 1) (.sym 6)),
 .ev (.bin .add .int (.sym 2) (.sym 6)),
 .ev (.bin .add .int (.sym 2) (.sym 6)),
 .ev (.eaddr 1 (.sym 0) (.sym 11)),
 .ev (.ld false 1 (.sym 7) (.sym 12)),
 .ev (.bin .add .int (.sym 1) (.sym 6)),
 .ev (.eaddr 1 (.sym 0) (.sym 14)),
 .ev (.ld false 1 (.sym 7) (.sym 15)),
 .ev (.eaddr 1 (.sym 0) (.sym 9)),
 .ev (.sto 1 (.sym 7) (.sym 17) (.sym 13)),
 .ev (.eaddr 1 (.sym 0) (.sym 10)),
 .ev (.sto 1 (.sym 18) (.sym 19) (.sym 16))]
 (.jump 2 [(.sym 20)] [])),
 .ev (.bin .add .int (.sym 6) (ki 1))]
 (.jump 1 [(.sym 10),(.sym 9)] [])) (.jump 0 [(.sym 7)] []))))]
 (.ret (.tcons .tnil (.tcons (.sym 6) .tnil))))

noncomputable def uRot (f132:FuncId):U:=(ups [.ev (.bin .sub .int (.sym 2) (.sym 1)),
 .ev (.bin .sub .int (.sym 3) (.sym 2)),
 .join 0 2 (.loop 1 [(.sym 6),(.sym 7),(.sym 5)] (ups [.ev (.bin .neq .int (.sym 8) (.sym 9))]
 (.ite (.sym 11) (ups [.join 2 3 (ups [.ev (.bin .gtr .int (.sym 8) (.sym 9)),
 .join 3 3 (.ite (.sym 12) (ups [.ev (.bin .sub .int (.sym 2) (.sym 8)),
 .wcall f132 (.sym 10) [(.sym 0),(.sym 13),(.sym 2),(.sym 9),(.sym 4)] [],
 .ev (.bin .sub .int (.sym 8) (.sym 9))]
 (.jump 3 [(.sym 16),(.sym 9),(.sym 15)] [])) (ups [.ev (.bin .sub .int (.sym 2) (.sym 8)),
 .ev (.bin .add .int (.sym 2) (.sym 9)),
 .ev (.bin .sub .int (.sym 14) (.sym 8)),
 .wcall f132 (.sym 10) [(.sym 0),(.sym 13),(.sym 15),(.sym 8),(.sym 4)] [],
 .ev (.bin .sub .int (.sym 9) (.sym 8))]
 (.jump 3 [(.sym 8),(.sym 18),(.sym 17)] [])))]
 (.jump 2 [(.sym 13),(.sym 14),(.sym 15)] []))]
 (.jump 1 [(.sym 12),(.sym 13),(.sym 14)] [])) (.jump 0 [(.sym 8),(.sym 10)] [])))),
 .ev (.bin .sub .int (.sym 2) (.sym 8)),
 .wcall f132 (.sym 9) [(.sym 0),(.sym 10),(.sym 2),(.sym 8),(.sym 4)] []]
 (.ret (.tcons .tnil (.tcons (.sym 12) .tnil))))

noncomputable def uSym (f131:FuncId)(f129:FuncId):U:=(ups [.ev (.bin .sub .int (.sym 2) (.sym 1)),
 .ev (.bin .eql .int (.sym 6) (ki 1))]
 (.ite (.sym 7) (ups [.join 0 1 (.loop 1 [(.sym 2),(.sym 3)] (ups [.ev (.bin .lss .int (.sym 8) (.sym 9))]
 (.ite (.sym 10) (ups [.join 2 2 (ups [.ev (.bin .add .int (.sym 8) (.sym 9)),
 .ev (.conv .u64 (.sym 11)),
 .ev (.bin .shr .int (.sym 12) (.const (.v (.int .u64 1)))),
 .ev (.conv .i64 (.sym 13)),
 .ev (.eaddr 1 (.sym 0) (.sym 14)),
 .ev (.ld false 1 (.sym 5) (.sym 15)),
 .ev (.eaddr 1 (.sym 0) (.sym 1)),
 .ev (.ld false 1 (.sym 5) (.sym 17)),
 .callv (.sym 4) (.sym 5) [(.sym 16),(.sym 18)] [true],
 .ev (.bin .lss .int (.sym 19) (ki 0)),
 .join 3 2 (.ite (.sym 20) (ups [.ev (.bin .add .int (.sym 14) (ki 1))]
 (.jump 3 [(.sym 21),(.sym 9)] [])) (.jump 3 [(.sym 8),(.sym 14)] []))]
 (.jump 2 [(.sym 21),(.sym 22)] []))]
 (.jump 1 [(.sym 11),(.sym 12)] [])) (.jump 0 [(.sym 8)] [])))),
 .join 0 1 (.loop 1 [(.sym 1),(.sym 5)] (ups [.ev (.bin .sub .int (.sym 8) (ki 1)),
 .ev (.bin .lss .int (.sym 9) (.sym 11))]
 (.ite (.sym 12) (ups [.join 2 1 (ups [.ev (.bin .add .int (.sym 9) (ki 1)),
 .ev (.bin .add .int (.sym 9) (ki 1)),
 .ev (.eaddr 1 (.sym 0) (.sym 14)),
 .ev (.ld false 1 (.sym 10) (.sym 15)),
 .ev (.eaddr 1 (.sym 0) (.sym 9)),
 .ev (.ld false 1 (.sym 10) (.sym 17)),
 .ev (.eaddr 1 (.sym 0) (.sym 9)),
 .ev (.sto 1 (.sym 10) (.sym 19) (.sym 16)),
 .ev (.eaddr 1 (.sym 0) (.sym 13)),
 .ev (.sto 1 (.sym 20) (.sym 21) (.sym 18))]
 (.jump 2 [(.sym 22)] [])),
 .ev (.bin .add .int (.sym 9) (ki 1))]
 (.jump 1 [(.sym 14),(.sym 13)] [])) (.jump 0 [(.sym 10)] []))))]
 (.ret (.tcons .tnil (.tcons (.sym 9) .tnil)))) (ups [.ev (.bin .sub .int (.sym 3) (.sym 2)),
 .ev (.bin .eql .int (.sym 8) (ki 1))]
 (.ite (.sym 9) (ups [.join 0 1 (.loop 1 [(.sym 1),(.sym 2)] (ups [.ev (.bin .lss .int (.sym 10) (.sym 11))]
 (.ite (.sym 12) (ups [.join 2 2 (ups [.ev (.bin .add .int (.sym 10) (.sym 11)),
 .ev (.conv .u64 (.sym 13)),
 .ev (.bin .shr .int (.sym 14) (.const (.v (.int .u64 1)))),
 .ev (.conv .i64 (.sym 15)),
 .ev (.eaddr 1 (.sym 0) (.sym 2)),
 .ev (.ld false 1 (.sym 5) (.sym 17)),
 .ev (.eaddr 1 (.sym 0) (.sym 16)),
 .ev (.ld false 1 (.sym 5) (.sym 19)),
 .callv (.sym 4) (.sym 5) [(.sym 18),(.sym 20)] [true],
 .ev (.bin .lss .int (.sym 21) (ki 0)),
 .ev (.un .not (.sym 22)),
 .join 3 2 (.ite (.sym 23) (ups [.ev (.bin .add .int (.sym 16) (ki 1))]
 (.jump 3 [(.sym 24),(.sym 11)] [])) (.jump 3 [(.sym 10),(.sym 16)] []))]
 (.jump 2 [(.sym 24),(.sym 25)] []))]
 (.jump 1 [(.sym 13),(.sym 14)] [])) (.jump 0 [(.sym 10)] [])))),
 .join 0 1 (.loop 1 [(.sym 2),(.sym 5)] (ups [.ev (.bin .gtr .int (.sym 11) (.sym 10))]
 (.ite (.sym 13) (ups [.join 2 1 (ups [.ev (.bin .sub .int (.sym 11) (ki 1)),
 .ev (.bin .sub .int (.sym 11) (ki 1)),
 .ev (.eaddr 1 (.sym 0) (.sym 15)),
 .ev (.ld false 1 (.sym 12) (.sym 16)),
 .ev (.eaddr 1 (.sym 0) (.sym 11)),
 .ev (.ld false 1 (.sym 12) (.sym 18)),
 .ev (.eaddr 1 (.sym 0) (.sym 11)),
 .ev (.sto 1 (.sym 12) (.sym 20) (.sym 17)),
 .ev (.eaddr 1 (.sym 0) (.sym 14)),
 .ev (.sto 1 (.sym 21) (.sym 22) (.sym 19))]
 (.jump 2 [(.sym 23)] [])),
 .ev (.bin .sub .int (.sym 11) (ki 1))]
 (.jump 1 [(.sym 15),(.sym 14)] [])) (.jump 0 [(.sym 12)] []))))]
 (.ret (.tcons .tnil (.tcons (.sym 11) .tnil)))) (ups [.ev (.bin .add .int (.sym 1) (.sym 3)),
 .ev (.conv .u64 (.sym 10)),
 .ev (.bin .shr .int (.sym 11) (.const (.v (.int .u64 1)))),
 .ev (.conv .i64 (.sym 12)),
 .ev (.bin .add .int (.sym 13) (.sym 2)),
 .ev (.bin .gtr .int (.sym 2) (.sym 13)),
 .join 0 2 (.ite (.sym 15) (ups [.ev (.bin .sub .int (.sym 14) (.sym 3))]
 (.jump 0 [(.sym 16),(.sym 13)] [])) (.jump 0 [(.sym 1),(.sym 2)] [])),
 .ev (.bin .sub .int (.sym 14) (ki 1)),
 .join 0 1 (.loop 1 [(.sym 16),(.sym 17)] (ups [.ev (.bin .lss .int (.sym 19) (.sym 20))]
 (.ite (.sym 21) (ups [.join 2 2 (ups [.ev (.bin .add .int (.sym 19) (.sym 20)),
 .ev (.conv .u64 (.sym 22)),
 .ev (.bin .shr .int (.sym 23) (.const (.v (.int .u64 1)))),
 .ev (.conv .i64 (.sym 24)),
 .ev (.bin .sub .int (.sym 18) (.sym 25)),
 .ev (.eaddr 1 (.sym 0) (.sym 26)),
 .ev (.ld false 1 (.sym 5) (.sym 27)),
 .ev (.eaddr 1 (.sym 0) (.sym 25)),
 .ev (.ld false 1 (.sym 5) (.sym 29)),
 .callv (.sym 4) (.sym 5) [(.sym 28),(.sym 30)] [true],
 .ev (.bin .lss .int (.sym 31) (ki 0)),
 .ev (.un .not (.sym 32)),
 .join 3 2 (.ite (.sym 33) (ups [.ev (.bin .add .int (.sym 25) (ki 1))]
 (.jump 3 [(.sym 34),(.sym 20)] [])) (.jump 3 [(.sym 19),(.sym 25)] []))]
 (.jump 2 [(.sym 34),(.sym 35)] []))]
 (.jump 1 [(.sym 22),(.sym 23)] [])) (.jump 0 [(.sym 19)] [])))),
 .ev (.bin .sub .int (.sym 14) (.sym 19)),
 .ev (.bin .lss .int (.sym 19) (.sym 2)),
 .chain false (.sym 21) (ups [.ev (.bin .lss .int (.sym 2) (.sym 20))]
 (.ret (.sym 22))),
 .join 0 1 (.ite (.sym 22) (ups [.wcall f131 (.sym 5) [(.sym 0),(.sym 19),(.sym 2),(.sym 20),(.sym 4)] []]
 (.jump 0 [(.sym 24)] [])) (.jump 0 [(.sym 5)] [])),
 .ev (.bin .lss .int (.sym 1) (.sym 19)),
 .chain false (.sym 24) (ups [.ev (.bin .lss .int (.sym 19) (.sym 13))]
 (.ret (.sym 25))),
 .join 0 1 (.ite (.sym 25) (ups [.wcall f129 (.sym 23) [(.sym 0),(.sym 1),(.sym 19),(.sym 13),(.sym 4)] []]
 (.jump 0 [(.sym 27)] [])) (.jump 0 [(.sym 23)] [])),
 .ev (.bin .lss .int (.sym 13) (.sym 20)),
 .chain false (.sym 27) (ups [.ev (.bin .lss .int (.sym 20) (.sym 3))]
 (.ret (.sym 28))),
 .join 0 1 (.ite (.sym 28) (ups [.wcall f129 (.sym 26) [(.sym 0),(.sym 13),(.sym 20),(.sym 3),(.sym 4)] []]
 (.jump 0 [(.sym 30)] [])) (.jump 0 [(.sym 26)] []))]
 (.ret (.tcons .tnil (.tcons (.sym 29) .tnil))))))))

noncomputable def uIns:U:=(ups [.ev (.bin .add .int (.sym 1) (ki 1)),
 .join 0 1 (.loop 1 [(.sym 5),(.sym 4)] (ups [.ev (.bin .lss .int (.sym 6) (.sym 2))]
 (.ite (.sym 8) (ups [.join 2 1 (ups [.join 3 6 (.loop 4 [(.sym 6),(.sym 7)] (ups [.ev (.bin .gtr .int (.sym 9) (.sym 1)),
 .chain false (.sym 11) (ups [.ev (.eaddr 1 (.sym 0) (.sym 9)),
 .ev (.ld false 1 (.sym 10) (.sym 12)),
 .ev (.bin .sub .int (.sym 9) (ki 1)),
 .ev (.eaddr 1 (.sym 0) (.sym 14)),
 .ev (.ld false 1 (.sym 10) (.sym 15)),
 .callv (.sym 3) (.sym 10) [(.sym 13),(.sym 16)] [true],
 .ev (.bin .lss .int (.sym 17) (ki 0))]
 (.ret (.sym 18)))]
 (.ite (.sym 12) (ups [.join 5 1 (ups [.ev (.bin .sub .int (.sym 9) (ki 1)),
 .ev (.bin .sub .int (.sym 9) (ki 1)),
 .ev (.eaddr 1 (.sym 0) (.sym 14)),
 .ev (.ld false 1 (.sym 10) (.sym 15)),
 .ev (.eaddr 1 (.sym 0) (.sym 9)),
 .ev (.ld false 1 (.sym 10) (.sym 17)),
 .ev (.eaddr 1 (.sym 0) (.sym 9)),
 .ev (.sto 1 (.sym 10) (.sym 19) (.sym 16)),
 .ev (.eaddr 1 (.sym 0) (.sym 13)),
 .ev (.sto 1 (.sym 20) (.sym 21) (.sym 18))]
 (.jump 5 [(.sym 22)] [])),
 .ev (.bin .sub .int (.sym 9) (ki 1))]
 (.jump 4 [(.sym 14),(.sym 13)] [])) (.jump 3 [(.sym 9),(.sym 9),(.sym 11),(.sym 11),(.sym 12),(.sym 10)] []))))]
 (.jump 2 [(.sym 14)] [])),
 .ev (.bin .add .int (.sym 6) (ki 1))]
 (.jump 1 [(.sym 10),(.sym 9)] [])) (.jump 0 [(.sym 7)] []))))]
 (.ret (.tcons .tnil (.tcons (.sym 6) .tnil))))

noncomputable def uStb (f128:FuncId)(f129:FuncId):U:=(ups [.join 0 3 (.loop 1 [(ki 0),(ki 20),(.sym 3)] (ups [.ev (.bin .leq .int (.sym 5) (.sym 1))]
 (.ite (.sym 7) (ups [.join 2 2 (ups [.wcall f128 (.sym 6) [(.sym 0),(.sym 4),(.sym 5),(.sym 2)] [],
 .ev (.bin .add .int (.sym 5) (ki 20))]
 (.jump 2 [(.sym 10),(.sym 9)] []))]
 (.jump 1 [(.sym 5),(.sym 8),(.sym 9)] [])) (.jump 0 [(.sym 4),(.sym 5),(.sym 6)] [])))),
 .wcall f128 (.sym 6) [(.sym 0),(.sym 4),(.sym 1),(.sym 2)] [],
 .join 0 1 (.loop 1 [(ki 20),(.sym 4),(.sym 5),(.sym 8)] (ups [.ev (.bin .lss .int (.sym 9) (.sym 1))]
 (.ite (.sym 13) (ups [.join 2 4 (ups [.ev (.bin .mul .int (ki 2) (.sym 9)),
 .join 3 5 (.loop 4 [(ki 0),(.sym 14),(.sym 12)] (ups [.ev (.bin .leq .int (.sym 16) (.sym 1))]
 (.ite (.sym 18) (ups [.join 5 2 (ups [.ev (.bin .add .int (.sym 15) (.sym 9)),
 .wcall f129 (.sym 17) [(.sym 0),(.sym 15),(.sym 19),(.sym 16),(.sym 2)] [],
 .ev (.bin .mul .int (ki 2) (.sym 9)),
 .ev (.bin .add .int (.sym 16) (.sym 22))]
 (.jump 5 [(.sym 23),(.sym 21)] []))]
 (.jump 4 [(.sym 16),(.sym 19),(.sym 20)] [])) (.jump 3 [(.sym 15),(.sym 16),(.sym 16),(.sym 18),(.sym 17)] [])))),
 .ev (.bin .add .int (.sym 15) (.sym 9)),
 .ev (.bin .lss .int (.sym 20) (.sym 1)),
 .join 3 1 (.ite (.sym 21) (ups [.wcall f129 (.sym 19) [(.sym 0),(.sym 15),(.sym 20),(.sym 1),(.sym 2)] []]
 (.jump 3 [(.sym 23)] [])) (.jump 3 [(.sym 19)] [])),
 .ev (.bin .mul .int (.sym 9) (ki 2))]
 (.jump 2 [(.sym 23),(.sym 15),(.sym 16),(.sym 22)] []))]
 (.jump 1 [(.sym 14),(.sym 15),(.sym 16),(.sym 17)] [])) (.jump 0 [(.sym 12)] []))))]
 (.ret (.tcons .tnil (.tcons (.sym 9) .tnil))))

noncomputable def uSrt (f122:FuncId):U:=(ups [.ev (.lenL (.sym 0)),
 .wcall f122 (.sym 2) [(.sym 0),(.sym 3),(.sym 1)] []]
 (.ret (.tcons .tnil (.tcons (.sym 5) .tnil))))

end Go.Am.Srt

/-
 Stable sorting: exchanges,rotation,insertion.
-/
namespace Go.Am.Srt
set_option maxRecDepth 100000
set_option maxHeartbeats 4000000

abbrev J (n:Int):D:=.v (.int .i64 n)
abbrev V (b:Bool):D:=.v (.bool b)

def Row (bs:List D)(b:Nat)(e:TypeId)(xs:List Int):List D:=bs.set b (.blk e 1 (xs.map J))

section
variable {bs:List D} {b:Nat} {e:TypeId} {xs:List Int}

theorem row_get (hb:b<bs.length):(Row bs b e xs)[b]? = some (.blk e 1 (xs.map J)):=by simp[Row,hb]
theorem row_ld (hb:b<bs.length){j:Nat}{x:Int}(hj:xs[j]? = some x):D.ld false 1 (.st (Row bs b e xs)) (.loc b (j*1))=some (J x):=by
 simp only[D.ld,D.cellsAt,row_get hb,Option.bind_some,Bool.false_eq_true,if_false]
 simp[hj]
theorem row_sto (hb:b<bs.length){j:Nat}(hj:j<xs.length){x:Int}:D.sto 1 (.st (Row bs b e xs)) (.loc b (j*1)) (J x)=some (.st (Row bs b e (xs.set j x))):=by
 rw[sto_blk (row_get hb) (by simpa using hj) rfl]
 simp[Row]
end

theorem bin_addN {m k:Nat}(h:m+k<4611686018427387904):D.bin .add .int (J m) (J k)=some (J ((m+k:Nat):Int)):=by
 have h':-9223372036854775808≤(m:Int)+k∧(m:Int)+k<9223372036854775808:=by omega
 simp only[D.bin,cmpI,arI,wrap64 h',if_true,Option.map_some]
 simp
theorem bin_subN {m k:Nat}(h:k≤m)(h2:m<4611686018427387904):D.bin .sub .int (J m) (J k)=some (J ((m-k:Nat):Int)):=by
 have h':-9223372036854775808≤(m:Int)-k∧(m:Int)-k<9223372036854775808:=by omega
 simp only[D.bin,cmpI,arI,wrap64 h',if_true,Option.map_some]
 simp
 omega
theorem bin_mul2 {k:Nat}(h:2*k<4611686018427387904):D.bin .mul .int (J 2) (J k)=some (J ((2*k:Nat):Int)):=by
 have h':-9223372036854775808≤(2:Int)*k∧(2:Int)*k<9223372036854775808:=by omega
 simp only[D.bin,cmpI,arI,wrap64 h',if_true,Option.map_some]
 simp
theorem bin_mul2' {k:Nat}(h:2*k<4611686018427387904):D.bin .mul .int (J k) (J 2)=some (J ((2*k:Nat):Int)):=by
 have h':-9223372036854775808≤(k:Int)*2∧(k:Int)*2<9223372036854775808:=by omega
 simp only[D.bin,cmpI,arI,wrap64 h',if_true,Option.map_some]
 simp
 omega
theorem bin_shr1 {k:Nat}:D.bin .shr .int (.v (.int .u64 k)) (.v (.int .u64 1))=some (.v (.int .u64 ((k / 2:Nat):Int))):=by
 simp[D.bin,shI,IntKind.bits,Int.fdiv_eq_ediv_of_nonneg]
theorem e_toU {y:E}{env:List D}{s:Nat}(hs:s<4611686018427387904)(h:y.eval env=some (J s)):(E.conv .u64 y).eval env=some (.v (.int .u64 s)):=by
 simp only[E.eval,h,Option.bind_some,D.conv,IntKind.wrap,IntKind.bits,IntKind.signed]
 simp
 omega
theorem e_toI {y:E}{env:List D}{s:Nat}(hs:s<4611686018427387904)(h:y.eval env=some (.v (.int .u64 s))):(E.conv .i64 y).eval env=some (J s):=by
 simp only[E.eval,h,Option.bind_some,D.conv]
 rw[wrap64 (by omega)]

variable {P:Program} {bs:List D} {b:Nat} {e:TypeId} {cf cf132 cf131 cf129 cf128 cf122 cf108:StCfg} {fn:D} {f132 f131 f129 f128 f122 f108:FuncId}

theorem swap_part {X Y M S T:List Int}{x y:Int}(hl:X.length=Y.length):((T++X++(x :: M)++Y++(y :: S)).set (T.length+X.length) y).set (T.length+X.length+1+M.length+Y.length) x=T++X++(y :: M)++Y++(x :: S):=by
 simp only[List.append_assoc,List.cons_append]
 rw[List.set_append_right _ _ (by omega),List.set_append_right _ _ (by omega),List.set_append_right _ _ (by omega),List.set_append_right _ _ (by omega)]
 simp only[show T.length+X.length-T.length-X.length=0 by omega,List.set_cons_zero,show T.length+X.length+1+M.length+Y.length-T.length-X.length=M.length+Y.length+1 by omega,List.set_cons_succ]
 rw[List.set_append_right _ _ (by omega),List.set_append_right _ _ (by omega)]
 simp only[show M.length+Y.length-M.length-Y.length=0 by omega,List.set_cons_zero]

theorem swp (h132:UOk P f132 .plain cf132 [true,true,true,true,true] uSwp)(hb:b<bs.length){T U M W S:List Int}(hUW:U.length=W.length){n:Nat}(hn:(T++U++M++W++S).length=n)(hL:n<1000000000)(hfn:fn.one=true) :
  FSpecW P f132 (.st (Row bs b e (T++U++M++W++S))) [.sl b 0 n,J T.length,J ((T.length+U.length+M.length:Nat):Int),J U.length,fn] (.tup []) (.st (Row bs b e (T++W++M++U++S))):=by
 simp only[List.length_append] at hn
 refine h132.W (by simpa[argsFit,D.one] using hfn) ?_
 unfold uSwp
 simp only[ups_cons,ups_nil,List.cons_append,List.nil_append]
 repeat' ((with_reducible refine u_join ?_))
 refine u_range (fun i=>[J i,.st (Row bs b e (T++W.take i++(U.drop i++M)++U.take i++(W.drop i++S)))]) (fun _=>True) U.length ?_ (fun _=>rfl) trivial (fun i hi _ R hR=>?_) (fun _ R=>?_)
 ·simp[evalAll,E.eval]
 ·have hiW:i<W.length:=by omega
  have hr:=hR trivial
  obtain⟨u,hu⟩:∃u,U[i]? = some u:=⟨_,List.getElem?_eq_getElem hi⟩
  obtain⟨w,hw⟩:∃w,W[i]? = some w:=⟨_,List.getElem?_eq_getElem hiW⟩
  have e1:U.drop i=u :: U.drop (i+1):=by rw[List.drop_eq_getElem_cons hi,(List.getElem?_eq_some_iff.1 hu).2]
  have e2:W.drop i=w :: W.drop (i+1):=by rw[List.drop_eq_getElem_cons hiW,(List.getElem?_eq_some_iff.1 hw).2]
  have e3:U.take (i+1)=U.take i++[u]:=by rw[List.take_add_one,hu];rfl
  have e4:W.take (i+1)=W.take i++[w]:=by rw[List.take_add_one,hw];rfl
  rw[e1,e2]
  rw[e3,e4] at hr
  obtain⟨X,hX⟩:∃X,X=T++W.take i++(u :: U.drop (i+1)++M)++U.take i++(w :: W.drop (i+1)++S):=⟨_,rfl⟩
  have l1:(W.take i).length=i:=by simp;omega
  have l2:(U.take i).length=i:=by simp;omega
  have l3:(U.drop (i+1)++M).length=U.length-(i+1)+M.length:=by simp
  have g1:X[T.length+i]? = some u:=by
   rw[hX]
   simp only[List.append_assoc,List.cons_append]
   rw[List.getElem?_append_right (by omega),List.getElem?_append_right (by omega),l1]
   rw[show T.length+i-T.length-i=0 by omega]
   rfl
  have g2:X[T.length+U.length+M.length+i]? = some w:=by
   rw[hX]
   simp only[List.append_assoc,List.cons_append]
   rw[List.getElem?_append_right (by omega),List.getElem?_append_right (by omega),l1]
   rw[show T.length+U.length+M.length+i-T.length-i=U.length-(i+1)+M.length+i+1 by omega,List.getElem?_cons_succ]
   rw[List.getElem?_append_right (by simp;omega),List.getElem?_append_right (by simp;omega),List.getElem?_append_right (by simp;omega)]
   rw[show U.length-(i+1)+M.length+i-(U.drop (i+1)).length-M.length-(U.take i).length=0 by simp;omega]
   rfl
  have hXl:X.length=n:=by rw[hX];simp;omega
  have sw:(X.set (T.length+i) w).set (T.length+U.length+M.length+i) u=T++(W.take i++[w])++(U.drop (i+1)++M)++(U.take i++[u])++(W.drop (i+1)++S):=by
   rw[hX]
   have:=swap_part (T:=T) (X:=W.take i) (x:=u) (M:=U.drop (i+1)++M) (Y:=U.take i) (y:=w) (S:=W.drop (i+1)++S) (by omega)
   rw[l1,l2,l3] at this
   rw[show T.length+U.length+M.length+i=T.length+i+1+(U.length-(i+1)+M.length)+i by omega]
   simp only[List.append_assoc,List.cons_append,List.nil_append] at this ⊢
   exact this
  rw[←hX]
  rw[←sw] at hr
  have s1:T.length+i<X.length:=by omega
  have s2:T.length+U.length+M.length+i<(X.set (T.length+i) w).length:=by simp;omega
  repeat' (first|(apply nrm;simp only[sbe];rfl)|(apply u_ld;rfl;rfl;(·first|exact row_ld hb g1|exact row_ld hb g2);simp only[sbe];rfl)|(apply u_eaddr;rfl;rfl;(·exact eaddr_sl (by omega));simp only[sbe];rfl)|(apply u_sto;rfl;rfl;rfl;(·first|exact row_sto hb s1|exact row_sto hb s2);simp only[sbe];rfl)|(apply u_bin;rfl;rfl;(·exact bin_addN (by omega));simp only[sbe];rfl)|(apply u_inc;rfl;omega;simp only[sbe];rfl)|(apply u_ev;rfl;simp only[sbe];rfl)|refine u_join ?_|(apply u_jump;rfl;rfl)|refine at_jump ?_|refine kj rfl ?_|(apply u_ite;rfl;all_goals (intro hz;(try simp only[sbs] at hz);first|(exact absurd hz (by decide))|(exfalso;omega)|skip)))
  exact hr
 ·have w1:W.take U.length=W:=by rw[hUW,List.take_length]
  have w2:W.drop U.length=[]:=by rw[hUW,List.drop_length]
  rw[w1,w2,List.take_length,List.drop_length,List.nil_append,List.nil_append]
  repeat' (first|(apply nrm;simp only[sbe];rfl)|(apply u_ev;rfl;simp only[sbe];rfl)|(apply u_jump;rfl;rfl)|refine at_jump ?_|(refine over_jump (by decide) ?_)|refine kj rfl ?_|(apply u_ite;rfl;all_goals (intro hz;(try simp only[sbs] at hz);first|(exact absurd hz (by decide))|(exfalso;omega)|skip))|exact u_ret rfl rfl)

theorem rot (h131:UOk P f131 .plain cf131 [true,true,true,true,true] (uRot f132))(h132:UOk P f132 .plain cf132 [true,true,true,true,true] uSwp)(hb:b<bs.length){T A B S:List Int}{n:Nat}(hn:(T++A++B++S).length=n)(hL:n<1000000000)(hA:0<A.length)(hB:0<B.length)(hfn:fn.one=true) :
  FSpecW P f131 (.st (Row bs b e (T++A++B++S))) [.sl b 0 n,J T.length,J ((T.length+A.length:Nat):Int),J ((T.length+A.length+B.length:Nat):Int),fn] (.tup []) (.st (Row bs b e (T++B++A++S))):=by
 simp only[List.length_append] at hn
 refine h131.W (by simpa[argsFit,D.one] using hfn) ?_
 unfold uRot
 simp only[ups_cons,ups_nil,List.cons_append,List.nil_append]
 have i1:=bin_subN (m:=T.length+A.length) (k:=T.length) (by omega) (by omega)
 have i2:=bin_subN (m:=T.length+A.length+B.length) (k:=T.length+A.length) (by omega) (by omega)
 rw[show T.length+A.length-T.length=A.length by omega] at i1
 rw[show T.length+A.length+B.length-(T.length+A.length)=B.length by omega] at i2
 repeat' (first|(apply u_bin;rfl;rfl;(·first|exact i1|exact i2);simp only[sbe];rfl)|refine u_join ?_)
 refine u_loop (fun k ds=>∃T' A' B' S':List Int,ds=[J A'.length,J B'.length,.st (Row bs b e (T'++A'++B'++S'))]∧T'++B'++A'++S'=T++B++A++S∧T'.length+A'.length=T.length+A.length∧0<A'.length∧0<B'.length∧k=A'.length+B'.length) rfl (A.length+B.length) ⟨T,A,B,S,rfl,rfl,rfl,hA,hB,rfl⟩ ?_
 rintro k _ ⟨T',A',B',S',rfl,hE,hm,hA',hB',rfl⟩
 have hlen:=congrArg List.length hE
 simp only[List.length_append] at hlen
 refine⟨rfl,fun R hR=>?_⟩
 by_cases hne:A'.length=B'.length
 ·have hf:((A'.length:Int) != (B'.length:Int))=false:=by simp[hne]
  have hs:=swp h132 hb (T:=T') (U:=A') (M:=[]) (W:=B') (S:=S') (e:=e) hne (n:=n) (by simp;omega) hL hfn
  simp only[List.append_nil,List.length_nil,Nat.add_zero,hE,hm] at hs
  have j1:=bin_subN (m:=T.length+A.length) (k:=A'.length) (by omega) (by omega)
  rw[show T.length+A.length-A'.length=T'.length by omega] at j1
  repeat' (first|(apply nrm;simp only[sbe];rfl)|(apply u_iteF;rfl;exact hf)|(apply u_bin;rfl;rfl;exact j1;simp only[sbe];rfl)|(apply u_ev;rfl;simp only[sbe];rfl)|(apply u_wcall;rfl;rfl;exact hs;rfl;simp only[sbe];rfl)|(apply u_jump;rfl;rfl)|refine at_jump ?_|(refine over_jump (by decide) ?_)|refine kj rfl ?_|exact u_ret rfl rfl)
 ·have ht:((A'.length:Int) != (B'.length:Int))=true:=by simp;omega
  by_cases hgt:B'.length<A'.length
  ·have ht2:decide ((A'.length:Int) > (B'.length:Int))=true:=by simp;omega
   obtain⟨U,M,rfl,hU⟩:∃U M,A'=U++M∧U.length=B'.length:=⟨A'.take B'.length,A'.drop B'.length,(List.take_append_drop _ _).symm,by simp;omega⟩
   have hs:=swp h132 hb (T:=T') (U:=U) (M:=M) (W:=B') (S:=S') (e:=e) hU (n:=n) (by simp at hlen ⊢;omega) hL hfn
   simp only[List.length_append] at hlen hm hgt ht ht2
   have j1:=bin_subN (m:=T.length+A.length) (k:=U.length+M.length) (by omega) (by omega)
   rw[show T.length+A.length-(U.length+M.length)=T'.length by omega] at j1
   have j2:=bin_subN (m:=U.length+M.length) (k:=B'.length) (by omega) (by omega)
   rw[show U.length+M.length-B'.length=M.length by omega] at j2
   rw[show T'.length+U.length+M.length=T.length+A.length by omega,hU] at hs
   rw[List.length_append]
   have hr:=hR (M.length+U.length) _ (by simp;omega) ⟨T'++B',M,U,S',rfl,by rw[←hE];simp,by simp;omega,by omega,by omega,rfl⟩
   rw[hU] at hr
   simp only[List.append_assoc] at hs hr ⊢
   repeat' (first|(apply nrm;simp only[sbe];rfl)|(apply u_iteT;rfl;(·first|exact ht|exact ht2))|(apply u_bin;rfl;rfl;(·first|exact j1|exact j2);simp only[sbe];rfl)|(apply u_ev;rfl;simp only[sbe];rfl)|(apply u_wcall;rfl;rfl;exact hs;rfl;simp only[sbe];rfl)|refine u_join ?_|(apply u_jump;rfl;rfl)|refine at_jump ?_|refine kj rfl ?_)
   exact hr
  ·have hf2:decide ((A'.length:Int) > (B'.length:Int))=false:=by simp;omega
   obtain⟨M,W,rfl,hW⟩:∃M W,B'=M++W∧W.length=A'.length:=⟨B'.take (B'.length-A'.length),B'.drop (B'.length-A'.length),(List.take_append_drop _ _).symm,by simp;omega⟩
   have hs:=swp h132 hb (T:=T') (U:=A') (M:=M) (W:=W) (S:=S') (e:=e) hW.symm (n:=n) (by simp at hlen ⊢;omega) hL hfn
   simp only[List.length_append] at hlen hm hgt ht hf2
   have j1:=bin_subN (m:=T.length+A.length) (k:=A'.length) (by omega) (by omega)
   rw[show T.length+A.length-A'.length=T'.length by omega] at j1
   have j2:=bin_addN (m:=T.length+A.length) (k:=M.length+W.length) (by omega)
   have j3:=bin_subN (m:=T.length+A.length+(M.length+W.length)) (k:=A'.length) (by omega) (by omega)
   rw[show T.length+A.length+(M.length+W.length)-A'.length=T'.length+A'.length+M.length by omega] at j3
   have j4:=bin_subN (m:=M.length+W.length) (k:=A'.length) (by omega) (by omega)
   rw[show M.length+W.length-A'.length=M.length by omega] at j4
   rw[List.length_append]
   have hr:=hR (W.length+M.length) _ (by rw[List.length_append];omega) ⟨T',W,M,A'++S',rfl,by rw[←hE];simp,by omega,by omega,by rw[List.length_append] at hne hB';omega,rfl⟩
   rw[hW] at hr
   simp only[List.append_assoc] at hs hr ⊢
   repeat' (first|(apply nrm;simp only[sbe];rfl)|(apply u_iteT;rfl;exact ht)|(apply u_iteF;rfl;exact hf2)|(apply u_bin;rfl;rfl;(·first|exact j1|exact j2|exact j3|exact j4);simp only[sbe];rfl)|(apply u_ev;rfl;simp only[sbe];rfl)|(apply u_wcall;rfl;rfl;exact hs;rfl;simp only[sbe];rfl)|refine u_join ?_|(apply u_jump;rfl;rfl)|refine at_jump ?_|refine kj rfl ?_)
   exact hr

end Go.Am.Srt

/-
 Stable sorting: insertion.
-/
namespace Go.Am.Srt
set_option maxRecDepth 100000
set_option maxHeartbeats 4000000

theorem loop_exitK {P:Program}{u:U}{env:List D}{Q:Sig→Prop}{K:List D→Prop}{n:Nat}(K':List D→Prop)(h:denU P u env (catchL n K' (fun _=>False)))(k:∀ds,K' ds→K ds):denU P u env (catchL n K Q):=
 denU_mono (fun s hs=>by
  cases s with
  | jump l' ds=>
   simp only[catchL] at hs ⊢
   split
   ·rename_i e;rw[if_pos e] at hs;exact k _ hs
   ·rename_i e;rw[if_neg e] at hs;exact hs.elim
  | ret d=>exact hs.elim
  | pan d st sl kd=>exact hs.elim) h

variable {P:Program} {bs:List D} {b:Nat} {e:TypeId} {cf cf132 cf131 cf129 cf128 cf122 cf108:StCfg} {f132 f131 f129 f128 f122 f108 g:FuncId} {c:Int→Int→Int} {dom:Int→Prop} {us cs:List D}

def CmpOk (P:Program)(bs:List D)(b:Nat)(e:TypeId)(g:FuncId)(us cs:List D)(c:Int→Int→Int)(dom:Int→Prop):Prop:=
 callable P g=true∧∀xs x y,dom x→dom y→FSpecR P g (.st (Row bs b e xs)) (us++[J x,J y]++cs) (J (c x y))

theorem at_mid {A B:List Int}{x:Int}{n:Nat}(h:n=A.length):(A++x :: B)[n]? = some x:=by subst h;simp
theorem at_mid1 {A B:List Int}{x y:Int}{n:Nat}(h:n=A.length+1):(A++x :: y :: B)[n]? = some y:=by
 subst h
 rw[List.getElem?_append_right (by omega),show A.length+1-A.length=1 by omega]
 rfl
theorem sw_mid {A B:List Int}{x y:Int}:((A++y :: x :: B).set (A.length+1) y).set A.length x=A++x :: y :: B:=by
 rw[List.set_append_right _ _ (by omega),show A.length+1-A.length=1 by omega]
 simp only[List.set_cons_succ,List.set_cons_zero]
 rw[List.set_append_right _ _ (by omega),Nat.sub_self,List.set_cons_zero]
theorem sw_mid' {A B:List Int}{x y:Int}:((A++x :: y :: B).set A.length y).set (A.length+1) x=A++y :: x :: B:=by
 rw[List.set_append_right _ _ (by omega),Nat.sub_self,List.set_cons_zero]
 rw[List.set_append_right _ _ (by omega),show A.length+1-A.length=1 by omega]
 rfl

theorem ins_done (hO:Ord c dom){L':List Int}{x:Int}(hd:∀z,z∈L'→dom z)(hx:dom x)(ha:∀z,z∈L'→z<x)(hn:L'.Nodup){M1 M2:List Int}(hM:M1++M2=so c L')(h2:∀y,y∈M2→lt c x y)(h1:∀M1' y,M1=M1'++[y]→¬c x y<0):M1++x :: M2=so c (L'++[x]):=by
 have hmem:∀z,z∈M1++M2↔z∈L':=fun z=>by rw[hM];exact so_mem
 have hs:=so_sorted hO hd hn
 rw[←hM,List.pairwise_append] at hs
 have hd':∀z,z∈L'++[x]→dom z:=fun z hz=>by
  rcases List.mem_append.1 hz with hz | hz
  ·exact hd z hz
  ·simp at hz;rw[hz];exact hx
 have hn':(L'++[x]).Nodup:=by
  rw[List.nodup_append]
  refine⟨hn,by simp,fun a h b hb=>?_⟩
  simp at hb
  have:=ha a h
  omega
 refine eq_so hO hd' hn' ?_ ?_
 ·refine(List.perm_middle).trans ?_
  rw[hM]
  exact((so_perm L').cons x).trans (by simpa using(List.perm_append_comm (l₁:=[x]) (l₂:=L')))
 ·rw[List.pairwise_append]
  have k1:∀z,z∈M1→lt c z x:=fun z hz=>by
   rcases List.eq_nil_or_concat M1 with e | ⟨M1',y,e⟩
   ·rw[e] at hz;cases hz
   ·rw[List.concat_eq_append] at e
    have hy:y∈L':=(hmem y).1 (by simp[e])
    have hyx:=(hO.lt_iff' hx (hd y hy) (ha y hy)).2 (h1 M1' y e)
    rw[e] at hz
    rcases List.mem_append.1 hz with hz | hz
    ·have hz':z∈L':=(hmem z).1 (by simp[e,hz])
     have hp:=hs.1
     rw[e,List.pairwise_append] at hp
     exact hO.lt_trans (hd z hz') (hd y hy) hx (hp.2.2 z hz y (by simp)) hyx
    ·simp at hz;rw[hz];exact hyx
  refine⟨hs.1,List.pairwise_cons.2 ⟨h2,hs.2.1⟩,fun z hz w hw=>?_⟩
  rcases List.mem_cons.1 hw with rfl | hw
  ·exact k1 z hz
  ·exact hs.2.2 z hz w hw

theorem insr (h128:UOk P f128 .plain cf128 [true,true,true,true] uIns)(hb:b<bs.length)(hO:Ord c dom)(hc:CmpOk P bs b e g us cs c dom){T L S:List Int}{n:Nat}(hn:(T++L++S).length=n)(hL:n<1000000000)(hd:∀z,z∈L→dom z)(ha:L.Pairwise (·< ·)) :
  FSpecW P f128 (.st (Row bs b e (T++L++S))) [.sl b 0 n,J T.length,J ((T.length+L.length:Nat):Int),.fn g us cs] (.tup []) (.st (Row bs b e (T++so c L++S))):=by
 simp only[List.length_append] at hn
 refine h128.W rfl ?_
 unfold uIns
 simp only[ups_cons,ups_nil,List.cons_append,List.nil_append]
 repeat' (first|(apply u_inc;rfl;omega;simp only[sbe];rfl)|refine u_join ?_)
 refine u_range (fun i=>[J ((T.length+1+i:Nat):Int),.st (Row bs b e (T++so c (L.take (i+1))++L.drop (i+1)++S))]) (fun _=>True) (L.length-1) ?_ (fun _=>rfl) trivial (fun i hi _ R hR=>?_) (fun _ R=>?_)
 ·cases L with
  | nil=>simp[evalAll,E.eval,so]
  | cons x L=>simp[evalAll,E.eval,so,ins]
 ·have hr:=hR trivial
  have hi1:i+1<L.length:=by omega
  obtain⟨x,hx⟩:∃x,L[i+1]? = some x:=⟨_,List.getElem?_eq_getElem hi1⟩
  have hxe:L[i+1]=x:=by rw[List.getElem?_eq_getElem hi1] at hx;simpa using hx
  have e1:L.drop (i+1)=x :: L.drop (i+2):=by rw[List.drop_eq_getElem_cons hi1,hxe]
  have e2:L.take (i+2)=L.take (i+1)++[x]:=by rw[List.take_add_one,hx];rfl
  have hxm:x∈L:=hxe ▸ List.getElem_mem hi1
  have hlt:∀z,z∈L.take (i+1)→z<x:=fun z hz=>by
   have:=List.pairwise_append.1 ((List.take_append_drop (i+1) L).symm ▸ ha)
   exact this.2.2 z hz x (by rw[e1];simp)
  have hd1:∀z,z∈L.take (i+1)→dom z:=fun z hz=>hd z (List.mem_of_mem_take hz)
  have hn1:(L.take (i+1)).Nodup:=grow_nodup (ha.sublist (List.take_sublist _ _))
  have hlt1:(so c (L.take (i+1))).length=i+1:=by rw[so_len];simp;omega
  have hc1:decide (((T.length+1+i:Nat):Int)<((T.length+L.length:Nat):Int))=true:=by simp;omega
  rw[show i+1+1=i+2 by omega,e2] at hr
  rw[e1]
  repeat' (first|(apply nrm;simp only[sbe];rfl)|(apply u_iteT;rfl;exact hc1)|(apply u_ev;rfl;simp only[sbe];rfl)|refine u_join ?_)
  refine loop_exitK (fun ds=>∃d1 d2 d3 d4 d5:D,ds=[d1,d2,d3,d4,d5,.st (Row bs b e (T++so c (L.take (i+1)++[x])++L.drop (i+2)++S))]) ?_ ?_
  ·refine u_loop (fun k ds=>∃M1 M2:List Int,M1++M2=so c (L.take (i+1))∧ds=[J ((T.length+M1.length:Nat):Int),.st (Row bs b e (T++(M1++x :: M2)++L.drop (i+2)++S))]∧(∀y,y∈M2→lt c x y)∧k=M1.length) rfl (i+1) ⟨so c (L.take (i+1)),[],by simp,?_,(fun _ h=>by cases h),hlt1.symm⟩ ?_
   ·rw[hlt1]
    simp only[List.append_assoc,List.cons_append,List.nil_append]
    rw[show T.length+(i+1)=T.length+1+i by omega]
   rintro k _ ⟨M1,M2,hM,rfl,h2,rfl⟩
   refine⟨rfl,fun R2 hR2=>?_⟩
   have hlM:=congrArg List.length hM
   rw[List.length_append,hlt1] at hlM
   rcases List.eq_nil_or_concat M1 with rfl | ⟨M1',y,e1M⟩
   ·have hf:decide (((T.length+([]:List Int).length:Nat):Int) > (T.length:Int))=false:=by simp
    have hdn:=ins_done hO hd1 (hd x hxm) hlt hn1 hM h2 (fun M1' y h=>by simp at h)
    repeat' (first|(apply nrm;simp only[sbe];rfl)|(apply u_andF;rfl;exact hf)|(apply u_iteF;rfl;exact rfl)|(apply u_ev;rfl;simp only[sbe];rfl)|(apply u_jump;rfl;rfl)|refine at_jump ?_|(refine over_jump (by decide) ?_))
    rw[List.nil_append] at hdn
    rw[hdn]
    exact⟨_,_,_,_,_,rfl⟩
   ·rw[List.concat_eq_append] at e1M
    subst e1M
    simp only[List.length_append,List.length_cons,List.length_nil,Nat.zero_add] at hlM ⊢
    have ht:decide (((T.length+(M1'.length+1):Nat):Int) > (T.length:Int))=true:=by simp;omega
    have hyL:y∈L.take (i+1):=by rw[←so_mem (c:=c),←hM];simp
    have hcal:=hc.2 (T++(M1'++[y]++x :: M2)++L.drop (i+2)++S) x y (hd x hxm) (hd1 y hyL)
    obtain⟨X,hX⟩:∃X,X=T++(M1'++[y]++x :: M2)++L.drop (i+2)++S:=⟨_,rfl⟩
    obtain⟨A,hA⟩:∃A,A=T++M1':=⟨_,rfl⟩
    obtain⟨Z,hZ⟩:∃Z,Z=M2++(L.drop (i+2)++S):=⟨_,rfl⟩
    have hXA:X=A++y :: x :: Z:=by rw[hX,hA,hZ];simp
    have hAl:A.length=T.length+M1'.length:=by rw[hA];simp
    have hXl:X.length=n:=by
     rw[hX]
     simp
     omega
    rw[←hX] at hcal ⊢
    have g1:X[T.length+(M1'.length+1)]? = some x:=by rw[hXA];exact at_mid1 (by omega)
    have g2:X[T.length+(M1'.length+1)-1]? = some y:=by rw[hXA];exact at_mid (by omega)
    have s1:T.length+(M1'.length+1)<X.length:=by rw[hXA];simp;omega
    have s2:T.length+(M1'.length+1)-1<(X.set (T.length+(M1'.length+1)) y).length:=by rw[List.length_set];omega
    have sw:(X.set (T.length+(M1'.length+1)) y).set (T.length+(M1'.length+1)-1) x=T++(M1'++x :: ([y]++M2))++L.drop (i+2)++S:=by
     rw[hXA,show T.length+(M1'.length+1)=A.length+1 by omega,show A.length+1-1=A.length by omega,sw_mid,hA,hZ]
     simp
    have hpc:=hc.1
    by_cases hlt2:c x y<0
    ·have hcc:(true&&decide (c x y<0))=true:=by simp[hlt2]
     have hr2:=hR2 M1'.length _ (by rw[List.length_append,List.length_cons,List.length_nil];omega) ⟨M1',[y]++M2,by rw[←hM];simp,rfl,fun z hz=>by
      rcases List.mem_append.1 hz with hz | hz
      ·simp at hz
       rw[hz]
       exact(hO.lt_iff (hd x hxm) (hd1 y hyL) (hlt y hyL)).2 hlt2
      ·exact h2 z hz,rfl⟩
     rw[←sw] at hr2
     repeat' (first|(apply nrm;simp only[sbe];rfl)|(apply u_ld;rfl;rfl;(·first|exact row_ld hb g1|exact row_ld hb g2);simp only[sbe];rfl)|(apply u_eaddr;rfl;rfl;(·exact eaddr_sl (by omega));simp only[sbe];rfl)|(apply u_sto;rfl;rfl;rfl;(·first|exact row_sto hb s1|exact row_sto hb s2);simp only[sbe];rfl)|(apply u_pred;rfl;omega;simp only[sbe];rfl)|(apply u_ev;rfl;simp only[sbe];rfl)|(apply u_callv;rfl;exact hpc;rfl;rfl;exact hcal;rfl;simp only[sbe];rfl)|(apply u_and;rfl)|refine u_join ?_|(apply u_jump;rfl;rfl)|refine at_jump ?_|refine kj rfl ?_|(apply u_ite;rfl;all_goals (intro hz;(try simp only[sbs] at hz);first|(exact absurd hz (by decide))|(exfalso;omega)|skip))|exact u_ret rfl rfl|(intro hz;(try simp only[sbs] at hz)))
     exact hr2
    ·have hcc:(true&&decide (c x y<0))=false:=by simp[hlt2]
     have hdn:=ins_done hO hd1 (hd x hxm) hlt hn1 hM h2 (fun M1'' y' h=>by
      have:=List.append_inj_right' h rfl
      simp at this
      rw[←this]
      exact hlt2)
     repeat' (first|(apply nrm;simp only[sbe];rfl)|(apply u_ld;rfl;rfl;(·first|exact row_ld hb g1|exact row_ld hb g2);simp only[sbe];rfl)|(apply u_eaddr;rfl;rfl;(·exact eaddr_sl (by omega));simp only[sbe];rfl)|(apply u_pred;rfl;omega;simp only[sbe];rfl)|(apply u_ev;rfl;simp only[sbe];rfl)|(apply u_callv;rfl;exact hpc;rfl;rfl;exact hcal;rfl;simp only[sbe];rfl)|(apply u_and;rfl)|(apply u_jump;rfl;rfl)|refine at_jump ?_|(refine over_jump (by decide) ?_)|(apply u_ite;rfl;all_goals (intro hz;(try simp only[sbs] at hz);first|(exact absurd hz (by decide))|(exfalso;omega)|skip))|exact u_ret rfl rfl|(intro hz;(try simp only[sbs] at hz)))
     rw[hX,hdn]
     exact⟨_,_,_,_,_,rfl⟩
  ·rintro _ ⟨d1,d2,d3,d4,d5,rfl⟩
   refine kj rfl ?_
   repeat' (first|(apply nrm;simp only[sbe];rfl)|(apply u_inc;rfl;omega;simp only[sbe];rfl)|(apply u_jump;rfl;rfl)|refine at_jump ?_|refine kj rfl ?_)
   exact hr
 ·have e1:L.take (L.length-1+1)=L:=List.take_of_length_le (by omega)
  have e2:L.drop (L.length-1+1)=[]:=List.drop_of_length_le (by omega)
  have hf:decide (((T.length+1+(L.length-1):Nat):Int)<((T.length+L.length:Nat):Int))=false:=by simp;omega
  rw[e1,e2,List.append_nil]
  repeat' (first|(apply nrm;simp only[sbe];rfl)|(apply u_iteF;rfl;exact hf)|(apply u_ev;rfl;simp only[sbe];rfl)|(apply u_jump;rfl;rfl)|refine at_jump ?_|(refine over_jump (by decide) ?_)|refine kj rfl ?_|exact u_ret rfl rfl)

end Go.Am.Srt

/-
 Stable sorting: two sorted parts that lie side by side.
-/
namespace Go.Am.Srt
set_option maxRecDepth 100000
set_option maxHeartbeats 4000000

section
variable {c:Int→Int→Int} {dom:Int→Prop}

theorem cross (hO:Ord c dom){X Y:List Int}(dX:∀z,z∈X→dom z)(dY:∀z,z∈Y→dom z)(hX:X.Pairwise (lt c))(hY:Y.Pairwise (lt c))(h:∀X' x y Y',X=X'++[x]→Y=y :: Y'→lt c x y):∀z,z∈X→∀w,w∈Y→lt c z w:=by
 intro z hz w hw
 rcases List.eq_nil_or_concat X with e | ⟨X',x,e⟩
 ·rw[e] at hz;cases hz
 ·rw[List.concat_eq_append] at e
  cases Y with
  | nil=>cases hw
  | cons y Y'=>
   have hxy:=h X' x y Y' e rfl
   have hx:x∈X:=by rw[e];simp
   have h1:lt c z y:=by
    rw[e] at hz hX
    rcases List.mem_append.1 hz with hz | hz
    ·have:=(List.pairwise_append.1 hX).2.2 z hz x (by simp)
     exact hO.lt_trans (dX z (by rw[e];simp[hz])) (dX x hx) (dY y (by simp)) this hxy
    ·simp at hz;rw[hz];exact hxy
   rcases List.mem_cons.1 hw with rfl | hw'
   ·exact h1
   ·exact hO.lt_trans (dX z hz) (dY y (by simp)) (dY w (by simp[hw'])) h1 ((List.pairwise_cons.1 hY).1 w hw')

theorem so_self (hO:Ord c dom){l:List Int}(hd:∀x,x∈l→dom x)(hs:l.Pairwise (lt c)):so c l=l:=by
 have hn:l.Nodup:=by
  have aux:∀l:List Int,(∀x,x∈l→dom x)→l.Pairwise (lt c)→l.Nodup:=by
   intro l
   induction l with
   | nil=>intro _ _;exact List.nodup_nil
   | cons a l ih=>
    intro hd hs
    rw[List.pairwise_cons] at hs
    rw[List.nodup_cons]
    exact⟨fun h=>hO.lt_asymm (hd a (by simp)) (hd a (by simp)) (hs.1 a h) (hs.1 a h),ih (fun x hx=>hd x (by simp[hx])) hs.2⟩
  exact aux l hd hs
 exact(eq_so hO hd hn (.refl _) hs).symm

variable {A1 A2 B1 B2:List Int}

theorem nodup_ab {A B:List Int}(hA:A.Nodup)(hB:B.Nodup)(hlt:∀x,x∈A→∀y,y∈B→x<y):(A++B).Nodup:=by
 rw[List.nodup_append]
 exact⟨hA,hB,fun a ha b hb=>by have:=hlt a ha b hb;omega⟩

theorem nodup_of (hO:Ord c dom){l:List Int}(hd:∀x,x∈l→dom x)(hs:l.Pairwise (lt c)):l.Nodup:=by
 induction l with
 | nil=>exact List.nodup_nil
 | cons a l ih=>
  rw[List.pairwise_cons] at hs
  rw[List.nodup_cons]
  exact⟨fun h=>hO.lt_asymm (hd a (by simp)) (hd a (by simp)) (hs.1 a h) (hs.1 a h),ih (fun x hx=>hd x (by simp[hx])) hs.2⟩

theorem mrg (hO:Ord c dom) (dA:∀z,z∈A1++A2→dom z) (dB:∀z,z∈B1++B2→dom z) (hA:(A1++A2).Pairwise (lt c)) (hB:(B1++B2).Pairwise (lt c)) (hlt:∀x,x∈A1++A2→∀y,y∈B1++B2→x<y)
  (h1:∀A1' x y B2',A1=A1'++[x]→B2=y :: B2'→¬c y x<0) (h2:∀B1' y x A2',B1=B1'++[y]→A2=x :: A2'→c y x<0):so c (A1++B1)++so c (A2++B2)=so c (A1++A2++(B1++B2)):=by
 have pA:=List.pairwise_append.1 hA
 have pB:=List.pairwise_append.1 hB
 have mA1:∀z,z∈A1→z∈A1++A2:=fun z h=>by simp[h]
 have mA2:∀z,z∈A2→z∈A1++A2:=fun z h=>by simp[h]
 have mB1:∀z,z∈B1→z∈B1++B2:=fun z h=>by simp[h]
 have mB2:∀z,z∈B2→z∈B1++B2:=fun z h=>by simp[h]
 have dd:∀z,z∈A1++A2++(B1++B2)→dom z:=fun z hz=>(List.mem_append.1 hz).elim (dA z) (dB z)
 have nn:=nodup_ab (nodup_of hO dA hA) (nodup_of hO dB hB) hlt
 have perm:(A1++B1++(A2++B2)).Perm (A1++A2++(B1++B2)):=by
  simp only[List.append_assoc]
  refine List.Perm.append_left A1 ?_
  rw[←List.append_assoc,←List.append_assoc]
  exact List.Perm.append_right B2 List.perm_append_comm
 have nn2:=perm.nodup_iff.2 nn
 have dd2:∀z,z∈A1++B1++(A2++B2)→dom z:=fun z hz=>dd z (perm.mem_iff.1 hz)
 refine eq_so hO dd nn (((so_perm _).append (so_perm _)).trans perm) ?_
 rw[List.nodup_append] at nn2
 rw[List.pairwise_append]
 refine⟨so_sorted hO (fun z hz=>dd2 z (by rw[List.mem_append];exact .inl hz)) nn2.1,so_sorted hO (fun z hz=>dd2 z (by rw[List.mem_append];exact .inr hz)) nn2.2.1,fun z hz w hw=>?_⟩
 have hz:=List.mem_append.1 (so_mem.1 hz)
 have hw:=List.mem_append.1 (so_mem.1 hw)
 rcases hz with hz | hz
 ·rcases hw with hw | hw
  ·exact pA.2.2 z hz w hw
  ·refine cross hO (fun z hz=>dA z (mA1 z hz)) (fun z hz=>dB z (mB2 z hz)) pA.1 pB.2.1 (fun X' x y Y' e1 e2=>?_) z hz w hw
   have hx:x∈A1++A2:=by rw[e1];simp
   have hy:y∈B1++B2:=by rw[e2];simp
   exact(hO.lt_iff' (dB y hy) (dA x hx) (hlt x hx y hy)).2 (h1 X' x y Y' e1 e2)
 ·rcases hw with hw | hw
  ·refine cross hO (fun z hz=>dB z (mB1 z hz)) (fun z hz=>dA z (mA2 z hz)) pB.1 pA.2.1 (fun X' x y Y' e1 e2=>?_) z hz w hw
   have hx:x∈B1++B2:=by rw[e1];simp
   have hy:y∈A1++A2:=by rw[e2];simp
   exact(hO.lt_iff (dB x hx) (dA y hy) (hlt y hy x hx)).2 (h2 X' x y Y' e1 e2)
  ·exact pB.2.2 z hz w hw

theorem mrg_one (hO:Ord c dom) {x:Int} (dx:dom x) (dB:∀z,z∈B1++B2→dom z) (hB:(B1++B2).Pairwise (lt c)) (hlt:∀y,y∈B1++B2→x<y)
  (h1:∀y B2',B2=y :: B2'→¬c y x<0) (h2:∀B1' y,B1=B1'++[y]→c y x<0):B1++x :: B2=so c ([x]++(B1++B2)):=by
 have pB:=List.pairwise_append.1 hB
 have hs:(x :: B2).Pairwise (lt c):=by
  rw[List.pairwise_cons]
  refine⟨fun w hw=>?_,pB.2.1⟩
  refine cross hO (X:=[x]) (Y:=B2) (fun z hz=>by simp at hz;rw[hz];exact dx) (fun z hz=>dB z (by simp[hz])) (by simp) pB.2.1 (fun X' x' y Y' e1 e2=>?_) x (by simp) w hw
  have hy:y∈B1++B2:=by rw[e2];simp
  have e:x=x':=by
   cases X' with
   | nil=>simpa using e1
   | cons a r=>simp at e1
  rw[←e]
  exact(hO.lt_iff' (dB y hy) dx (hlt y hy)).2 (h1 y Y' e2)
 have hm:=mrg hO (A1:=[]) (A2:=[x]) (B1:=B1) (B2:=B2) (fun z hz=>by simp at hz;rw[hz];exact dx) dB (by simp) hB (fun z hz y hy=>by simp at hz;rw[hz];exact hlt y hy) (fun A1' x y B2' e1 _=>by simp at e1) (fun B1' y x' A2' e1 e2=>by
  simp at e2
  rw[←e2.1]
  exact h2 B1' y e1)
 rw[←List.nil_append [x],←hm]
 have e1:so c ([]++B1)=B1:=so_self hO (fun z hz=>dB z (by simp at hz ⊢;exact .inl hz)) (by simpa using pB.1)
 have e2:so c ([x]++B2)=x :: B2:=so_self hO (fun z hz=>by
  rcases List.mem_append.1 hz with hz | hz
  ·simp at hz;rw[hz];exact dx
  ·exact dB z (by simp[hz])) hs
 rw[e1,e2]

theorem mrg_last (hO:Ord c dom) {x:Int} (dx:dom x) (dA:∀z,z∈A1++A2→dom z) (hA:(A1++A2).Pairwise (lt c)) (hlt:∀y,y∈A1++A2→y<x)
  (h1:∀A1' y,A1=A1'++[y]→¬c x y<0) (h2:∀y A2',A2=y :: A2'→c x y<0):A1++x :: A2=so c (A1++A2++[x]):=by
 have pA:=List.pairwise_append.1 hA
 have hs:(x :: A2).Pairwise (lt c):=by
  rw[List.pairwise_cons]
  refine⟨fun w hw=>?_,pA.2.1⟩
  refine cross hO (X:=[x]) (Y:=A2) (fun z hz=>by simp at hz;rw[hz];exact dx) (fun z hz=>dA z (by simp[hz])) (by simp) pA.2.1 (fun X' x' y Y' e1 e2=>?_) x (by simp) w hw
  have hy:y∈A1++A2:=by rw[e2];simp
  have e:x=x':=by
   cases X' with
   | nil=>simpa using e1
   | cons a r=>simp at e1
  rw[←e]
  exact(hO.lt_iff dx (dA y hy) (hlt y hy)).2 (h2 y Y' e2)
 have hm:=mrg hO (A1:=A1) (A2:=A2) (B1:=[x]) (B2:=[]) dA (fun z hz=>by simp at hz;rw[hz];exact dx) hA (by simp) (fun y hy z hz=>by simp at hz;rw[hz];exact hlt y hy) (fun A1' x y B2' _ e2=>by simp at e2) (fun B1' y x' A2' e1 e2=>by
  have e:y=x:=by
   cases B1' with
   | nil=>simpa using e1.symm
   | cons a r=>simp at e1
  rw[e]
  exact h2 x' A2' e2)
 have hs2:(A1++[x]).Pairwise (lt c):=by
  rw[List.pairwise_append]
  refine⟨pA.1,by simp,cross hO (fun z hz=>dA z (by simp[hz])) (fun z hz=>by simp at hz;rw[hz];exact dx) pA.1 (by simp) (fun X' x' y Y' e1 e2=>?_)⟩
  have hx':x'∈A1++A2:=by rw[e1];simp
  simp at e2
  rw[←e2.1]
  exact(hO.lt_iff' dx (dA x' hx') (hlt x' hx')).2 (h1 X' x' e1)
 have hs3:(A1++x :: A2).Pairwise (lt c):=by
  rw[List.pairwise_append]
  refine⟨pA.1,hs,fun z hz w hw=>?_⟩
  rcases List.mem_cons.1 hw with rfl | hw
  ·exact(List.pairwise_append.1 hs2).2.2 z hz w (by simp)
  ·exact pA.2.2 z hz w hw
 have hd3:∀z,z∈A1++A2++[x]→dom z:=fun z hz=>by
  rcases List.mem_append.1 hz with hz | hz
  ·exact dA z hz
  ·simp at hz;rw[hz];exact dx
 refine eq_so hO hd3 (nodup_ab (nodup_of hO dA hA) (by simp) (fun y hy z hz=>by simp at hz;rw[hz];exact hlt y hy)) ?_ hs3
 refine List.perm_middle.trans ?_
 exact(List.perm_append_comm (l₁:=[x]) (l₂:=A1++A2))

end
end Go.Am.Srt

/-
 Stable sorting: the merge in place.
-/
namespace Go.Am.Srt
set_option maxRecDepth 100000
set_option maxHeartbeats 8000000

variable {P:Program} {bs:List D} {b:Nat} {e:TypeId} {cf cf132 cf131 cf129 cf128 cf122 cf108:StCfg} {f132 f131 f129 f128 f122 f108 g:FuncId} {c:Int→Int→Int} {dom:Int→Prop} {us cs:List D}

theorem get_lt {xs:List Int}{i:Nat}(h:i<xs.length):∃x,xs[i]? = some x∧x∈xs:=⟨xs[i],List.getElem?_eq_getElem h,List.getElem_mem h⟩

theorem mid_get {T B S:List Int}{i:Nat}(h:T.length≤i)(h2:i<T.length+B.length):(T++B++S)[i]? = B[i-T.length]?:=by
 rw[List.append_assoc,List.getElem?_append_right h,List.getElem?_append_left (by omega)]

theorem symr (h129 : UOk P f129 .plain cf129 [true, true, true, true, true] (uSym f131 f129)) (h131 : UOk P f131 .plain cf131 [true, true, true, true, true] (uRot f132)) (h132 : UOk P f132 .plain cf132 [true, true, true, true, true] uSwp)
    (hb : b < bs.length) (hO : Ord c dom) (hc : CmpOk P bs b e g us cs c dom) {n : Nat} (hL : n < 1000000000) : ∀ (N : Nat) (T A B S : List Int), A.length + B.length = N → (T ++ A ++ B ++ S).length = n → 0 < A.length → 0 < B.length →
    (∀ z, z ∈ A → dom z) → (∀ z, z ∈ B → dom z) → A.Pairwise (lt c) → B.Pairwise (lt c) → (∀ x, x ∈ A → ∀ y, y ∈ B → x < y) →
    FSpecW P f129 (.st (Row bs b e (T ++ A ++ B ++ S))) [.sl b 0 n, J T.length, J ((T.length + A.length : Nat) : Int), J ((T.length + A.length + B.length : Nat) : Int), .fn g us cs] (.tup []) (.st (Row bs b e (T ++ so c (A ++ B) ++ S))) := by
  intro N
  induction N using Nat.strongRecOn with
  | ind N ih =>
  intro T A B S hN hn hA0 hB0 dA dB hA hB hlt
  simp only [List.length_append] at hn
  have hpc := hc.1
  refine h129.W rfl ?_
  unfold uSym
  simp only [ups_cons, ups_nil, List.cons_append, List.nil_append]
  have i1 := bin_subN (m := T.length + A.length) (k := T.length) (by omega) (by omega)
  rw [show T.length + A.length - T.length = A.length by omega] at i1
  have i2 := bin_subN (m := T.length + A.length + B.length) (k := T.length + A.length) (by omega) (by omega)
  rw [show T.length + A.length + B.length - (T.length + A.length) = B.length by omega] at i2
  obtain ⟨X, hX⟩ : ∃ X, X = T ++ A ++ B ++ S := ⟨_, rfl⟩
  have hXl : X.length = n := by rw [hX]; simp; omega
  have getA : ∀ i, T.length ≤ i → i < T.length + A.length → X[i]? = A[i - T.length]? := fun i h1 h2 => by
    rw [hX, List.append_assoc (T ++ A)]; exact mid_get h1 h2
  have getB : ∀ i, T.length + A.length ≤ i → i < T.length + A.length + B.length → X[i]? = B[i - (T.length + A.length)]? := fun i h1 h2 => by
    rw [hX, mid_get (T := T ++ A) (by simp; omega) (by simp; omega)]; simp
  have callX := hc.2 X
  rw [← hX]
  by_cases hA1 : A.length = 1
  · obtain ⟨x, rfl⟩ : ∃ x, A = [x] := by
      match A, hA1 with
      | [x], _ => exact ⟨x, rfl⟩
    have hc1 : (((([x] : List Int).length : Nat) : Int) == 1) = true := by simp
    have gx : X[T.length]? = some x := by rw [getA _ (Nat.le_refl _) (by simp)]; simp
    have dx := dA x (by simp)
    repeat' (first | ((with_reducible apply u_iteT); (· rfl); (· exact hc1)) | ((with_reducible apply u_bin); (· rfl); (· rfl); (· exact i1); (· simp only [sbe]; rfl)) | ((with_reducible apply u_ev); (· rfl); (· simp only [sbe]; rfl)) | (with_reducible refine u_join ?_))
    refine loop_exitK (fun ds => ∃ B1 B2 : List Int, B = B1 ++ B2 ∧ ds = [J ((T.length + 1 + B1.length : Nat) : Int)] ∧ (∀ y B2', B2 = y :: B2' → ¬ c y x < 0) ∧ (∀ B1' y, B1 = B1' ++ [y] → c y x < 0)) ?_ ?_
    · refine u_loop (fun k ds => ∃ i j : Nat, ds = [J i, J j] ∧ T.length + 1 ≤ i ∧ i ≤ j ∧ j ≤ T.length + 1 + B.length ∧ (i = T.length + 1 ∨ ∃ y, X[i - 1]? = some y ∧ c y x < 0) ∧ (j = T.length + 1 + B.length ∨ ∃ y, X[j]? = some y ∧ ¬ c y x < 0) ∧ k = j - i) rfl B.length ⟨T.length + 1, T.length + 1 + B.length, rfl, Nat.le_refl _, by omega, Nat.le_refl _, .inl rfl, .inl rfl, by omega⟩ ?_
      rintro k _ ⟨i, j, rfl, hi, hij, hj, pi, pj, rfl⟩
      refine ⟨rfl, fun R hR => ?_⟩
      by_cases hlt' : i < j
      · have ht : decide ((i : Int) < (j : Int)) = true := by simp; omega
        obtain ⟨h, hh⟩ : ∃ h, h = (i + j) / 2 := ⟨_, rfl⟩
        have sh := bin_shr1 (k := i + j)
        rw [← hh] at sh
        obtain ⟨y, gy, my⟩ : ∃ y, X[h]? = some y ∧ y ∈ B := by
          obtain ⟨y, h1, h2⟩ := get_lt (xs := B) (i := h - (T.length + 1)) (by omega)
          exact ⟨y, (getB h (by simp; omega) (by simp; omega)).trans h1, h2⟩
        have hcal := callX y x (dB y my) dx
        by_cases hcy : c y x < 0
        · have hd : decide (c y x < 0) = true := by simp [hcy]
          have hr := hR (j - (h + 1)) _ (by omega) ⟨h + 1, j, rfl, by omega, by omega, hj, .inr ⟨y, by simpa using gy, hcy⟩, pj, rfl⟩
          repeat' (first | ((with_reducible apply nrm); (· simp only [sbe]; rfl)) | ((with_reducible apply u_iteT); (· rfl); (· first | exact ht | exact hd)) | ((with_reducible apply u_ld); (· rfl); (· rfl); (· first | exact row_ld hb gy | exact row_ld hb gx); (· simp only [sbe]; rfl)) | ((with_reducible apply u_eaddr); (· rfl); (· rfl); (· exact eaddr_sl (by omega)); (· simp only [sbe]; rfl)) | ((with_reducible apply u_bin); (· rfl); (· rfl); (· first | exact bin_addN (by omega) | exact sh); (· simp only [sbe]; rfl)) | ((with_reducible apply u_inc); (· rfl); (· omega); (· simp only [sbe]; rfl)) | ((with_reducible apply u_ev); (· first | exact e_toU (s := i + j) (by omega) rfl | exact e_toI (s := h) (by omega) rfl); (· simp only [sbe]; rfl)) | ((with_reducible apply u_ev); (· rfl); (· simp only [sbe]; rfl)) | ((with_reducible apply u_callv); (· rfl); (· exact hpc); (· rfl); (· rfl); (· exact hcal); (· rfl); (· simp only [sbe]; rfl)) | (with_reducible refine u_join ?_) | ((with_reducible apply u_jump); (· rfl); (· rfl)) | (with_reducible refine at_jump ?_) | (with_reducible refine kj rfl ?_))
          exact hr
        · have hd : decide (c y x < 0) = false := by simp [hcy]
          have hr := hR (h - i) _ (by omega) ⟨i, h, rfl, hi, by omega, by omega, pi, .inr ⟨y, gy, hcy⟩, rfl⟩
          repeat' (first | ((with_reducible apply nrm); (· simp only [sbe]; rfl)) | ((with_reducible apply u_iteT); (· rfl); (· exact ht)) | ((with_reducible apply u_iteF); (· rfl); (· exact hd)) | ((with_reducible apply u_ld); (· rfl); (· rfl); (· first | exact row_ld hb gy | exact row_ld hb gx); (· simp only [sbe]; rfl)) | ((with_reducible apply u_eaddr); (· rfl); (· rfl); (· exact eaddr_sl (by omega)); (· simp only [sbe]; rfl)) | ((with_reducible apply u_bin); (· rfl); (· rfl); (· first | exact bin_addN (by omega) | exact sh); (· simp only [sbe]; rfl)) | ((with_reducible apply u_ev); (· first | exact e_toU (s := i + j) (by omega) rfl | exact e_toI (s := h) (by omega) rfl); (· simp only [sbe]; rfl)) | ((with_reducible apply u_ev); (· rfl); (· simp only [sbe]; rfl)) | ((with_reducible apply u_callv); (· rfl); (· exact hpc); (· rfl); (· rfl); (· exact hcal); (· rfl); (· simp only [sbe]; rfl)) | (with_reducible refine u_join ?_) | ((with_reducible apply u_jump); (· rfl); (· rfl)) | (with_reducible refine at_jump ?_) | (with_reducible refine kj rfl ?_))
          exact hr
      · have hf : decide ((i : Int) < (j : Int)) = false := by simp; omega
        have e : j = i := by omega
        subst e
        repeat' (first | ((with_reducible apply nrm); (· simp only [sbe]; rfl)) | ((with_reducible apply u_iteF); (· rfl); (· exact hf)) | ((with_reducible apply u_ev); (· rfl); (· simp only [sbe]; rfl)) | ((with_reducible apply u_jump); (· rfl); (· rfl)) | (with_reducible refine at_jump ?_) | (with_reducible refine over_jump (by decide) ?_))
        refine ⟨B.take (j - (T.length + 1)), B.drop (j - (T.length + 1)), (List.take_append_drop _ _).symm, ?_, fun y B2' h => ?_, fun B1' y h => ?_⟩
        · rw [show T.length + 1 + (B.take (j - (T.length + 1))).length = j by simp; omega]
        · rcases pj with pj | ⟨z, gz, hz⟩
          · rw [List.drop_of_length_le (by omega)] at h
            cases h
          · have h0 : B[j - (T.length + 1)]? = some y := by rw [← List.head?_drop, h]; rfl
            have hjl : j < T.length + 1 + B.length := by have := (List.getElem?_eq_some_iff.1 h0).1; omega
            rw [getB j (by simp; omega) (by simp; omega)] at gz
            simp only [List.length_cons, List.length_nil, Nat.zero_add] at gz
            rw [h0] at gz
            cases gz
            exact hz
        · rcases pi with pi | ⟨z, gz, hz⟩
          · rw [pi, Nat.sub_self] at h
            simp at h
          · have hl := congrArg List.length h
            simp at hl
            have h0 : B[j - 1 - (T.length + 1)]? = some y := by
              have : (B.take (j - (T.length + 1)))[j - 1 - (T.length + 1)]? = some y := by
                rw [h, List.getElem?_append_right (by omega), show j - 1 - (T.length + 1) - B1'.length = 0 by omega]
                rfl
              rw [List.getElem?_take] at this
              split at this
              · exact this
              · cases this
            rw [getB (j - 1) (by simp; omega) (by simp; omega)] at gz
            simp only [List.length_cons, List.length_nil, Nat.zero_add] at gz
            rw [h0] at gz
            cases gz
            exact hz
    · rintro _ ⟨B1, B2, rfl, rfl, h1, h2⟩
      refine kj rfl ?_
      have hdn := mrg_one hO dx dB hB (fun y hy => hlt x (by simp) y hy) h1 h2
      have hXe : X = T ++ x :: (B1 ++ B2) ++ S := by rw [hX]; simp
      simp only [List.length_append, List.length_cons, List.length_nil] at hn
      repeat' (first | ((with_reducible apply nrm); (· simp only [sbe]; rfl)) | (with_reducible refine u_join ?_))
      rw [hXe]
      refine u_range (fun i => [J ((T.length + i : Nat) : Int), .st (Row bs b e (T ++ B1.take i ++ x :: (B1.drop i ++ B2) ++ S))]) (fun _ => True) B1.length ?_ (fun _ => rfl) trivial (fun i hi _ R hR => ?_) (fun _ R => ?_)
      · simp [evalAll, E.eval]
      · have hr := hR trivial
        obtain ⟨y, hy⟩ : ∃ y, B1[i]? = some y := ⟨_, List.getElem?_eq_getElem hi⟩
        have e1 : B1.drop i = y :: B1.drop (i + 1) := by rw [List.drop_eq_getElem_cons hi, (List.getElem?_eq_some_iff.1 hy).2]
        have e3 : B1.take (i + 1) = B1.take i ++ [y] := by rw [List.take_add_one, hy]; rfl
        rw [e1]
        rw [e3] at hr
        obtain ⟨Q, hQ⟩ : ∃ Q, Q = T ++ B1.take i := ⟨_, rfl⟩
        have hQl : Q.length = T.length + i := by rw [hQ]; simp; omega
        obtain ⟨Y, hY⟩ : ∃ Y, Y = T ++ B1.take i ++ x :: (y :: B1.drop (i + 1) ++ B2) ++ S := ⟨_, rfl⟩
        have hYQ : Y = Q ++ x :: y :: (B1.drop (i + 1) ++ B2 ++ S) := by rw [hY, hQ]; simp
        have hYl : Y.length = n := by rw [hYQ]; simp; omega
        rw [← hY]
        have g1 : Y[T.length + i]? = some x := by rw [hYQ]; exact at_mid hQl.symm
        have g2 : Y[T.length + i + 1]? = some y := by rw [hYQ]; exact at_mid1 (by omega)
        have s1 : T.length + i < Y.length := by omega
        have s2 : T.length + i + 1 < (Y.set (T.length + i) y).length := by simp; omega
        have sw : (Y.set (T.length + i) y).set (T.length + i + 1) x = T ++ (B1.take i ++ [y]) ++ x :: (B1.drop (i + 1) ++ B2) ++ S := by
          rw [hYQ, ← hQl, sw_mid', hQ]
          simp
        rw [← sw, show T.length + (i + 1) = T.length + i + 1 by omega] at hr
        have ht : decide (((T.length + i : Nat) : Int) < ((T.length + 1 + B1.length - 1 : Nat) : Int)) = true := by simp; omega
        repeat' (first | ((with_reducible apply nrm); (· simp only [sbe]; rfl)) | ((with_reducible apply u_iteT); (· rfl); (· exact ht)) | ((with_reducible apply u_ld); (· rfl); (· rfl); (· first | exact row_ld hb g1 | exact row_ld hb g2); (· simp only [sbe]; rfl)) | ((with_reducible apply u_eaddr); (· rfl); (· rfl); (· exact eaddr_sl (by omega)); (· simp only [sbe]; rfl)) | ((with_reducible apply u_sto); (· rfl); (· rfl); (· rfl); (· first | exact row_sto hb s1 | exact row_sto hb s2); (· simp only [sbe]; rfl)) | ((with_reducible apply u_inc); (· rfl); (· omega); (· simp only [sbe]; rfl)) | ((with_reducible apply u_pred); (· rfl); (· omega); (· simp only [sbe]; rfl)) | ((with_reducible apply u_ev); (· rfl); (· simp only [sbe]; rfl)) | (with_reducible refine u_join ?_) | ((with_reducible apply u_jump); (· rfl); (· rfl)) | (with_reducible refine at_jump ?_) | (with_reducible refine kj rfl ?_))
        exact hr
      · have hf : decide (((T.length + B1.length : Nat) : Int) < ((T.length + 1 + B1.length - 1 : Nat) : Int)) = false := by rw [decide_eq_false_iff_not]; omega
        have hfin : T ++ B1 ++ x :: ([] ++ B2) ++ S = T ++ so c ([x] ++ (B1 ++ B2)) ++ S := by rw [← hdn]; simp
        rw [List.take_length, List.drop_length, hfin]
        repeat' (first | ((with_reducible apply nrm); (· simp only [sbe]; rfl)) | ((with_reducible apply u_iteF); (· rfl); (· exact hf)) | ((with_reducible apply u_pred); (· rfl); (· omega); (· simp only [sbe]; rfl)) | ((with_reducible apply u_ev); (· rfl); (· simp only [sbe]; rfl)) | ((with_reducible apply u_jump); (· rfl); (· rfl)) | (with_reducible refine at_jump ?_) | (with_reducible refine over_jump (by decide) ?_) | (with_reducible refine kj rfl ?_) | (with_reducible exact u_ret rfl rfl))
  · have hc1 : (((A.length : Nat) : Int) == 1) = false := by simp; omega
    by_cases hB1 : B.length = 1
    · obtain ⟨x, rfl⟩ : ∃ x, B = [x] := by
        match B, hB1 with
        | [x], _ => exact ⟨x, rfl⟩
      have hc2 : (((([x] : List Int).length : Nat) : Int) == 1) = true := by simp
      have gx : X[T.length + A.length]? = some x := by rw [getB _ (Nat.le_refl _) (by simp)]; simp
      have dx := dB x (by simp)
      repeat' (first | ((with_reducible apply u_iteT); (· rfl); (· exact hc2)) | ((with_reducible apply u_iteF); (· rfl); (· exact hc1)) | ((with_reducible apply u_bin); (· rfl); (· rfl); (· first | exact i1 | exact i2); (· simp only [sbe]; rfl)) | ((with_reducible apply u_ev); (· rfl); (· simp only [sbe]; rfl)) | (with_reducible refine u_join ?_))
      refine loop_exitK (fun ds => ∃ A1 A2 : List Int, A = A1 ++ A2 ∧ ds = [J ((T.length + A1.length : Nat) : Int)] ∧ (∀ A1' y, A1 = A1' ++ [y] → ¬ c x y < 0) ∧ (∀ y A2', A2 = y :: A2' → c x y < 0)) ?_ ?_
      · refine u_loop (fun k ds => ∃ i j : Nat, ds = [J i, J j] ∧ T.length ≤ i ∧ i ≤ j ∧ j ≤ T.length + A.length ∧ (i = T.length ∨ ∃ y, X[i - 1]? = some y ∧ ¬ c x y < 0) ∧ (j = T.length + A.length ∨ ∃ y, X[j]? = some y ∧ c x y < 0) ∧ k = j - i) rfl A.length ⟨T.length, T.length + A.length, rfl, Nat.le_refl _, by omega, Nat.le_refl _, .inl rfl, .inl rfl, by omega⟩ ?_
        rintro k _ ⟨i, j, rfl, hi, hij, hj, pi, pj, rfl⟩
        refine ⟨rfl, fun R hR => ?_⟩
        by_cases hlt' : i < j
        · have ht : decide ((i : Int) < (j : Int)) = true := by simp; omega
          obtain ⟨h, hh⟩ : ∃ h, h = (i + j) / 2 := ⟨_, rfl⟩
          have sh := bin_shr1 (k := i + j)
          rw [← hh] at sh
          obtain ⟨y, gy, my⟩ : ∃ y, X[h]? = some y ∧ y ∈ A := by
            obtain ⟨y, h1, h2⟩ := get_lt (xs := A) (i := h - T.length) (by omega)
            exact ⟨y, (getA h (by omega) (by omega)).trans h1, h2⟩
          have hcal := callX x y dx (dA y my)
          by_cases hcy : c x y < 0
          · have hd : (!decide (c x y < 0)) = false := by simp [hcy]
            have hr := hR (h - i) _ (by omega) ⟨i, h, rfl, hi, by omega, by omega, pi, .inr ⟨y, gy, hcy⟩, rfl⟩
            repeat' (first | ((with_reducible apply nrm); (· simp only [sbe]; rfl)) | ((with_reducible apply u_iteT); (· rfl); (· exact ht)) | ((with_reducible apply u_iteF); (· rfl); (· exact hd)) | ((with_reducible apply u_ld); (· rfl); (· rfl); (· first | exact row_ld hb gy | exact row_ld hb gx); (· simp only [sbe]; rfl)) | ((with_reducible apply u_eaddr); (· rfl); (· rfl); (· exact eaddr_sl (by omega)); (· simp only [sbe]; rfl)) | ((with_reducible apply u_bin); (· rfl); (· rfl); (· first | exact bin_addN (by omega) | exact sh); (· simp only [sbe]; rfl)) | ((with_reducible apply u_ev); (· first | exact e_toU (s := i + j) (by omega) rfl | exact e_toI (s := h) (by omega) rfl); (· simp only [sbe]; rfl)) | ((with_reducible apply u_ev); (· rfl); (· simp only [sbe]; rfl)) | ((with_reducible apply u_callv); (· rfl); (· exact hpc); (· rfl); (· rfl); (· exact hcal); (· rfl); (· simp only [sbe]; rfl)) | (with_reducible refine u_join ?_) | ((with_reducible apply u_jump); (· rfl); (· rfl)) | (with_reducible refine at_jump ?_) | (with_reducible refine kj rfl ?_))
            exact hr
          · have hd : (!decide (c x y < 0)) = true := by simp [hcy]
            have hr := hR (j - (h + 1)) _ (by omega) ⟨h + 1, j, rfl, by omega, by omega, hj, .inr ⟨y, by simpa using gy, hcy⟩, pj, rfl⟩
            repeat' (first | ((with_reducible apply nrm); (· simp only [sbe]; rfl)) | ((with_reducible apply u_iteT); (· rfl); (· first | exact ht | exact hd)) | ((with_reducible apply u_ld); (· rfl); (· rfl); (· first | exact row_ld hb gy | exact row_ld hb gx); (· simp only [sbe]; rfl)) | ((with_reducible apply u_eaddr); (· rfl); (· rfl); (· exact eaddr_sl (by omega)); (· simp only [sbe]; rfl)) | ((with_reducible apply u_bin); (· rfl); (· rfl); (· first | exact bin_addN (by omega) | exact sh); (· simp only [sbe]; rfl)) | ((with_reducible apply u_inc); (· rfl); (· omega); (· simp only [sbe]; rfl)) | ((with_reducible apply u_ev); (· first | exact e_toU (s := i + j) (by omega) rfl | exact e_toI (s := h) (by omega) rfl); (· simp only [sbe]; rfl)) | ((with_reducible apply u_ev); (· rfl); (· simp only [sbe]; rfl)) | ((with_reducible apply u_callv); (· rfl); (· exact hpc); (· rfl); (· rfl); (· exact hcal); (· rfl); (· simp only [sbe]; rfl)) | (with_reducible refine u_join ?_) | ((with_reducible apply u_jump); (· rfl); (· rfl)) | (with_reducible refine at_jump ?_) | (with_reducible refine kj rfl ?_))
            exact hr
        · have hf : decide ((i : Int) < (j : Int)) = false := by simp; omega
          have e : j = i := by omega
          subst e
          repeat' (first | ((with_reducible apply nrm); (· simp only [sbe]; rfl)) | ((with_reducible apply u_iteF); (· rfl); (· exact hf)) | ((with_reducible apply u_ev); (· rfl); (· simp only [sbe]; rfl)) | ((with_reducible apply u_jump); (· rfl); (· rfl)) | (with_reducible refine at_jump ?_) | (with_reducible refine over_jump (by decide) ?_))
          refine ⟨A.take (j - T.length), A.drop (j - T.length), (List.take_append_drop _ _).symm, ?_, fun A1' y h => ?_, fun y A2' h => ?_⟩
          · rw [show T.length + (A.take (j - T.length)).length = j by simp; omega]
          · rcases pi with pi | ⟨z, gz, hz⟩
            · rw [pi, Nat.sub_self] at h
              simp at h
            · have hl := congrArg List.length h
              simp at hl
              have h0 : A[j - 1 - T.length]? = some y := by
                have : (A.take (j - T.length))[j - 1 - T.length]? = some y := by
                  rw [h, List.getElem?_append_right (by omega), show j - 1 - T.length - A1'.length = 0 by omega]
                  rfl
                rw [List.getElem?_take] at this
                split at this
                · exact this
                · cases this
              rw [getA (j - 1) (by omega) (by omega), h0] at gz
              cases gz
              exact hz
          · rcases pj with pj | ⟨z, gz, hz⟩
            · rw [List.drop_of_length_le (by omega)] at h
              cases h
            · have h0 : A[j - T.length]? = some y := by rw [← List.head?_drop, h]; rfl
              have hjl : j < T.length + A.length := by have := (List.getElem?_eq_some_iff.1 h0).1; omega
              rw [getA j (by omega) (by omega), h0] at gz
              cases gz
              exact hz
      · rintro _ ⟨A1, A2, rfl, rfl, h1, h2⟩
        refine kj rfl ?_
        have hdn := mrg_last hO dx dA hA (fun y hy => hlt y hy x (by simp)) h1 h2
        have hXe : X = T ++ (A1 ++ A2.take (A2.length - 0)) ++ x :: (A2.drop (A2.length - 0)) ++ S := by rw [hX]; simp
        simp only [List.length_append, List.length_cons, List.length_nil] at hn
        repeat' (first | ((with_reducible apply nrm); (· simp only [sbe]; rfl)) | (with_reducible refine u_join ?_))
        rw [hXe]
        refine u_range (fun i => [J ((T.length + (A1.length + A2.length) - i : Nat) : Int), .st (Row bs b e (T ++ (A1 ++ A2.take (A2.length - i)) ++ x :: (A2.drop (A2.length - i)) ++ S))]) (fun _ => True) A2.length ?_ (fun _ => rfl) trivial (fun i hi _ R hR => ?_) (fun _ R => ?_)
        · simp [evalAll, E.eval]
        · have hr := hR trivial
          obtain ⟨m, hm⟩ : ∃ m, m = A2.length - (i + 1) := ⟨_, rfl⟩
          have hm1 : A2.length - i = m + 1 := by omega
          have hml : m < A2.length := by omega
          obtain ⟨y, hy⟩ : ∃ y, A2[m]? = some y := ⟨_, List.getElem?_eq_getElem hml⟩
          have e1 : A2.drop m = y :: A2.drop (m + 1) := by rw [List.drop_eq_getElem_cons hml, (List.getElem?_eq_some_iff.1 hy).2]
          have e3 : A2.take (m + 1) = A2.take m ++ [y] := by rw [List.take_add_one, hy]; rfl
          rw [hm1, e3]
          rw [← hm, e1] at hr
          obtain ⟨Q, hQ⟩ : ∃ Q, Q = T ++ (A1 ++ A2.take m) := ⟨_, rfl⟩
          have hQl : Q.length = T.length + A1.length + m := by rw [hQ]; simp; omega
          obtain ⟨Y, hY⟩ : ∃ Y, Y = T ++ (A1 ++ (A2.take m ++ [y])) ++ x :: (A2.drop (m + 1)) ++ S := ⟨_, rfl⟩
          have hYQ : Y = Q ++ y :: x :: (A2.drop (m + 1) ++ S) := by rw [hY, hQ]; simp
          have hYl : Y.length = n := by rw [hYQ]; simp; omega
          rw [← hY]
          have k1 : T.length + (A1.length + A2.length) - i = Q.length + 1 := by omega
          have k2 : T.length + (A1.length + A2.length) - (i + 1) = Q.length := by omega
          rw [k1]
          rw [k2] at hr
          have g1 : Y[Q.length + 1]? = some x := by rw [hYQ]; exact at_mid1 rfl
          have g2 : Y[Q.length + 1 - 1]? = some y := by rw [hYQ]; exact at_mid (by omega)
          have s1 : Q.length + 1 < Y.length := by omega
          have s2 : Q.length + 1 - 1 < (Y.set (Q.length + 1) y).length := by simp; omega
          have sw : (Y.set (Q.length + 1) y).set (Q.length + 1 - 1) x = T ++ (A1 ++ A2.take m) ++ x :: (y :: A2.drop (m + 1)) ++ S := by
            rw [hYQ, show Q.length + 1 - 1 = Q.length by omega, sw_mid, hQ]
            simp
          rw [← sw, show Q.length = Q.length + 1 - 1 by omega] at hr
          have ht : decide (((Q.length + 1 : Nat) : Int) > ((T.length + A1.length : Nat) : Int)) = true := by simp; omega
          repeat' (first | ((with_reducible apply nrm); (· simp only [sbe]; rfl)) | ((with_reducible apply u_iteT); (· rfl); (· exact ht)) | ((with_reducible apply u_ld); (· rfl); (· rfl); (· first | exact row_ld hb g1 | exact row_ld hb g2); (· simp only [sbe]; rfl)) | ((with_reducible apply u_eaddr); (· rfl); (· rfl); (· exact eaddr_sl (by omega)); (· simp only [sbe]; rfl)) | ((with_reducible apply u_sto); (· rfl); (· rfl); (· rfl); (· first | exact row_sto hb s1 | exact row_sto hb s2); (· simp only [sbe]; rfl)) | ((with_reducible apply u_pred); (· rfl); (· omega); (· simp only [sbe]; rfl)) | ((with_reducible apply u_ev); (· rfl); (· simp only [sbe]; rfl)) | (with_reducible refine u_join ?_) | ((with_reducible apply u_jump); (· rfl); (· rfl)) | (with_reducible refine at_jump ?_) | (with_reducible refine kj rfl ?_))
          exact hr
        · have hf : decide (((T.length + (A1.length + A2.length) - A2.length : Nat) : Int) > ((T.length + A1.length : Nat) : Int)) = false := by simp; omega
          have hfin : T ++ (A1 ++ A2.take (A2.length - A2.length)) ++ x :: (A2.drop (A2.length - A2.length)) ++ S = T ++ so c (A1 ++ A2 ++ [x]) ++ S := by rw [← hdn]; simp
          rw [hfin]
          repeat' (first | ((with_reducible apply nrm); (· simp only [sbe]; rfl)) | ((with_reducible apply u_iteF); (· rfl); (· exact hf)) | ((with_reducible apply u_ev); (· rfl); (· simp only [sbe]; rfl)) | ((with_reducible apply u_jump); (· rfl); (· rfl)) | (with_reducible refine at_jump ?_) | (with_reducible refine over_jump (by decide) ?_) | (with_reducible refine kj rfl ?_) | (with_reducible exact u_ret rfl rfl))
    · have hc2 : (((B.length : Nat) : Int) == 1) = false := by simp; omega
      obtain ⟨mid, hmid⟩ : ∃ mid, mid = (T.length + (T.length + A.length + B.length)) / 2 := ⟨_, rfl⟩
      have sh := bin_shr1 (k := T.length + (T.length + A.length + B.length))
      rw [← hmid] at sh
      obtain ⟨m, hm⟩ : ∃ m, m = T.length + A.length := ⟨_, rfl⟩
      obtain ⟨s0, r0, hsr, hs0, hr0, h00, hloA, hhiA, hlo, hhi⟩ : ∃ s0 r0 : Nat, (if m > mid then s0 = mid + m - (m + B.length) ∧ r0 = mid else s0 = T.length ∧ r0 = m) ∧ T.length ≤ s0 ∧ r0 ≤ m ∧ s0 ≤ r0 ∧ r0 ≤ mid ∧ mid + m - s0 ≤ m + B.length ∧ (s0 = T.length ∨ mid + m - s0 = m + B.length) ∧ (r0 = m ∨ r0 = mid) := by
        by_cases h : m > mid
        · refine ⟨mid + m - (m + B.length), mid, by rw [if_pos h]; exact ⟨rfl, rfl⟩, ?_⟩
          omega
        · refine ⟨T.length, m, by rw [if_neg h]; exact ⟨rfl, rfl⟩, ?_⟩
          omega
      have b1 := bin_addN (m := T.length) (k := T.length + A.length + B.length) (by omega)
      have b2 := bin_addN (m := mid) (k := m) (by omega)
      have eU := fun (y : E) (env : List D) (h : y.eval env = some (J ((T.length + (T.length + A.length + B.length) : Nat) : Int))) => e_toU (s := T.length + (T.length + A.length + B.length)) (by omega) h
      have eI := fun (y : E) (env : List D) (h : y.eval env = some (.v (.int .u64 (mid : Nat)))) => e_toI (s := mid) (by omega) h
      rw [← hm]
      rw [← hm] at i2 b1 sh eU
      repeat' (first | ((with_reducible apply u_iteF); (· rfl); (· exact hc2)) | ((with_reducible apply u_bin); (· rfl); (· rfl); (· first | exact i2 | exact b1 | exact b2 | exact sh); (· simp only [sbe]; rfl)) | ((with_reducible apply u_sub); (· rfl); (· rfl); (· omega); (· simp only [sbe]; rfl)) | ((with_reducible apply u_ev); (· first | exact eU _ _ rfl | exact eI _ _ rfl); (· simp only [sbe]; rfl)) | ((with_reducible apply u_ev); (· rfl); (· simp only [sbe]; rfl)) | ((with_reducible apply u_ite); (· rfl); all_goals (intro hz; (try simp only [sbs] at hz); first | (exact absurd hz (by decide)) | (exfalso; omega) | skip)))
      refine u_joinK (fun ds => ds = [J s0, J r0]) ?_ ?_
      · by_cases h : m > mid
        · rw [if_pos h] at hsr
          have b3 := bin_subN (m := mid + m) (k := m + B.length) (by omega) (by omega)
          rw [← hsr.1] at b3
          have ht : decide ((m : Int) > (mid : Int)) = true := by simp; omega
          repeat' (first | ((with_reducible apply u_iteT); (· rfl); (· exact ht)) | ((with_reducible apply u_bin); (· rfl); (· rfl); (· exact b3); (· simp only [sbe]; rfl)) | ((with_reducible apply u_jump); (· rfl); (· rfl)) | (with_reducible refine at_jump ?_))
          rw [hsr.2]
        · rw [if_neg h] at hsr
          have hf : decide ((m : Int) > (mid : Int)) = false := by simp; omega
          repeat' (first | ((with_reducible apply u_iteF); (· rfl); (· exact hf)) | ((with_reducible apply u_jump); (· rfl); (· rfl)) | (with_reducible refine at_jump ?_))
          rw [hsr.1, hsr.2]
      · rintro _ rfl
        refine ⟨rfl, ?_⟩
        simp only [List.cons_append, List.nil_append]
        repeat' (first | ((with_reducible apply u_pred); (· rfl); (· omega); (· simp only [sbe]; rfl)) | (with_reducible refine u_join ?_))
        refine loop_exitK (fun ds => ∃ st : Nat, ds = [J st] ∧ s0 ≤ st ∧ st ≤ r0 ∧ (st = s0 ∨ ∃ x y, X[st - 1]? = some x ∧ X[mid + m - 1 - (st - 1)]? = some y ∧ ¬ c y x < 0) ∧ (st = r0 ∨ ∃ x y, X[st]? = some x ∧ X[mid + m - 1 - st]? = some y ∧ c y x < 0)) ?_ ?_
        · refine u_loop (fun k ds => ∃ i j : Nat, ds = [J i, J j] ∧ s0 ≤ i ∧ i ≤ j ∧ j ≤ r0 ∧ (i = s0 ∨ ∃ x y, X[i - 1]? = some x ∧ X[mid + m - 1 - (i - 1)]? = some y ∧ ¬ c y x < 0) ∧ (j = r0 ∨ ∃ x y, X[j]? = some x ∧ X[mid + m - 1 - j]? = some y ∧ c y x < 0) ∧ k = j - i) rfl (r0 - s0) ⟨s0, r0, rfl, Nat.le_refl _, by omega, Nat.le_refl _, .inl rfl, .inl rfl, rfl⟩ ?_
          rintro k _ ⟨i, j, rfl, hi, hij, hj, pi, pj, rfl⟩
          refine ⟨rfl, fun R hR => ?_⟩
          by_cases hlt' : i < j
          · have ht : decide ((i : Int) < (j : Int)) = true := by simp; omega
            obtain ⟨h, hh⟩ : ∃ h, h = (i + j) / 2 := ⟨_, rfl⟩
            have sh2 := bin_shr1 (k := i + j)
            rw [← hh] at sh2
            obtain ⟨b1, b2, b3, b4, b5, b6, b7⟩ : T.length ≤ h ∧ h < T.length + A.length ∧ T.length + A.length ≤ mid + m - 1 - h ∧ mid + m - 1 - h < T.length + A.length + B.length ∧ i ≤ h ∧ h < j ∧ mid + m < 3000000000 := by
              clear pi pj
              omega
            have hn3 : X.length < 1000000000 := by omega
            have hXn : T.length + A.length + B.length ≤ X.length := by omega
            obtain ⟨x, gx, mx⟩ : ∃ x, X[h]? = some x ∧ x ∈ A := by
              obtain ⟨y, h1, h2⟩ := get_lt (xs := A) (i := h - T.length) (by clear pi pj; omega)
              exact ⟨y, (getA h b1 b2).trans h1, h2⟩
            obtain ⟨y, gy, my⟩ : ∃ y, X[mid + m - 1 - h]? = some y ∧ y ∈ B := by
              obtain ⟨y, h1, h2⟩ := get_lt (xs := B) (i := mid + m - 1 - h - (T.length + A.length)) (by clear pi pj; omega)
              exact ⟨y, (getB _ b3 b4).trans h1, h2⟩
            have hcal := callX y x (dB y my) (dA x mx)
            have j1 := bin_subN (m := mid + m - 1) (k := h) (by clear pi pj; omega) (by clear pi pj; omega)
            have e1 := eaddr_sl (sz := 1) (b := b) (n := n) (i := h) (by clear pi pj; omega)
            have e2 := eaddr_sl (sz := 1) (b := b) (n := n) (i := mid + m - 1 - h) (by clear pi pj; omega)
            have a1 := bin_addN (m := i) (k := j) (by clear pi pj; omega)
            have u1 := fun (y : E) (env : List D) (h : y.eval env = some (J ((i + j : Nat) : Int))) => e_toU (s := i + j) (by clear pi pj; omega) h
            have u2 := fun (y : E) (env : List D) (hh : y.eval env = some (.v (.int .u64 (h : Nat)))) => e_toI (s := h) (by clear pi pj; omega) hh
            by_cases hcy : c y x < 0
            · have hd : (!decide (c y x < 0)) = false := by simp [hcy]
              have hr := hR (h - i) _ (by clear pi pj; omega) ⟨i, h, rfl, hi, b5, by clear pi pj; omega, pi, .inr ⟨x, y, gx, gy, hcy⟩, rfl⟩
              repeat' (first | ((with_reducible apply nrm); (· simp only [sbe]; rfl)) | ((with_reducible apply u_iteT); (· rfl); (· exact ht)) | ((with_reducible apply u_iteF); (· rfl); (· exact hd)) | ((with_reducible apply u_ld); (· rfl); (· rfl); (· first | exact row_ld hb gy | exact row_ld hb gx); (· simp only [sbe]; rfl)) | ((with_reducible apply u_eaddr); (· rfl); (· rfl); (· first | exact e1 | exact e2); (· simp only [sbe]; rfl)) | ((with_reducible apply u_bin); (· rfl); (· rfl); (· first | exact a1 | exact sh2 | exact j1); (· simp only [sbe]; rfl)) | ((with_reducible apply u_ev); (· first | exact u1 _ _ rfl | exact u2 _ _ rfl); (· simp only [sbe]; rfl)) | ((with_reducible apply u_ev); (· rfl); (· simp only [sbe]; rfl)) | ((with_reducible apply u_callv); (· rfl); (· exact hpc); (· rfl); (· rfl); (· exact hcal); (· rfl); (· simp only [sbe]; rfl)) | (with_reducible refine u_join ?_) | ((with_reducible apply u_jump); (· rfl); (· rfl)) | (with_reducible refine at_jump ?_) | (with_reducible refine kj rfl ?_))
              exact hr
            · have hd : (!decide (c y x < 0)) = true := by simp [hcy]
              have hr := hR (j - (h + 1)) _ (by clear pi pj; omega) ⟨h + 1, j, rfl, by clear pi pj; omega, b6, hj, .inr ⟨x, y, by simpa using gx, by simpa using gy, hcy⟩, pj, rfl⟩
              repeat' (first | ((with_reducible apply nrm); (· simp only [sbe]; rfl)) | ((with_reducible apply u_iteT); (· rfl); (· first | exact ht | exact hd)) | ((with_reducible apply u_ld); (· rfl); (· rfl); (· first | exact row_ld hb gy | exact row_ld hb gx); (· simp only [sbe]; rfl)) | ((with_reducible apply u_eaddr); (· rfl); (· rfl); (· first | exact e1 | exact e2); (· simp only [sbe]; rfl)) | ((with_reducible apply u_bin); (· rfl); (· rfl); (· first | exact a1 | exact sh2 | exact j1); (· simp only [sbe]; rfl)) | ((with_reducible apply u_inc); (· rfl); (· omega); (· simp only [sbe]; rfl)) | ((with_reducible apply u_ev); (· first | exact u1 _ _ rfl | exact u2 _ _ rfl); (· simp only [sbe]; rfl)) | ((with_reducible apply u_ev); (· rfl); (· simp only [sbe]; rfl)) | ((with_reducible apply u_callv); (· rfl); (· exact hpc); (· rfl); (· rfl); (· exact hcal); (· rfl); (· simp only [sbe]; rfl)) | (with_reducible refine u_join ?_) | ((with_reducible apply u_jump); (· rfl); (· rfl)) | (with_reducible refine at_jump ?_) | (with_reducible refine kj rfl ?_))
              exact hr
          · have hf : decide ((i : Int) < (j : Int)) = false := by simp; omega
            have e : j = i := by omega
            subst e
            repeat' (first | ((with_reducible apply nrm); (· simp only [sbe]; rfl)) | ((with_reducible apply u_iteF); (· rfl); (· exact hf)) | ((with_reducible apply u_ev); (· rfl); (· simp only [sbe]; rfl)) | ((with_reducible apply u_jump); (· rfl); (· rfl)) | (with_reducible refine at_jump ?_) | (with_reducible refine over_jump (by decide) ?_))
            exact ⟨j, rfl, hi, hj, pi, pj⟩
        · rintro _ ⟨st, rfl, hs1, hs2, ps, pr⟩
          refine kj rfl ?_
          obtain ⟨en, hen⟩ : ∃ en, en = mid + m - st := ⟨_, rfl⟩
          obtain ⟨A1, A2, eA, lA1⟩ : ∃ A1 A2, A = A1 ++ A2 ∧ A1.length = st - T.length := ⟨A.take (st - T.length), A.drop (st - T.length), (List.take_append_drop _ _).symm, by clear ps pr; rw [List.length_take]; omega⟩
          obtain ⟨B1, B2, eB, lB1⟩ : ∃ B1 B2, B = B1 ++ B2 ∧ B1.length = en - m := ⟨B.take (en - m), B.drop (en - m), (List.take_append_drop _ _).symm, by clear ps pr; rw [List.length_take]; omega⟩
          have lA : A1.length + A2.length = A.length := by rw [eA]; simp
          have lB : B1.length + B2.length = B.length := by rw [eB]; simp
          have h1 : ∀ A1' x y B2', A1 = A1' ++ [x] → B2 = y :: B2' → ¬ c y x < 0 := fun A1' x y B2' e1 e2 => by
            clear pr
            have l1 := congrArg List.length e1
            have l2 := congrArg List.length e2
            simp at l1 l2
            rcases ps with ps | ⟨x', y', gx, gy, hc⟩
            · omega
            · rw [getA _ (by omega) (by omega), eA, e1, List.append_assoc, List.getElem?_append_right (by omega), show st - 1 - T.length - A1'.length = 0 by omega] at gx
              rw [getB _ (by omega) (by omega), eB, e2, List.getElem?_append_right (by omega), show mid + m - 1 - (st - 1) - (T.length + A.length) - B1.length = 0 by omega] at gy
              simp at gx gy
              rw [gx, gy]
              exact hc
          have h2 : ∀ B1' y x A2', B1 = B1' ++ [y] → A2 = x :: A2' → c y x < 0 := fun B1' y x A2' e1 e2 => by
            clear ps
            have l1 := congrArg List.length e1
            have l2 := congrArg List.length e2
            simp at l1 l2
            rcases pr with pr | ⟨x', y', gx, gy, hc⟩
            · omega
            · rw [getA _ (by omega) (by omega), eA, e2, List.getElem?_append_right (by omega), show st - T.length - A1.length = 0 by omega] at gx
              rw [getB _ (by omega) (by omega), eB, e1, List.append_assoc, List.getElem?_append_right (by omega), show mid + m - 1 - st - (T.length + A.length) - B1'.length = 0 by omega] at gy
              simp at gx gy
              rw [gx, gy]
              exact hc
          clear ps pr
          have hmrg := mrg hO (A1 := A1) (A2 := A2) (B1 := B1) (B2 := B2) (by rw [← eA]; exact dA) (by rw [← eB]; exact dB) (by rw [← eA]; exact hA) (by rw [← eB]; exact hB) (by rw [← eA, ← eB]; exact hlt) h1 h2
          rw [← eA, ← eB] at hmrg
          have pA := List.pairwise_append.1 (eA ▸ hA)
          have pB := List.pairwise_append.1 (eB ▸ hB)
          have dA1 : ∀ z, z ∈ A1 → dom z := fun z h => dA z (by rw [eA]; simp [h])
          have dA2 : ∀ z, z ∈ A2 → dom z := fun z h => dA z (by rw [eA]; simp [h])
          have dB1 : ∀ z, z ∈ B1 → dom z := fun z h => dB z (by rw [eB]; simp [h])
          have dB2 : ∀ z, z ∈ B2 → dom z := fun z h => dB z (by rw [eB]; simp [h])
          have hl1 : ∀ x, x ∈ A1 → ∀ y, y ∈ B1 → x < y := fun x hx y hy => hlt x (by rw [eA]; simp [hx]) y (by rw [eB]; simp [hy])
          have hl2 : ∀ x, x ∈ A2 → ∀ y, y ∈ B2 → x < y := fun x hx y hy => hlt x (by rw [eA]; simp [hx]) y (by rw [eB]; simp [hy])
          have q1 := bin_subN (m := mid + m) (k := st) (by omega) (by omega)
          rw [← hen] at q1
          repeat' (first | ((with_reducible apply nrm); (· simp only [sbe]; rfl)) | ((with_reducible apply u_bin); (· rfl); (· rfl); (· exact q1); (· simp only [sbe]; rfl)) | ((with_reducible apply u_ev); (· rfl); (· simp only [sbe]; rfl)) | ((with_reducible apply u_and); (· rfl)) | (with_reducible exact u_ret rfl rfl) | ((with_reducible intro hz); (try simp only [sbs] at hz)))
          refine u_joinK (fun ds => ds = [.st (Row bs b e (T ++ A1 ++ B1 ++ (A2 ++ B2 ++ S)))]) ?_ ?_
          · by_cases hcase : st < m ∧ m < en
            · have ht : (decide ((st : Int) < (m : Int)) && decide ((m : Int) < (en : Int))) = true := by simp; omega
              have hs := rot h131 h132 hb (e := e) (fn := .fn g us cs) (T := T ++ A1) (A := A2) (B := B1) (S := B2 ++ S) (n := n) (by simp; omega) hL (by omega) (by omega) rfl
              have hXe : X = T ++ A1 ++ A2 ++ B1 ++ (B2 ++ S) := by rw [hX, eA, eB]; simp
              rw [← hXe, List.length_append, show T.length + A1.length = st by omega, show st + A2.length = m by omega, show m + B1.length = en by omega] at hs
              repeat' (first | ((with_reducible apply u_iteT); (· rfl); (· exact ht)) | ((with_reducible apply u_wcall); (· rfl); (· rfl); (· exact hs); (· rfl); (· simp only [sbe]; rfl)) | ((with_reducible apply u_jump); (· rfl); (· rfl)) | (with_reducible refine at_jump ?_))
              simp
            · have hf : (decide ((st : Int) < (m : Int)) && decide ((m : Int) < (en : Int))) = false := by
                rw [Bool.and_eq_false_iff, decide_eq_false_iff_not, decide_eq_false_iff_not]; omega
              repeat' (first | ((with_reducible apply u_iteF); (· rfl); (· exact hf)) | ((with_reducible apply u_jump); (· rfl); (· rfl)) | (with_reducible refine at_jump ?_))
              have : A2 = [] ∨ B1 = [] := by
                rcases Nat.lt_or_ge st m with h | h
                · right; exact List.eq_nil_of_length_eq_zero (by omega)
                · left; exact List.eq_nil_of_length_eq_zero (by omega)
              rw [hX, eA, eB]
              rcases this with h | h <;> simp [h]
          · rintro _ rfl
            refine ⟨rfl, ?_⟩
            simp only [List.cons_append, List.nil_append]
            repeat' (first | ((with_reducible apply nrm); (· simp only [sbe]; rfl)) | ((with_reducible apply u_ev); (· rfl); (· simp only [sbe]; rfl)) | ((with_reducible apply u_and); (· rfl)) | (with_reducible exact u_ret rfl rfl) | ((with_reducible intro hz); (try simp only [sbs] at hz)))
            refine u_joinK (fun ds => ds = [.st (Row bs b e (T ++ so c (A1 ++ B1) ++ (A2 ++ B2 ++ S)))]) ?_ ?_
            · by_cases hcase : T.length < st ∧ st < mid
              · have ht : (decide ((T.length : Int) < (st : Int)) && decide ((st : Int) < (mid : Int))) = true := by simp; omega
                have hs := ih (A1.length + B1.length) (by omega) T A1 B1 (A2 ++ B2 ++ S) rfl (by simp; omega) (by omega) (by omega) dA1 dB1 pA.1 pB.1 hl1
                rw [show T.length + A1.length = st by omega, show st + B1.length = mid by omega] at hs
                simp only [List.append_assoc] at hs ⊢
                repeat' (first | ((with_reducible apply u_iteT); (· rfl); (· exact ht)) | ((with_reducible apply u_wcall); (· rfl); (· rfl); (· exact hs); (· rfl); (· simp only [sbe]; rfl)) | ((with_reducible apply u_jump); (· rfl); (· rfl)) | (with_reducible refine at_jump ?_))
                rfl
              · have hf : (decide ((T.length : Int) < (st : Int)) && decide ((st : Int) < (mid : Int))) = false := by
                  rw [Bool.and_eq_false_iff, decide_eq_false_iff_not, decide_eq_false_iff_not]; omega
                have : A1 = [] ∨ B1 = [] := by
                  rcases Nat.lt_or_ge T.length st with h | h
                  · right; exact List.eq_nil_of_length_eq_zero (by omega)
                  · left; exact List.eq_nil_of_length_eq_zero (by omega)
                have hso : so c (A1 ++ B1) = A1 ++ B1 := by
                  rcases this with h | h
                  · rw [h, List.nil_append]; exact so_self hO dB1 pB.1
                  · rw [h, List.append_nil]; exact so_self hO dA1 pA.1
                rw [hso]
                repeat' (first | ((with_reducible apply u_iteF); (· rfl); (· exact hf)) | ((with_reducible apply u_jump); (· rfl); (· rfl)) | (with_reducible refine at_jump ?_))
                simp
            · rintro _ rfl
              refine ⟨rfl, ?_⟩
              simp only [List.cons_append, List.nil_append]
              repeat' (first | ((with_reducible apply nrm); (· simp only [sbe]; rfl)) | ((with_reducible apply u_ev); (· rfl); (· simp only [sbe]; rfl)) | ((with_reducible apply u_and); (· rfl)) | (with_reducible exact u_ret rfl rfl) | ((with_reducible intro hz); (try simp only [sbs] at hz)))
              refine u_joinK (fun ds => ds = [.st (Row bs b e (T ++ so c (A ++ B) ++ S))]) ?_ ?_
              · rw [← hmrg]
                by_cases hcase : mid < en ∧ en < m + B.length
                · have ht : (decide ((mid : Int) < (en : Int)) && decide ((en : Int) < ((m + B.length : Nat) : Int))) = true := by simp; omega
                  have lso : (so c (A1 ++ B1)).length = A1.length + B1.length := by rw [so_len]; simp
                  have hs := ih (A2.length + B2.length) (by omega) (T ++ so c (A1 ++ B1)) A2 B2 S rfl (by simp [lso]; omega) (by omega) (by omega) dA2 dB2 pA.2.1 pB.2.1 hl2
                  rw [List.length_append, lso, show T.length + (A1.length + B1.length) = mid by omega, show mid + A2.length = en by omega, show en + B2.length = m + B.length by omega] at hs
                  simp only [List.append_assoc] at hs ⊢
                  repeat' (first | ((with_reducible apply u_iteT); (· rfl); (· exact ht)) | ((with_reducible apply u_wcall); (· rfl); (· rfl); (· exact hs); (· rfl); (· simp only [sbe]; rfl)) | ((with_reducible apply u_jump); (· rfl); (· rfl)) | (with_reducible refine at_jump ?_))
                  rfl
                · have hf : (decide ((mid : Int) < (en : Int)) && decide ((en : Int) < ((m + B.length : Nat) : Int))) = false := by
                    rw [Bool.and_eq_false_iff, decide_eq_false_iff_not, decide_eq_false_iff_not]; omega
                  have : A2 = [] ∨ B2 = [] := by
                    rcases Nat.lt_or_ge mid en with h | h
                    · right; exact List.eq_nil_of_length_eq_zero (by omega)
                    · left; exact List.eq_nil_of_length_eq_zero (by omega)
                  have hso : so c (A2 ++ B2) = A2 ++ B2 := by
                    rcases this with h | h
                    · rw [h, List.nil_append]; exact so_self hO dB2 pB.2.1
                    · rw [h, List.append_nil]; exact so_self hO dA2 pA.2.1
                  rw [hso]
                  repeat' (first | ((with_reducible apply u_iteF); (· rfl); (· exact hf)) | ((with_reducible apply u_jump); (· rfl); (· rfl)) | (with_reducible refine at_jump ?_))
                  simp
              · rintro _ rfl
                refine ⟨rfl, ?_⟩
                simp only [List.cons_append, List.nil_append]
                repeat' ((with_reducible exact u_ret rfl rfl))

end Go.Am.Srt

/-
 Stable sorting: the whole.
-/
namespace Go.Am.Srt
set_option maxRecDepth 100000
set_option maxHeartbeats 4000000

section
variable {c:Int→Int→Int} {dom:Int→Prop}

theorem blk_app {k:Nat}(h0:0<k)(v:List Int):∀(q:Nat) (u:List Int),u.length=k*q→blk c k (u++v)=blk c k u++blk c k v
 | 0,u,h=>by
  have:u=[]:=List.eq_nil_of_length_eq_zero (by simpa using h)
  subst this
  rw[List.nil_append,blk_le (l:=[]) (Nat.zero_le _),so_nil,List.nil_append]
 | q+1,u,h=>by
  have hl:k≤u.length:=by rw[h,Nat.mul_succ];omega
  rw[blk_cons' h0 (l:=u++v) (by rw[List.length_append];omega),blk_cons' h0 (l:=u) hl]
  rw[List.take_append_of_le_length hl,List.drop_append_of_le_length hl,blk_app h0 v q (u.drop k) (by simp[h,Nat.mul_succ]),List.append_assoc]

theorem blk_two (hO:Ord c dom){k:Nat}{A B:List Int}(hd:∀z,z∈A++B→dom z)(hn:(A++B).Nodup)(hl:A.length+B.length≤2*k):so c (so c A++so c B)=blk c (2*k) (A++B):=by
 rw[blk_le (by simpa using hl)]
 exact so_congr hO hd hn ((so_perm A).append (so_perm B))
end

variable {P:Program} {bs:List D} {b:Nat} {e:TypeId} {cf cf132 cf131 cf129 cf128 cf122 cf108:StCfg} {f132 f131 f129 f128 f122 f108 g:FuncId} {c:Int→Int→Int} {dom:Int→Prop} {us cs:List D}

theorem stbl (h122:UOk P f122 .plain cf122 [true,true,true] (uStb f128 f129)) (h129:UOk P f129 .plain cf129 [true,true,true,true,true] (uSym f131 f129)) (h131:UOk P f131 .plain cf131 [true,true,true,true,true] (uRot f132)) (h132:UOk P f132 .plain cf132 [true,true,true,true,true] uSwp) (h128:UOk P f128 .plain cf128 [true,true,true,true] uIns)
  (hb:b<bs.length) (hO:Ord c dom) (hc:CmpOk P bs b e g us cs c dom) {xs:List Int} {n:Nat} (hn:xs.length=n) (hL:n<1000000000) (hd:∀z,z∈xs→dom z) (ha:xs.Pairwise (·< ·)) :
  FSpecW P f122 (.st (Row bs b e xs)) [.sl b 0 n,J n,.fn g us cs] (.tup []) (.st (Row bs b e (so c xs))):=by
 refine h122.W rfl ?_
 unfold uStb
 simp only[ups_cons,ups_nil,List.cons_append,List.nil_append]
 have hnd:=grow_nodup ha
 repeat' ((with_reducible refine u_join ?_))
 refine loop_exitK (fun ds=>∃q d,ds=[J ((20*q:Nat):Int),d,.st (Row bs b e (blk c 20 (xs.take (20*q))++xs.drop (20*q)))]∧20*q≤n∧n<20*q+20) ?_ ?_
 ·refine u_loop (fun k ds=>∃q,ds=[J ((20*q:Nat):Int),J ((20*q+20:Nat):Int),.st (Row bs b e (blk c 20 (xs.take (20*q))++xs.drop (20*q)))]∧20*q≤n∧k=n-20*q) rfl n ⟨0,?_,by omega,by omega⟩ ?_
  ·simp[blk_le,so_nil]
  rintro k _ ⟨q,rfl,hq,rfl⟩
  refine⟨rfl,fun R hR=>?_⟩
  by_cases hlt:20*q+20≤n
  ·have ht:decide (((20*q+20:Nat):Int)≤(n:Int))=true:=by simp;omega
   have hs:=insr h128 hb hO hc (e:=e) (T:=blk c 20 (xs.take (20*q))) (L:=(xs.drop (20*q)).take 20) (S:=(xs.drop (20*q)).drop 20) (n:=n) (by simp[blk_len];omega) hL (fun z hz=>hd z (List.mem_of_mem_drop (List.mem_of_mem_take hz))) (ha.sublist ((List.take_sublist _ _).trans (List.drop_sublist _ _)))
   have l1:(blk c 20 (xs.take (20*q))).length=20*q:=by rw[blk_len];simp;omega
   have l2:((xs.drop (20*q)).take 20).length=20:=by simp;omega
   have e1:xs.take (20*(q+1))=xs.take (20*q)++(xs.drop (20*q)).take 20:=by
    rw[show 20*(q+1)=20*q+20 by omega,List.take_add]
   have e2:blk c 20 (xs.take (20*(q+1)))=blk c 20 (xs.take (20*q))++so c ((xs.drop (20*q)).take 20):=by
    rw[e1,blk_app (by omega) _ q _ (by simp;omega),blk_le (l:=(xs.drop (20*q)).take 20) (by rw[List.length_take];omega)]
   have hr:=hR (n-20*(q+1)) _ (by omega) ⟨q+1,rfl,by omega,rfl⟩
   rw[l1,l2,List.append_assoc,List.take_append_drop] at hs
   rw[e2,show 20*(q+1)=20*q+20 by omega] at hr
   rw[List.drop_drop] at hs
   have i1:=bin_addN (m:=20*q+20) (k:=20) (by omega)
   repeat' (first|(apply nrm;simp only[sbe];rfl)|(apply u_iteT;rfl;exact ht)|(apply u_bin;rfl;rfl;exact i1;simp only[sbe];rfl)|(apply u_ev;rfl;simp only[sbe];rfl)|(apply u_wcall;rfl;rfl;exact hs;rfl;simp only[sbe];rfl)|refine u_join ?_|(apply u_jump;rfl;rfl)|refine at_jump ?_|refine kj rfl ?_)
   exact hr
  ·have hf:decide (((20*q+20:Nat):Int)≤(n:Int))=false:=by simp;omega
   repeat' (first|(apply nrm;simp only[sbe];rfl)|(apply u_iteF;rfl;exact hf)|(apply u_ev;rfl;simp only[sbe];rfl)|(apply u_jump;rfl;rfl)|refine at_jump ?_|(refine over_jump (by decide) ?_))
   exact⟨q,_,rfl,hq,by omega⟩
 ·rintro _ ⟨q,d,rfl,hq,hq2⟩
  refine kj rfl ?_
  have hs:=insr h128 hb hO hc (e:=e) (T:=blk c 20 (xs.take (20*q))) (L:=xs.drop (20*q)) (S:=[]) (n:=n) (by simp[blk_len];omega) hL (fun z hz=>hd z (List.mem_of_mem_drop hz)) (ha.sublist (List.drop_sublist _ _))
  have l1:(blk c 20 (xs.take (20*q))).length=20*q:=by rw[blk_len];simp;omega
  have l2:20*q+(xs.drop (20*q)).length=n:=by simp;omega
  have e2:blk c 20 xs=blk c 20 (xs.take (20*q))++so c (xs.drop (20*q)):=by
   have e3:=blk_app (c:=c) (k:=20) (by omega) (xs.drop (20*q)) q (xs.take (20*q)) (by simp;omega)
   rw[List.take_append_drop] at e3
   rw[e3,blk_le (l:=xs.drop (20*q)) (by simp;omega)]
  rw[l1,l2,List.append_nil,List.append_nil,←e2] at hs
  repeat' (first|(apply nrm;simp only[sbe];rfl)|(apply u_wcall;rfl;rfl;exact hs;rfl;simp only[sbe];rfl)|refine u_join ?_)
  refine u_loop (fun m ds=>∃k d1 d2,ds=[J (k:Nat),d1,d2,.st (Row bs b e (blk c k xs))]∧20≤k∧k<4*n+40∧m=4*n+40-k) rfl (4*n+20) ⟨20,_,_,rfl,by omega,by omega,by omega⟩ ?_
  rintro m _ ⟨k,d1,d2,rfl,hk,hkn,rfl⟩
  refine⟨rfl,fun R hR=>?_⟩
  by_cases hlt:k<n
  ·have ht:decide ((k:Int)<(n:Int))=true:=by simp;omega
   have m1:=bin_mul2 (k:=k) (by omega)
   have m2:=bin_mul2' (k:=k) (by omega)
   have hr:∀d1 d2:D,R [J ((2*k:Nat):Int),d1,d2,.st (Row bs b e (blk c (2*k) xs))]:=fun d1 d2=>hR (4*n+40-2*k) _ (by omega) ⟨2*k,d1,d2,rfl,by omega,by omega,rfl⟩
   repeat' (first|(apply nrm;simp only[sbe];rfl)|(apply u_iteT;rfl;exact ht)|(apply u_bin;rfl;rfl;exact m1;simp only[sbe];rfl)|(apply u_ev;rfl;simp only[sbe];rfl)|refine u_join ?_)
   refine loop_exitK (fun ds=>∃a d3 d4 d5,ds=[J (a:Nat),d3,d4,d5,.st (Row bs b e (blk c (2*k) (xs.take a)++blk c k (xs.drop a)))]∧a≤n∧n<a+2*k∧∃i,a=2*k*i) ?_ ?_
   ·refine u_loop (fun m ds=>∃a i,ds=[J (a:Nat),J ((a+2*k:Nat):Int),.st (Row bs b e (blk c (2*k) (xs.take a)++blk c k (xs.drop a)))]∧a≤n∧a=2*k*i∧m=n-a) rfl n ⟨0,0,?_,by omega,by omega,by omega⟩ ?_
    ·simp[blk_le,so_nil]
    rintro m _ ⟨a,i,rfl,ha0,hai,rfl⟩
    refine⟨rfl,fun R2 hR2=>?_⟩
    by_cases hlt2:a+2*k≤n
    ·have ht2:decide (((a+2*k:Nat):Int)≤(n:Int))=true:=by simp;omega
     obtain⟨A,B,S,hABS,lA,lB⟩:∃A B S,xs.drop a=A++(B++S)∧A.length=k∧B.length=k:=by
      refine⟨(xs.drop a).take k,((xs.drop a).drop k).take k,((xs.drop a).drop k).drop k,?_,by simp;omega,by simp;omega⟩
      rw[List.take_append_drop,List.take_append_drop]
     have hxs:xs=xs.take a++(A++(B++S)):=by rw[←hABS,List.take_append_drop]
     have sub:∀z,z∈A++B→z∈xs:=fun z hz=>by
      rw[hxs]
      simp only[List.mem_append] at hz ⊢
      rcases hz with h | h <;> simp[h]
     have hasc:(A++B).Pairwise (·< ·):=by
      have h1:=(List.pairwise_append.1 (hxs ▸ ha)).2.1
      rw[←List.append_assoc] at h1
      exact(List.pairwise_append.1 h1).1
     have hAB:=List.pairwise_append.1 hasc
     have hbk:blk c k (xs.drop a)=so c A++(so c B++blk c k S):=by
      rw[hABS,blk_app (by omega) _ 1 A (by omega),blk_app (by omega) _ 1 B (by omega),blk_le (l:=A) (by omega),blk_le (l:=B) (by omega)]
     have hlS:a+k+k+S.length=n:=by
      have:=congrArg List.length hxs
      simp at this
      omega
     have l1:(blk c (2*k) (xs.take a)).length=a:=by rw[blk_len];simp;omega
     have hs:=symr h129 h131 h132 hb hO hc (e:=e) hL _ (blk c (2*k) (xs.take a)) (so c A) (so c B) (blk c k S) rfl (by simp[blk_len,so_len];omega) (by rw[so_len];omega) (by rw[so_len];omega) (fun z hz=>hd z (sub z (by simp[so_mem.1 hz]))) (fun z hz=>hd z (sub z (by simp[so_mem.1 hz]))) (so_sorted hO (fun z hz=>hd z (sub z (by simp[hz]))) (grow_nodup hAB.1)) (so_sorted hO (fun z hz=>hd z (sub z (by simp[hz]))) (grow_nodup hAB.2.1)) (fun x hx y hy=>hAB.2.2 x (so_mem.1 hx) y (so_mem.1 hy))
     rw[blk_two hO (k:=k) (fun z hz=>hd z (sub z hz)) (grow_nodup hasc) (by omega),l1,so_len,so_len,lA,lB] at hs
     have e1:xs.take (a+2*k)=xs.take a++(A++B):=by
      have t1:(A++B++S).take (2*k)=A++B:=by rw[List.take_append_of_le_length (by rw[List.length_append];omega),List.take_of_length_le (by rw[List.length_append];omega)]
      rw[List.take_add,hABS,←List.append_assoc A,t1]
     have e2:xs.drop (a+2*k)=S:=by
      have t1:(A++B++S).drop (2*k)=S:=by rw[List.drop_append_of_le_length (by rw[List.length_append];omega),List.drop_of_length_le (by rw[List.length_append];omega),List.nil_append]
      rw[←List.drop_drop,hABS,←List.append_assoc A,t1]
     have e3:blk c (2*k) (xs.take (a+2*k))=blk c (2*k) (xs.take a)++blk c (2*k) (A++B):=by
      rw[e1,blk_app (by omega) _ i _ (by simp;omega)]
     have hr2:=hR2 (n-(a+2*k)) _ (by omega) ⟨a+2*k,i+1,rfl,hlt2,by rw[hai,Nat.mul_succ],rfl⟩
     rw[e3,e2] at hr2
     rw[hbk]
     have j1:=bin_addN (m:=a) (k:=k) (by omega)
     have j2:=bin_addN (m:=a+2*k) (k:=2*k) (by omega)
     rw[show a+k+k=a+2*k by omega] at hs
     simp only[List.append_assoc] at hs hr2 ⊢
     repeat' (first|(apply nrm;simp only[sbe];rfl)|(apply u_iteT;rfl;exact ht2)|(apply u_bin;rfl;rfl;(·first|exact j1|exact j2|exact m1);simp only[sbe];rfl)|(apply u_ev;rfl;simp only[sbe];rfl)|(apply u_wcall;rfl;rfl;exact hs;rfl;simp only[sbe];rfl)|refine u_join ?_|(apply u_jump;rfl;rfl)|refine at_jump ?_|refine kj rfl ?_)
     exact hr2
    ·have hf2:decide (((a+2*k:Nat):Int)≤(n:Int))=false:=by simp;omega
     repeat' (first|(apply nrm;simp only[sbe];rfl)|(apply u_iteF;rfl;exact hf2)|(apply u_ev;rfl;simp only[sbe];rfl)|(apply u_jump;rfl;rfl)|refine at_jump ?_|(refine over_jump (by decide) ?_))
     exact⟨a,_,_,_,rfl,ha0,by omega,i,hai⟩
   ·rintro _ ⟨a,d3,d4,d5,rfl,ha0,ha1,i,hai⟩
    refine kj rfl ?_
    have j1:=bin_addN (m:=a) (k:=k) (by omega)
    have e0:=blk_app (c:=c) (k:=2*k) (by omega) (xs.drop a) i (xs.take a) (by simp;omega)
    rw[List.take_append_drop] at e0
    have l1:(blk c (2*k) (xs.take a)).length=a:=by rw[blk_len];simp;omega
    by_cases hmn:a+k<n
    ·have ht2:decide (((a+k:Nat):Int)<(n:Int))=true:=by simp;omega
     obtain⟨A,B,hABS,lA,lB⟩:∃A B,xs.drop a=A++B∧A.length=k∧a+k+B.length=n:=
      ⟨(xs.drop a).take k,(xs.drop a).drop k,(List.take_append_drop _ _).symm,by simp;omega,by simp;omega⟩
     have hxs:xs=xs.take a++(A++B):=by rw[←hABS,List.take_append_drop]
     have sub:∀z,z∈A++B→z∈xs:=fun z hz=>by
      rw[hxs]
      simp only[List.mem_append] at hz ⊢
      rcases hz with h | h <;> simp[h]
     have hasc:(A++B).Pairwise (·< ·):=(List.pairwise_append.1 (hxs ▸ ha)).2.1
     have hAB:=List.pairwise_append.1 hasc
     have hbk:blk c k (xs.drop a)=so c A++so c B:=by
      rw[hABS,blk_app (by omega) _ 1 A (by omega),blk_le (l:=A) (by omega),blk_le (l:=B) (by omega)]
     have hs:=symr h129 h131 h132 hb hO hc (e:=e) hL _ (blk c (2*k) (xs.take a)) (so c A) (so c B) [] rfl (by simp[blk_len,so_len];omega) (by rw[so_len];omega) (by rw[so_len];omega) (fun z hz=>hd z (sub z (by simp[so_mem.1 hz]))) (fun z hz=>hd z (sub z (by simp[so_mem.1 hz]))) (so_sorted hO (fun z hz=>hd z (sub z (by simp[hz]))) (grow_nodup hAB.1)) (so_sorted hO (fun z hz=>hd z (sub z (by simp[hz]))) (grow_nodup hAB.2.1)) (fun x hx y hy=>hAB.2.2 x (so_mem.1 hx) y (so_mem.1 hy))
     rw[blk_two hO (k:=k) (fun z hz=>hd z (sub z hz)) (grow_nodup hasc) (by omega),l1,so_len,so_len,lA,lB,List.append_nil,List.append_nil,←hABS,←e0] at hs
     rw[hbk]
     simp only[List.append_assoc] at hs ⊢
     repeat' (first|(apply nrm;simp only[sbe];rfl)|(apply u_iteT;rfl;exact ht2)|(apply u_bin;rfl;rfl;(·first|exact j1|exact m2);simp only[sbe];rfl)|(apply u_ev;rfl;simp only[sbe];rfl)|(apply u_wcall;rfl;rfl;exact hs;rfl;simp only[sbe];rfl)|refine u_join ?_|(apply u_jump;rfl;rfl)|refine at_jump ?_|refine kj rfl ?_)
     exact hr _ _
    ·have hf2:decide (((a+k:Nat):Int)<(n:Int))=false:=by simp;omega
     have hbk:blk c k (xs.drop a)=blk c (2*k) (xs.drop a):=by rw[blk_le (by simp;omega),blk_le (by simp;omega)]
     rw[hbk,←e0]
     repeat' (first|(apply nrm;simp only[sbe];rfl)|(apply u_iteF;rfl;exact hf2)|(apply u_bin;rfl;rfl;(·first|exact j1|exact m2);simp only[sbe];rfl)|(apply u_ev;rfl;simp only[sbe];rfl)|refine u_join ?_|(apply u_jump;rfl;rfl)|refine at_jump ?_|refine kj rfl ?_)
     exact hr _ _
  ·have hf:decide ((k:Int)<(n:Int))=false:=by simp;omega
   rw[blk_le (k:=k) (l:=xs) (by omega)]
   repeat' (first|(apply nrm;simp only[sbe];rfl)|(apply u_iteF;rfl;exact hf)|(apply u_ev;rfl;simp only[sbe];rfl)|(apply u_jump;rfl;rfl)|refine at_jump ?_|(refine over_jump (by decide) ?_)|refine kj rfl ?_|exact u_ret rfl rfl)

theorem srt (h108:UOk P f108 .plain cf108 [true,true] (uSrt f122)) (h122:UOk P f122 .plain cf122 [true,true,true] (uStb f128 f129)) (h129:UOk P f129 .plain cf129 [true,true,true,true,true] (uSym f131 f129)) (h131:UOk P f131 .plain cf131 [true,true,true,true,true] (uRot f132)) (h132:UOk P f132 .plain cf132 [true,true,true,true,true] uSwp) (h128:UOk P f128 .plain cf128 [true,true,true,true] uIns)
  (hb:b<bs.length) (hO:Ord c dom) (hc:CmpOk P bs b e g us cs c dom) {xs:List Int} {n:Nat} (hn:xs.length=n) (hL:n<1000000000) (hd:∀z,z∈xs→dom z) (ha:xs.Pairwise (·< ·)) :
  FSpecW P f108 (.st (Row bs b e xs)) [.sl b 0 n,.fn g us cs] (.tup []) (.st (Row bs b e (so c xs))):=by
 have hs:=stbl h122 h129 h131 h132 h128 hb hO hc (e:=e) hn hL hd ha
 refine h108.W rfl ?_
 unfold uSrt
 simp only[ups_cons,ups_nil,List.cons_append,List.nil_append]
 repeat' (first|(apply u_ev;rfl;simp only[sbe];rfl)|(apply u_wcall;rfl;rfl;exact hs;rfl;simp only[sbe];rfl)|exact u_ret rfl rfl)

end Go.Am.Srt
