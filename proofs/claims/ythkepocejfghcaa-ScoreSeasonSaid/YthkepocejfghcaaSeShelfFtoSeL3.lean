/-
  Several texts, one behind the other.
-/
import Derived.Ground.SlsfProg
import Derived.Shelf.SlSortCmp.Whole1
import Derived.Shelf.SlSortCmp.NoneTotal
import Derived.Test.YthkepocejfghcaaProg
import Derived.Test.YthkepocejfghcaaAmRowVtoAmRow
import Derived.Ground.Names2Prog
import Derived.Shelf.Slices.Clone
import Derived.Test.YthkepocejfghcaaAmFntoAmSt2
import Derived.Test.YthkepocejfghcaaSeLentoScAct
import Derived.Test.YthkepocejfghcaaScP8toSeM3
import Derived.Test.YthkepocejfghcaaSeU7
set_option linter.unusedSimpArgs false
set_option linter.unusedVariables false
/-
 DERIVED: THE SHELF's CONTRACTS AT THIS DUMP,IN PLAIN WORDS (tools/lay-plain.mjs out of 'SeShelfF.lean',which tools/lay-shelf.mjs wrote): THE SAME DECLARATIONS UNDER THE SAME NAMES: 'import','namespace','open','def','theorem' AND NOTHING ELSE: no command of the shelf's: FOR A HAND-IN. Each laying: the table of numbers ('.._ren') and one theorem,a field a fact of the dump's own or the kernel's comparison;each contract: ONE APPLICATION.
-/
namespace Go.Proofs
open Go.Shelf
def Try.laysSlF6_f17_ren:Go.Shelf.Ren:=⟨fun | 6=>17 | 15=>47 | 14=>46 | 28=>74 | 29=>75 | 20=>66 | 21=>67 | 22=>68 | 23=>69 | 24=>70 | 25=>71 | 26=>72 | 27=>73 | 46=>82 | 47=>83 | 48=>84 | 49=>85 | 50=>86 | 57=>98 | n=>n,fun | 22=>24 | 24=>3 | 25=>56 | 3=>3 | 39=>84 | 0=>0 | 53=>107 | 55=>109 | 4=>4 | 46=>100 | 45=>99 | 50=>104 | 5=>5 | 9=>9 | 66=>116 | 70=>120 | 76=>127 | 77=>91 | n=>n,fun | n=>n⟩
theorem Try.laysSlF6_f17:Go.Proofs.SlLaysF.n6 Try.prog Try.laysSlF6_f17_ren:={
 mixed:=by kernel_rfl
 f6:=⟨Try.f17.name,by decide,Try.func17.trans (congrArg some (by kernel_rfl))⟩
 f14:=⟨Try.f46.name,by decide,Try.func46.trans (congrArg some (by kernel_rfl))⟩
 f15:=Try.func47.trans (congrArg some (by kernel_rfl))
 f20:=⟨Try.f66.name,by decide,Try.func66.trans (congrArg some (by kernel_rfl))⟩
 f21:=⟨Try.f67.name,by decide,Try.func67.trans (congrArg some (by kernel_rfl))⟩
 f22:=⟨Try.f68.name,by decide,Try.func68.trans (congrArg some (by kernel_rfl))⟩
 f23:=⟨Try.f69.name,by decide,Try.func69.trans (congrArg some (by kernel_rfl))⟩
 f24:=⟨Try.f70.name,by decide,Try.func70.trans (congrArg some (by kernel_rfl))⟩
 f25:=⟨Try.f71.name,by decide,Try.func71.trans (congrArg some (by kernel_rfl))⟩
 f26:=⟨Try.f72.name,by decide,Try.func72.trans (congrArg some (by kernel_rfl))⟩
 f27:=⟨Try.f73.name,by decide,Try.func73.trans (congrArg some (by kernel_rfl))⟩
 f28:=Try.func74.trans (congrArg some (by kernel_rfl))
 f29:=Try.func75.trans (congrArg some (by kernel_rfl))
 f46:=⟨Try.f82.name,by decide,Try.func82.trans (congrArg some (by kernel_rfl))⟩
 f47:=Try.func83.trans (congrArg some (by kernel_rfl))
 f48:=Try.func84.trans (congrArg some (by kernel_rfl))
 f49:=⟨Try.f85.name,by decide,Try.func85.trans (congrArg some (by kernel_rfl))⟩
 f50:=⟨Try.f86.name,by decide,Try.func86.trans (congrArg some (by kernel_rfl))⟩
 f57:=⟨Try.f98.name,by decide,Try.func98.trans (congrArg some (by kernel_rfl))⟩
 t0:=Try.underlying0
 a0:=Try.isAgg0
 z0:=Try.sizeOf0
 v0:=Try.zeroValue0
 t3:=Try.underlying3
 a3:=Try.isAgg3
 z3:=Try.sizeOf3
 v3:=Try.zeroValue3
 t4:=Try.underlying4
 a4:=Try.isAgg4
 z4:=Try.sizeOf4
 v4:=Try.zeroValue4
 t5:=Try.underlying5
 a5:=Try.isAgg5
 z5:=Try.sizeOf5
 v5:=Try.zeroValue5
 t9:=Try.underlying9
 a9:=Try.isAgg9
 z9:=Try.sizeOf9
 v9:=Try.zeroValue9
 t22:=Try.underlying24
 a22:=Try.isAgg24
 z22:=Try.sizeOf24
 v22:=Try.zeroValue24
 a24:=Try.isAgg3
 z24:=Try.sizeOf3
 t25:=Try.underlying56
 a25:=Try.isAgg56
 z25:=Try.sizeOf56
 v25:=Try.zeroValue56
 t39:=Try.underlying84
 a39:=Try.isAgg84
 z39:=Try.sizeOf84
 v39:=Try.zeroValue84
 t45:=Try.underlying99
 a45:=Try.isAgg99
 z45:=Try.sizeOf99
 v45:=Try.zeroValue99
 t46:=Try.underlying100
 a46:=Try.isAgg100
 z46:=Try.sizeOf100
 v46:=Try.zeroValue100
 t50:=Try.underlying104
 a50:=Try.isAgg104
 z50:=Try.sizeOf104
 v50:=Try.zeroValue104
 t53:=Try.underlying107
 a53:=Try.isAgg107
 z53:=Try.sizeOf107
 v53:=Try.zeroValue107
 t55:=Try.underlying109
 a55:=Try.isAgg109
 z55:=Try.sizeOf109
 v55:=Try.zeroValue109
 t66:=Try.underlying116
 a66:=Try.isAgg116
 z66:=Try.sizeOf116
 v66:=Try.zeroValue116
 t70:=Try.underlying120
 a70:=Try.isAgg120
 z70:=Try.sizeOf120
 v70:=Try.zeroValue120
 t76:=Try.underlying127
 a76:=Try.isAgg127
 z76:=Try.sizeOf127
 v76:=Try.zeroValue127
 t77:=Try.underlying91
 a77:=Try.isAgg91
 z77:=Try.sizeOf91
 v77:=Try.zeroValue91 }
open Go.RowKit Go.Lib Go.Sort in
theorem Try.slices_SortFunc_total {α:Type}[Inhabited α](enc:α→Value)(h1:OneCell enc)(cf:α→α→Int)(hO:SWO (ltOf cf))(g:Nat)(cb:Array Value)(blk off cap:Nat)(d:Array α)(w:World)(eg:∀args w,(callFunc g args).run Try.prog w=.ok (.enter g args) w)(hcmp:CmpLays1 Try.prog g cb enc cf blk off d.size w)(hH:Holds enc w blk off d)(hblk:blk<w.heap.size)(hsz:d.size<4611686018427387904)(hT:∀x y,(ltOf cf) x y=false→(ltOf cf) y x=false→x=y) :
  Calls Try.prog 17 #[.slice (some ⟨blk,off,none⟩) d.size cap,.func (.func g) #[] cb] w fun e w'=>
   e=.returned (.tuple #[])∧∃n os,w'=sortWorld enc w blk off n (d.toList.mergeSort fun x y=>!(ltOf cf) y x).toArray os:=Any.slices_SortFunc_total Try.laysSlF6_f17 enc h1 cf hO g cb blk off cap d w eg hcmp hH hblk hsz hT
end Go.Proofs

/-
 ScSort1,with the numbers of the seat of ScoreSeason.
-/
namespace Go.Am.Srt

open Go.Shelf Go.RowKit Go.Lib Go.Sort Go.Proofs

variable {P:Program} {α:Type} [Inhabited α]

abbrev encN (val:α→Int):α→Value:=fun x=>.int .i64 (val x)

theorem putRow_val (val:α→Int)(w:World)(b off:Nat)(d:Array α):Sort.putRow (encN val) w b off d=Sort.putRow (Value.int .i64) w b off (d.map val):=by
 rw[putRow_map w,putRow_map (enc:=Value.int .i64) w,Array.map_map]
 rfl

theorem cmp_lays1 {g:FuncId} {val:α→Int} {cf:α→α→Int} {caps:List D} {cb:Array Value} (hcmp:∀(st:List D) (x y:α),FSpecR P g (.st st) ([J (val x),J (val y)]++caps) (J (cf x y)))
  {w:World} {S:Sets} {foot:Nat→Prop} {bs:List D} {b:Nat} {e:TypeId} {xs:List α} (hst:StOk w S foot bs) (hhold:HoldOk w S foot) (hS:∀b o,S b o→b<w.heap.size) (hfl:∀b,foot b→b<w.heap.size) (hb:bs[b]? = some (.blk e 1 ((xs.map val).map J)))
  (hcl:cb.size=caps.length) (hcr:∀(i:Nat) (v:Value) (d:D),cb[i]? = some v→caps[i]? = some d→RdD w S v d):CmpLays1 P g cb (encN val) cf (S.loc b) 0 xs.toArray.size w:=by
 intro m os dk hdk x y
 obtain⟨k1,k2,k3,k4,k5,k6,k7⟩:=row_world (xs:=xs.map val) (ys:=(dk.map val).toList) (zs:=(dk.map val).toList) hst hS hfl hb (by simp at hdk ⊢;omega) (by simp at hdk ⊢;omega) (fun _ _=>rfl) (q:=m) (os:=os) rfl
 have hW:sortWorld (encN val) w (S.loc b) 0 m dk os=Sort.grow (Sort.putRow (Value.int .i64) (Sort.ahead w m) (S.loc b) 0 (dk.map val).toList.toArray) os:=by
  unfold sortWorld
  rw[putRow_val]
 rw[hW]
 generalize Sort.grow (Sort.putRow (Value.int .i64) (Sort.ahead w m) (S.loc b) 0 (dk.map val).toList.toArray) os=W at k1 k2 k3 k4 k5 k6 k7
 have hv:∀x:α,RdD W S (.int .i64 (val x)) (J (val x)):=fun x=>.v rfl
 have h1:HoldOk W S foot:=fun l rec hl'=>by
  obtain⟨a1,a2⟩:=hhold l rec hl'
  exact⟨(k7 l (Array.getElem?_eq_some_iff.1 a1).1 a2).trans a1,a2⟩
 have h2:(#[Value.int .i64 (val x),.int .i64 (val y)]++cb).size=([J (val x),J (val y)]++caps).length:=by
  simp only[Array.size_append,List.size_toArray,List.length_append,List.length_cons,List.length_nil,hcl]
 have h3:=args2_rd (hv x) (hv y) (fun i v d h1 h2=>(hcr i v d h1 h2).keep k2 (Sets.le_refl _))
 have hspec:=hcmp (bs.set b (.blk e 1 ((dk.map val).toList.map J))) x y W S foot (bs.set b (.blk e 1 ((dk.map val).toList.map J))) (#[.int .i64 (val x),.int .i64 (val y)]++cb) rfl k1 h1 (fun b' hb'=>Nat.lt_of_lt_of_le (hfl b' hb') k6) (fun b' o ho=>Nat.lt_of_lt_of_le (hS b' o ho) k6) h2 h3
 clear k1 h1 h2 h3 hcmp
 refine Calls.mono hspec ?_
 rintro e' w'' ⟨v,S',⟨rfl,hrv⟩,hblw,_⟩
 obtain⟨rfl,_⟩:=hrv.v_inv
 exact⟨rfl,grown_of_blw hblw⟩

theorem sortFunc1 {f g:FuncId} {val:α→Int} {cf:α→α→Int} {caps:List D} {srtd:Array α→Array α}
  (h:∀(cb:Array Value) (blk off cap:Nat) (d:Array α) (w:World),CmpLays1 P g cb (encN val) cf blk off d.size w→Holds (encN val) w blk off d→blk<w.heap.size→d.size<4611686018427387904→Calls P f #[.slice (some ⟨blk,off,none⟩) d.size cap,.func (.func g) #[] cb] w fun e w'=>e=.returned (.tuple #[])∧∃n os,w'=sortWorld (encN val) w blk off n (srtd d) os)
  (hsrt:∀d,(srtd d).size=d.size) (hcmp:∀(st:List D) (x y:α),FSpecR P g (.st st) ([J (val x),J (val y)]++caps) (J (cf x y)))
  {bs:List D} {b:Nat} {e:TypeId} {xs:List α} (hb:bs[b]? = some (.blk e 1 ((xs.map val).map J))) (hL:xs.length<4611686018427387904) :
  FSpecW P f (.st bs) [.sl b 0 xs.length,.fn g [] caps] (.tup []) (.st (bs.set b (.blk e 1 (((srtd xs.toArray).toList.map val).map J)))):=by
 intro w S foot bs0 vs heq hst hhold hfl hS hvl hrd
 cases heq
 obtain⟨v,u,rfl⟩:∃v u,vs=#[v,u]:=by
  match vs,hvl with
  | ⟨[v,u]⟩,_=>exact⟨v,u,rfl⟩
 have hv:=hrd 0 v (.sl b 0 xs.length) rfl rfl
 have hu:=hrd 1 u (.fn g [] caps) rfl rfl
 cases hv with
 | sl hn hl hc h0=>
 rename_i c
 cases hu with
 | @fn _ us cb _ _ hul hcl hur hcr=>
 have hus:us=#[]:=by simpa using hul
 subst hus
 obtain⟨hf,_⟩:=hst.cells b _ _ _ hb
 have hh:=row_holds hst hb
 have hholds:Holds (encN val) w (S.loc b) 0 xs.toArray:=by
  intro j hj
  have hj':j<xs.length:=by simpa using hj
  have:=hh j (by simpa using hj')
  simpa[hj'] using this
 have hlays:=cmp_lays1 (cb:=cb) hcmp hst hhold hS hfl hb hcl hcr
 refine(h cb (S.loc b) 0 c xs.toArray w hlays hholds (hfl _ hf) (by simpa using hL)).mono ?_
 rintro _ w' ⟨rfl,n,os,rfl⟩
 have hsz:=hsrt xs.toArray
 obtain⟨k1,k2,k3,k4,k5,k6,k7⟩:=row_world (w':=sortWorld (encN val) w (S.loc b) 0 n (srtd xs.toArray) os) (xs:=xs.map val) (ys:=(srtd xs.toArray).toList.map val) (zs:=(srtd xs.toArray).toList.map val) hst hS hfl hb (by simp at hsz ⊢;omega) (by simp at hsz ⊢;omega) (fun _ _=>rfl) (q:=n) (os:=os) (by
  have e:(srtd xs.toArray).map val=((srtd xs.toArray).toList.map val).toArray:=Array.toList_inj.1 (by rw[Array.toList_map])
  unfold sortWorld
  rw[putRow_val,e])
 exact⟨.tuple #[],S,foot,_,⟨rfl,.tup rfl fun i v d hv=>by simp at hv⟩,rfl,k1,k2,Sets.le_refl _,k3,k4,k5,k6,k7,fun k' hk=>⟨.inl hk,Nat.lt_of_lt_of_le (hfl k' hk) k6⟩,fun k' o hk=>.inl hk,fun k' o hk=>Nat.lt_of_lt_of_le (hS k' o hk) k6⟩

end Go.Am.Srt

/-
 DERIVED: THE SHELF's CONTRACTS AT THIS DUMP,IN PLAIN WORDS (tools/lay-plain.mjs out of 'SeShelf.lean',which tools/lay-shelf.mjs wrote): THE SAME DECLARATIONS UNDER THE SAME NAMES: 'import','namespace','open','def','theorem' AND NOTHING ELSE: no command of the shelf's: FOR A HAND-IN. Each laying: the table of numbers ('.._ren') and one theorem,a field a fact of the dump's own or the kernel's comparison;each contract: ONE APPLICATION.
-/
namespace Go.Proofs
open Go.Shelf
def Try.laysNm215_ren:Go.Shelf.Ren:=⟨fun | 15=>16 | n=>n,fun | 22=>24 | 3=>3 | 4=>4 | n=>n,fun | n=>n⟩
theorem Try.laysNm215:Go.Proofs.Lays2.n15 Try.prog Try.laysNm215_ren:={
 mixed:=by kernel_rfl
 f15:=Try.func16.trans (congrArg some (by kernel_rfl))
 t3:=Try.underlying3
 a3:=Try.isAgg3
 z3:=Try.sizeOf3
 v3:=Try.zeroValue3
 t4:=Try.underlying4
 a4:=Try.isAgg4
 z4:=Try.sizeOf4
 v4:=Try.zeroValue4
 t22:=Try.underlying24
 a22:=Try.isAgg24
 z22:=Try.sizeOf24
 v22:=Try.zeroValue24
 i3:=by kernel_rfl }
end Go.Proofs

/-
 ScClone,with the numbers of the seat of ScoreSeason.
-/
namespace Go.Am.Srt

open Go.Proofs Go.Shelf Go.RowKit Go.Lib

section

variable {P:Program} {w:World}

theorem wp_append_tl {o:Oper} {a:Act} {K:Act→World→Prop} {Q:Exit→Act→World→Prop} (s x:Operand) (t:TypeId)
 (ho:o.op=.call { callee:=.builtin .append,args:=#[s,x],argTypes:=#[t,t] })
 (e:TypeId) (i:TypeInfo) (z:Value) (size bytes:Nat) (ht:P.underlying t=some (.slice e)) (hi:P.info? e=some i) (hz:i.zero=some z)
 (hsize:i.size=size) (hby:i.bytes=bytes) (hzs:z.cells.size=size) (hsz:0<size)
 (v:Value) (n:Nat) (xs:List Value) (hs:a.eval s=v) (hown:w.ownsRow 0 e size v n xs)
 (ad:Addr) (m c:Nat) (news:List Value) (hx:a.eval x=.slice (some ad) m c) (hl:news.length=m*size) (hnews:∀j u,news[j]? = some u→w.cell? (ad.add j)=some u) (h1:∀u∈news,u.oneCell'=true)
 (h63:n+m≤maxLen) (hbytes:(n+m)*bytes≤140737488355328)
 (h:∀v' w',w'.ownsRow 0 e size v' (n+m) (xs++news)→((v'.ownBlock=v.ownBlock∧GBy w w' v.ownBlock)∨(v'.ownBlock=some w.heap.size∧GBy w w' none))→K (a.put o.dst v') w'):o.wp P a w K Q:=by
 obtain⟨v',w',hr,h2,h3⟩:=run_append_cases (P:=P) w t o.type e i z size bytes ht hi hz hsize hby hzs hsz v n xs hown ad m c news hl hnews h1 h63 hbytes
 unfold Oper.wp execOp
 simp only[ho,resolve,invoke,builtin,Sem.run_bind,Sem.run_pure,Result.andThen_ok,List.map_toArray,List.map_cons,List.map_nil,hs,hx,hr]
 exact h v' w' h2 h3

theorem wpList_append_tl {ops:Array Oper} {rest:List Oper} {o:Oper} {a:Act} {Q:Exit→Act→World→Prop} (hgd:o.guard=none) (s x:Operand) (t:TypeId)
 (ho:o.op=.call { callee:=.builtin .append,args:=#[s,x],argTypes:=#[t,t] })
 (e:TypeId) (i:TypeInfo) (z:Value) (size bytes:Nat) (ht:P.underlying t=some (.slice e)) (hi:P.info? e=some i) (hz:i.zero=some z)
 (hsize:i.size=size) (hby:i.bytes=bytes) (hzs:z.cells.size=size) (hsz:0<size)
 (v:Value) (n:Nat) (xs:List Value) (hs:a.eval s=v) (hown:w.ownsRow 0 e size v n xs)
 (ad:Addr) (m c:Nat) (news:List Value) (hx:a.eval x=.slice (some ad) m c) (hl:news.length=m*size) (hnews:∀j u,news[j]? = some u→w.cell? (ad.add j)=some u) (h1:∀u∈news,u.oneCell'=true)
 (h63:n+m≤maxLen) (hbytes:(n+m)*bytes≤140737488355328)
 (h:∀v' w',w'.ownsRow 0 e size v' (n+m) (xs++news)→((v'.ownBlock=v.ownBlock∧GBy w w' v.ownBlock)∨(v'.ownBlock=some w.heap.size∧GBy w w' none))→wpList P ops Q rest (a.put o.dst v') w'):wpList P ops Q (o :: rest) a w:=
 wpList_plain hgd fun _ hK=>wp_append_tl s x t ho e i z size bytes ht hi hz hsize hby hzs hsz v n xs hs hown ad m c news hx hl hnews h1 h63 hbytes fun v' w' h2 h3=>hK _ _ (h v' w' h2 h3)

end

section

variable {P:Program} {ρ:Ren}

set_option maxRecDepth 100000 in
theorem cloneTL (L:Lays2.n15 P ρ)(ad:Addr)(n c:Nat)(xs:List Value)(w:World)(hl:xs.length=n)(hbig:n*8≤140737488355328)(hc:∀j u,xs[j]? = some u→w.cell? (ad.add j)=some u)(h1:∀u∈xs,u.oneCell'=true) :
  Calls P (ρ.f 15) #[.slice (some ad) n c] w fun e w'=>∃v' g,e=.returned v'∧w'.ownsRow 0 (ρ.t 3) 1 v' n xs∧v'.ownBlock=some g∧w.heap.size≤g∧GBy w w' none:=by
 have mixed:=L.mixed;have t3:=L.t3;have a3:=L.a3;have z3:=L.z3;have v3:=L.v3;have t4:=L.t4;have a4:=L.a4;have z4:=L.z4;have v4:=L.v4;have t22:=L.t22;have a22:=L.a22;have z22:=L.z22;have v22:=L.v22
 obtain⟨i0,hi,hz0,hz1,hz2⟩:=info_parts L.i3
 have q22:∀(w:World) (a:Option Addr) (n c n' c':Nat),(binOp .eql (ρ.t 22) (.slice a n c) (.slice none n' c')).run P w=.ok (.bool a.isNone) w:=fun w a n c n' c'=>Lib.run_eql_slice_nil w _ _ a n c n' c' L.t22
 have u13:∀w,Sem.run P (underlying (ρ.t 22)) w=.ok (TypeDesc.slice (ρ.t 3)) w:=run_underlying t22
 have A:Aside ((∀j u,xs[j]? = some u→w.cell? (ad.add j)=some u)∧∀u∈xs,u.oneCell'=true):=⟨hc,h1⟩
 clear hc h1
 go_enter L.f15,Body2.n15_ntmps ρ
 go_wp2_with (at_builtin;refine wpList_append_tl rfl _ _ (ρ.t 22) rfl (ρ.t 3) i0 (.int .i64 0) 1 8 t22 hi hz0 hz1 hz2 rfl (by decide) _ _ _ rfl (World.ownsRow_made w #[] 0 (Nat.zero_le _) (Nat.zero_le _) rfl) ad n c xs rfl ?qc1 ?qc2 ?qc3 ?qc4 ?qc5 ?_)
 case qc1=>simpa using hl
 case qc2=>
  intro j u hj
  exact Lib.cell?_alloc_some _ (A.out.1 j u hj)
 case qc3=>exact A.out.2
 case qc4=>unfold maxLen;omega
 case qc5=>omega
 intro v' w1 hown hgrow
 go_wp2
 go_ret
 have hg1:GBy w (w.alloc (.cells #[] (ρ.t 3))) none:=⟨rfl,⟨rfl,Nat.le_refl _⟩,rfl,by simp,fun k hk _=>heapOld w _ k hk⟩
 rcases hgrow with⟨h1,h2⟩ | ⟨h1,h2⟩
 ·exact⟨v',w.heap.size,rfl,by simpa using hown,h1,Nat.le_refl _,h2.os.trans hg1.os,h2.tape.trans hg1.tape,h2.output.trans hg1.output,Nat.le_trans hg1.size h2.size,fun k hk _=>(h2.block k (Nat.lt_of_lt_of_le hk hg1.size) (by simp[Value.ownBlock];omega)).trans (hg1.block k hk (by simp))⟩
 ·exact⟨v',_,rfl,by simpa using hown,h1,by simp,h2.os.trans hg1.os,h2.tape.trans hg1.tape,h2.output.trans hg1.output,Nat.le_trans hg1.size h2.size,fun k hk _=>(h2.block k (Nat.lt_of_lt_of_le hk hg1.size) (by simp)).trans (hg1.block k hk (by simp))⟩

end

theorem cloneW {P:Program} {f:FuncId} {e:TypeId} (h:∀(ad:Addr) (n c:Nat) (xs:List Value) (w:World),xs.length=n→n*8≤140737488355328→(∀j u,xs[j]? = some u→w.cell? (ad.add j)=some u)→(∀u∈xs,u.oneCell'=true) →
   Calls P f #[.slice (some ad) n c] w fun e' w'=>∃v' g,e'=.returned v'∧w'.ownsRow 0 e 1 v' n xs∧v'.ownBlock=some g∧w.heap.size≤g∧GBy w w' none)
  {bs:List D} {l:List Int} (hl:l≠[]) (hn:l.length≤1000000) :
  FSpecW P f (.st bs) [.lst (l.map J)] (.sl bs.length 0 l.length) (.st (bs++[.blk e 1 (l.map J)])):=by
 intro w S foot bs0 vs heq hst hhold hfl hS hvl hrd
 cases heq
 obtain⟨v,rfl⟩:∃v,vs=#[v]:=by
  match vs,hvl with
  | ⟨[v]⟩,_=>exact⟨v,rfl⟩
 have hv:=hrd 0 v (.lst (l.map J)) rfl rfl
 have hall:allCells 1 (l.map J)=true:=by simp[allCells,D.cells]
 rcases news_asL (size:=1) hst hv (ys:=l.map J) rfl hall with⟨h1,_⟩ | ⟨ad,m,c,news,rfl,hm,hnl,hcells,hone,hrow⟩
 ·exact absurd (List.map_eq_nil_iff.1 h1) hl
 obtain⟨hall',hfl',hfr⟩:=hrow.flat (by omega)
 have hcl:cellsL (l.map J)=l.map J:=by
  unfold cellsL
  clear hn hl hv hall hm hrow hfl' hfr hall'
  clear hrd hvl
  induction l with
  | nil=>rfl
  | cons x r ih=>rw[List.map_cons,List.flatMap_cons,ih];rfl
 refine(h ad m c news w (by omega) (by simp at hm;omega) hcells hone).mono ?_
 rintro e' w' ⟨v',g,rfl,hown,hob,hge,hgr⟩
 rcases hown.2 with⟨rfl,_⟩ | ⟨g',cap,cur,rfl,_,hg,hnc,hcm,hcs,htake⟩
 ·cases hob
 obtain rfl:g'=g:=by simpa[Value.ownBlock] using hob
 have hm:l.length=m:=by simpa using hm
 subst hm
 have hK:Keeps S w w':=fun b off hs=>World.cell?_of_block (a:=⟨b,off,none⟩) (hgr.block b (hS b off hs) (by simp))
 have hnS:∀off,¬S g' off:=fun off hs=>by have:=hS g' off hs;omega
 have hnst:=stOk_more (w:=w) (w':=w') (ρ:={ blk:=fun _=>0,val:=fun _=>.slice none 0 0,S:=S,foot:=foot }) (bs:=bs) (bs2:=bs) (vs:=cur) (e:=e) (sz:=1) (k:=cap) (b:=g') (cs:=l.map J) (foot':=fun b=>foot b∨b=g') hst hK rfl (fun j x hj hx=>⟨hj,fun he=>by have:=hfl _ (hst.live_foot hj hx);dsimp only at he;omega,hgr.block _ (hfl _ (hst.live_foot hj hx)) (by simp)⟩) (fun _=>Iff.rfl) hg (by omega) (by rw[List.length_map];omega) (fun j d hj=>by
   simp only[List.getElem?_map,Option.map_eq_some_iff] at hj
   obtain⟨x,_,rfl⟩:=hj
   rfl) (fun j v d hv hd=>by
   have hj:j<l.length:=by simpa using(List.getElem?_eq_some_iff.1 hd).1
   rw[←hcl] at hd
   refine(hfr j v d ?_ hd).1
   rw[←htake,List.getElem?_take,if_pos (by omega)]
   simpa using hv) hnS
 refine⟨_,S.more g' cap,fun b=>foot b∨b=g',_,⟨rfl,?_⟩,rfl,hnst,hK,S.le_more g' cap,hgr.os,hgr.tape,hgr.output,hgr.size,fun b hb _=>hgr.block b hb (by simp),fun b hb=>?_,fun b o hs=>.inl hs,fun b o hs=>Nat.lt_of_lt_of_le (hS b o hs) hgr.size⟩
 ·have:=RdD.sl (w:=w') (S:=S.more g' cap) (i:=bs.length) (off:=0) (len:=l.length) (c:=cap) (by simp[Sets.more,hst.n]) hnc hcm (fun _=>by simp[Sets.more,hst.n])
  have hl:(S.more g' cap).loc bs.length=g':=by simp[Sets.more,hst.n]
  rwa [hl] at this
 ·rcases hb with hb | rfl
  ·exact⟨.inl hb,Nat.lt_of_lt_of_le (hfl b hb) hgr.size⟩
  ·exact⟨.inr hge,(Array.getElem?_eq_some_iff.1 hg).1⟩

end Go.Am.Srt

/-
 A list of numbers that grows at the end of a function's own store;what data without a store melt to.
-/
namespace Go.Am.Sc

variable {b0:List D} {xs:List Int} {x:Int}

theorem ev_apps {env:List D}{x y z:E}{dx dy dz d:D}(hx:x.eval env=some dx)(hy:y.eval env=some dy)(hz:z.eval env=some dz)(h:D.apps dx dy dz=some d):(E.apps x y z).eval env=some d:=by simp[E.eval,hx,hy,hz,h]
theorem evC {env:List D}{x:E}{r:List E}{d:D}{ds:List D}(hx:x.eval env=some d)(hr:evalAll env r=some ds):evalAll env (x :: r)=some (d :: ds):=by simp[evalAll,hx,hr]
theorem evN {env:List D}:evalAll env []=some []:=rfl

/-! ## data that melt to themselves -/

theorem meltL_map {α:Type}{enc:α→D}{f:D→Option D}:∀{l:List α},(∀a,a∈l→f (enc a)=some (enc a))→meltL f (l.map enc)=some (l.map enc)
 | [],_=>rfl
 | a :: l,h=>by
  simp only[List.map_cons,meltL]
  rw[h a (List.mem_cons_self ..),meltL_map fun b hb=>h b (List.mem_cons_of_mem _ hb)]
  rfl

theorem melt_is {bs:List D}{l:List Int}{n:Nat}:melt bs (n+2) (Is l)=some (Is l):=by
 rw[melt,meltL_map (enc:=I) fun a _=>by rw[melt]]
 rfl

end Go.Am.Sc

/-
 A reader is called with what lies in the store: it reads what this melts to.
-/
namespace Go.Am.Sc

inductive Dry:D→Prop
 | v (x:Value):Dry (.v x)
 | tup {cs:List D} (h:∀c,c∈cs→∃x,c=.v x):Dry (.tup cs)

theorem Dry.rd {d:D}(hd:Dry d){w w':World}{S S':Sets}{v:Value}(h:RdD w S v d):RdD w' S' v d:=by
 cases hd with
 | v x=>cases h with | v hp=>exact .v hp
 | tup hc=>
  cases h with
  | tup hl hr=>
   refine .tup hl fun i u d hu hd=>?_
   obtain⟨x,rfl⟩:=hc d (List.mem_of_getElem? hd)
   have:=hr i u _ hu hd
   cases this with | v hp=>exact .v hp

theorem unmelt {P:Program}{f:FuncId}{ds ds':List D}{bs:List D}{n:Nat}{d:D}(h:FSpecR P f (.st []) ds' d)(hm:meltL (melt bs n) ds=some ds')(hd:Dry d):FSpecR P f (.st bs) ds d:=by
 intro w S foot bs0 vs hb hst hhold hfl hS hvl hrd
 cases hb
 let S0:Sets:={ mem:=(S.or fun b _=>foot b).mem,loc:=fun _=>0,n:=0,cap:=fun _=>0 }
 have hst0:StOk w S0 (fun _=>False) []:=⟨rfl,fun i e sz cs hi=>by simp at hi,fun b off hf=>hf.elim,fun i kvs hi=>by simp at hi,fun i j x y hi=>by simp at hi,fun i z hi=>by simp at hi⟩
 have hS0:∀b o,S0 b o→b<w.heap.size:=fun b o h=>by
  rcases h with h | h
  ·exact hS b o h
  ·exact hfl b h
 obtain⟨hl,hg⟩:=meltL_get hm
 refine(h w S0 (fun _=>False) [] vs rfl hst0 (fun l rec hl=>by cases hl) (fun _ hf=>hf.elim) hS0 (by rw[hvl,hl]) fun i v x' hv hx'=>?_).mono ?_
 ·obtain⟨x,hx,hmx⟩:=hg i x' hx'
  exact(melt_rd hst n n (Nat.le_refl _) (hrd i v x hv hx) hmx).free (fun _ _ h=>h) (melt_noid hmx)
 ·rintro e w' ⟨v,S',hends,hb,hle,hsn,hnew,hlt⟩
  exact⟨v,S,⟨hends.1,hd.rd hends.2⟩,hb,Sets.le_refl _,rfl,fun b o h=>.inl h,fun b o h=>Nat.lt_of_lt_of_le (hS b o h) hb.size⟩

end Go.Am.Sc

/-
 ScM4,with the numbers of the seat of ScoreSeason.
-/
namespace Go.Am.Sc

open Go.Proofs Go.RowKit

set_option maxRecDepth 100000

set_option maxHeartbeats 4000000

attribute [local irreducible] inR allR

variable {bs:List D} {pts:List (List Int)} {drop:Int}

abbrev Falls (pts:List (List Int)):D:=.lst ((pts.map fall).map Is)

theorem fall_get {i:Nat}(h:i<pts.length):D.eaddr 1 (Falls pts) (In i)=some (.ptr [Is (fall (pt pts i))]):=by
 have h2:i<(pts.map fall).length:=by simpa using h
 have e:fall (pt pts i)=(pts.map fall)[i]:=by simp[pt,List.getD,h]
 rw[e]
 exact eaddr_get (enc:=Is) h2 rfl

theorem c84 (hs:SeaOk pts drop){a b:Nat}(ha:a<pts.length)(hb:b<pts.length):FSpecR Try.prog 20 (.st bs) [In a,In b,.ptr [Is (totL pts drop)],.ptr [Falls pts]] (I (cmpC pts drop a b)):=by
 have h71:=c71 (bs:=bs) (totC pts drop b) (totC pts drop a)
 have h74:=c74 (bs:=bs) (xs:=fall (pt pts b)) (ys:=fall (pt pts a)) (by have:=hs.each b hb;rw[fall_len];omega)
 have h85:=c85 (bs:=bs) (cmp1 (totC pts drop b) (totC pts drop a)) (cmpL (fall (pt pts b)) (fall (pt pts a)))
 refine ku20.R rfl rfl ?_
 unfold u20
 simp only[ups_cons,ups_nil,List.cons_append,List.nil_append]
 repeat' (first|(apply u_eaddr;rfl;rfl;(·first|exact tot_get ha|exact tot_get hb|exact fall_get ha|exact fall_get hb);simp only[sbe];rfl)|(apply u_ev;rfl;simp only[sbe];rfl)|(apply u_call;rfl;rfl;(·first|exact h71|exact h74|exact h85);rfl;simp only[sbe];rfl)|exact u_ret rfl rfl)

abbrev Num:Type:={ x:Int // 0≤x∧x≤100000 }

instance:Inhabited Num:=⟨⟨0,by decide⟩⟩

def cfN (x y:Num):Int:=y.1-x.1

theorem lt_cfN (x y:Num):ltOf cfN x y=decide (y.1<x.1):=by
 unfold ltOf cfN
 rw[Bool.eq_iff_iff,decide_eq_true_eq,decide_eq_true_eq]
 omega

theorem swoN:Sort.SWO (ltOf cfN) where
 irrefl x:=by rw[lt_cfN];simp
 trans x y z h1 h2:=by
  rw[lt_cfN,decide_eq_true_eq] at *
  omega
 ntrans x y z h1 h2:=by
  rw[lt_cfN,decide_eq_false_iff_not] at *
  omega

def srtN (d:Array Num):Array Num:=(d.toList.mergeSort fun x y=>!(ltOf cfN) y x).toArray

theorem srtN_size (d:Array Num):(srtN d).size=d.size:=by simp[srtN]

theorem srtN_fall (l:List Num):(srtN l.toArray).toList.map Subtype.val=fall (l.map Subtype.val):=by
 refine fall_unique ?_ (fall_sorted _) ?_
 ·unfold srtN
  rw[List.pairwise_map]
  refine(List.pairwise_mergeSort (le:=fun x y=>!(ltOf cfN) y x) (fun a b c h1 h2=>?_) (fun a b=>?_) _).imp fun h=>?_
  ·simp only[Bool.not_eq_true',lt_cfN,decide_eq_false_iff_not] at *
   omega
  ·simp only[Bool.or_eq_true,Bool.not_eq_true',lt_cfN,decide_eq_false_iff_not]
   omega
  ·simp only[Bool.not_eq_true',lt_cfN,decide_eq_false_iff_not] at h
   omega
 ·unfold srtN
  exact((List.mergeSort_perm _ _).map _).trans (fall_perm _).symm

theorem liftN:∀{l:List Int},(∀x,x∈l→0≤x∧x≤100000)→∃m:List Num,m.map Subtype.val=l
 | [],_=>⟨[],rfl⟩
 | x :: r,h=>by
  obtain⟨m,hm⟩:=liftN (l:=r) fun y hy=>h y (List.mem_cons_of_mem _ hy)
  exact⟨⟨x,h x (List.mem_cons_self ..)⟩ :: m,by rw[List.map_cons,hm]⟩

theorem c68 {b:Nat}{e:TypeId}{l:List Int}(hb:bs[b]? = some (.blk e 1 (l.map I)))(hl:∀x,x∈l→0≤x∧x≤100000)(hn:l.length≤1000) :
  FSpecW Try.prog 17 (.st bs) [.sl b 0 l.length,.fn 18 [] []] (.tup []) (.st (bs.set b (.blk e 1 ((fall l).map I)))):=by
 obtain⟨m,rfl⟩:=liftN hl
 have h:=Srt.sortFunc1 (P:=Try.prog) (f:=17) (g:=18) (val:=Subtype.val) (cf:=cfN) (caps:=[]) (srtd:=srtN) (bs:=bs) (b:=b) (e:=e) (xs:=m)
  (fun cb blk off cap d w hcmp hH hblk hsz=>Try.slices_SortFunc_total _ (fun _=>rfl) cfN swoN 18 cb blk off cap d w (enters_of Try.func18 (by kernel_rfl) rfl) hcmp hH hblk hsz (fun x y h1 h2=>by
   rw[lt_cfN,decide_eq_false_iff_not] at h1 h2
   exact Subtype.ext (by omega)))
  srtN_size (fun st x y=>c83 x.2 y.2) hb (by rw[List.length_map] at hn;omega)
 rw[srtN_fall] at h
 rwa [List.length_map]

end Go.Am.Sc

/-
 ScP9,with the numbers of the seat of ScoreSeason.
-/
namespace Go.Am.Sc

open Go.Proofs

set_option maxRecDepth 100000

abbrev TA:TypeId:=1000000000

variable {pts:List (List Int)} {drop:Int}

def rowsD (pts:List (List Int))(i:Nat):List D:=(List.range pts.length).map fun j=>if j<i then .sl (5+2*j) 0 (pt pts j).length else .lst []

theorem rowsD_len {i:Nat}:(rowsD pts i).length=pts.length:=by simp[rowsD]

theorem rowsD_get {i j:Nat}(h:j<pts.length)(hj:j<i):(rowsD pts i)[j]? = some (.sl (5+2*j) 0 (pt pts j).length):=by
 simp[rowsD,h,hj]

theorem rowsD_succ {i:Nat}(h:i<pts.length):rowsD pts (i+1)=(rowsD pts i).set i (.sl (5+2*i) 0 (pt pts i).length):=by
 refine List.ext_getElem (by simp[rowsD]) fun k h1 h2=>?_
 rw[List.getElem_set]
 simp only[rowsD,List.getElem_map,List.getElem_range]
 split
 ·split
  ·rename_i h3;rw[h3]
  ·rw[if_pos (by omega)]
 ·split
  ·omega
  ·rw[if_neg (by omega)]

def totB (T:List Int):D:=.blk TA 1 (T.map I)

def rowB (pts:List (List Int))(i:Nat):D:=.blk TA 1 (rowsD pts i)

def ordSt (i:Nat)(s:List D):List D:=if i=0 then s++[.blk 3 1 [In 0]] else s.set (2+2*i) (.tup [])++[.blk 3 1 ((List.range (i+1)).map In)]

def stA (pts:List (List Int))(i:Nat)(s:List D):List D:=(ordSt i s++[D.blk 3 1 ((pt pts i).map I)]).set 1 (rowB pts (i+1))

def stB (pts:List (List Int))(i:Nat)(s:List D):List D:=(stA pts i s).set (5+2*i) (.blk 3 1 ((fall (pt pts i)).map I))

def stC (pts:List (List Int))(drop:Int):Nat→List D
 | 0=>[totB (totTo' pts drop 0),rowB pts 0,.blk TA 1 [.sl 0 0 pts.length],.blk TA 1 [.sl 1 0 pts.length]]
 | i+1=>(stB pts i (stC pts drop i)).set 0 (totB (totTo' pts drop (i+1)))

def ordS (i:Nat):D:=if i=0 then .snil else .sl (2+2*i) 0 i

theorem ordSt_len {i:Nat}{s:List D}:(ordSt i s).length=s.length+1:=by
 unfold ordSt
 split <;> simp

theorem stA_len {i:Nat}{s:List D}:(stA pts i s).length=s.length+2:=by simp[stA,ordSt_len]

theorem stB_len {i:Nat}{s:List D}:(stB pts i s).length=s.length+2:=by simp[stB,stA_len]

theorem stC_len:∀{i:Nat},(stC pts drop i).length=4+2*i
 | 0=>rfl
 | i+1=>by
  rw[stC,List.length_set,stB_len,stC_len]
  omega

theorem ordSt_low {i k:Nat}{s:List D}(h:k<s.length)(hk:k≠2+2*i):(ordSt i s)[k]? = s[k]?:=by
 unfold ordSt
 split
 ·rw[List.getElem?_append_left h]
 ·rw[List.getElem?_append_left (by simpa using h),List.getElem?_set_ne (by omega)]

theorem stA_low {i k:Nat}{s:List D}(h:k<s.length)(hk:k≠2+2*i)(h1:k≠1):(stA pts i s)[k]? = s[k]?:=by
 rw[stA,List.getElem?_set_ne (by omega),List.getElem?_append_left (by rw[ordSt_len];omega),ordSt_low h hk]

theorem stB_low {i k:Nat}{s:List D}(h:k<s.length)(hk:k≠2+2*i)(h1:k≠1)(h5:k≠5+2*i):(stB pts i s)[k]? = s[k]?:=by
 rw[stB,List.getElem?_set_ne (by omega),stA_low h hk h1]

theorem stA_one {i:Nat}{s:List D}(h:1<s.length):(stA pts i s)[1]? = some (rowB pts (i+1)):=by
 rw[stA,List.getElem?_set_self (by simp[ordSt_len])]

theorem stB_one {i:Nat}{s:List D}(h:1<s.length):(stB pts i s)[1]? = some (rowB pts (i+1)):=by
 rw[stB,List.getElem?_set_ne (by omega),stA_one h]

theorem stA_row {i:Nat}{s:List D}(h:s.length=4+2*i):(stA pts i s)[5+2*i]? = some (.blk 3 1 ((pt pts i).map I)):=by
 rw[stA,List.getElem?_set_ne (by omega),List.getElem?_append_right (by rw[ordSt_len];omega),ordSt_len,h]
 rw[show 5+2*i-(4+2*i+1)=0 by omega]
 rfl

theorem stB_row {i:Nat}{s:List D}(h:s.length=4+2*i):(stB pts i s)[5+2*i]? = some (.blk 3 1 ((fall (pt pts i)).map I)):=by
 rw[stB,List.getElem?_set_self (by rw[stA_len];omega)]

theorem ordSt_new {i:Nat}{s:List D}(h:s.length=4+2*i):(ordSt i s)[4+2*i]? = some (.blk 3 1 ((List.range (i+1)).map In)):=by
 unfold ordSt
 split
 ·rename_i h0
  subst h0
  rw[List.getElem?_append_right (by omega),h]
  rfl
 ·rw[List.getElem?_append_right (by simp;omega),List.length_set,h,Nat.sub_self]
  rfl

theorem stB_ord {i:Nat}{s:List D}(h:s.length=4+2*i):(stB pts i s)[4+2*i]? = some (.blk 3 1 ((List.range (i+1)).map In)):=by
 rw[stB,List.getElem?_set_ne (by omega),stA,List.getElem?_set_ne (by omega),List.getElem?_append_left (by rw[ordSt_len];omega),ordSt_new h]

theorem stC_zero:∀{i:Nat},(stC pts drop i)[0]? = some (totB (totTo' pts drop i))
 | 0=>rfl
 | i+1=>by
  rw[stC,List.getElem?_set_self (by rw[stB_len,stC_len];omega)]

theorem stC_one:∀{i:Nat},(stC pts drop i)[1]? = some (rowB pts i)
 | 0=>rfl
 | i+1=>by
  rw[stC,List.getElem?_set_ne (by omega),stB_one (by rw[stC_len];omega)]

theorem stC_two:∀{i:Nat},(stC pts drop i)[2]? = some (.blk TA 1 [.sl 0 0 pts.length])
 | 0=>rfl
 | i+1=>by
  by_cases h:i=0
  ·subst h
   rw[stC,List.getElem?_set_ne (by omega),stB,List.getElem?_set_ne (by omega),stA,List.getElem?_set_ne (by omega)]
   rfl
  ·rw[stC,List.getElem?_set_ne (by omega),stB_low (by rw[stC_len];omega) (by omega) (by omega) (by omega)]
   exact stC_two

theorem stC_three:∀{i:Nat},(stC pts drop i)[3]? = some (.blk TA 1 [.sl 1 0 pts.length])
 | 0=>rfl
 | i+1=>by
  rw[stC,List.getElem?_set_ne (by omega),stB_low (by rw[stC_len];omega) (by omega) (by omega) (by omega)]
  exact stC_three

theorem stC_ord {i:Nat}(h:0<i):(stC pts drop i)[2+2*i]? = some (.blk 3 1 ((List.range i).map In)):=by
 obtain⟨k,rfl⟩:∃k,i=k+1:=⟨i-1,by omega⟩
 rw[stC,List.getElem?_set_ne (by omega)]
 have:=stB_ord (pts:=pts) (s:=stC pts drop k) stC_len
 rw[show 2+2*(k+1)=4+2*k by omega]
 exact this

theorem stC_row:∀{i j:Nat},j<i→(stC pts drop i)[5+2*j]? = some (.blk 3 1 ((fall (pt pts j)).map I))
 | i+1,j,h=>by
  rw[stC,List.getElem?_set_ne (by omega)]
  by_cases hj:j=i
  ·subst hj
   exact stB_row stC_len
  ·rw[stB_low (by rw[stC_len];omega) (by omega) (by omega) (by omega)]
   exact stC_row (by omega)

end Go.Am.Sc

/-
 ScM5,with the numbers of the seat of ScoreSeason.
-/
namespace Go.Am.Sc

open Go.Proofs

set_option maxRecDepth 100000

set_option maxHeartbeats 4000000

attribute [local irreducible] inR allR

variable {bs:List D} {pts:List (List Int)} {drop:Int}

theorem meltL_of {f:D→Option D}:∀{l l':List D},l.length=l'.length→(∀(i:Nat) (x y:D),l[i]? = some x→l'[i]? = some y→f x=some y)→meltL f l=some l'
 | [],[],_,_=>rfl
 | [],_ :: _,h,_=>by simp at h
 | _ :: _,[],h,_=>by simp at h
 | x :: r,y :: r',h,hf=>by
  rw[meltL,hf 0 x y rfl rfl,meltL_of (l:=r) (l':=r') (by simpa using h) fun i a b ha hb=>hf (i+1) a b (by simpa using ha) (by simpa using hb)]
  rfl

theorem meltL_ints {s:List D}{n:Nat}(l:List Int):meltL (melt s (n+1)) (l.map I)=some (l.map I):=meltL_map (enc:=I) fun a _=>by rw[melt]

theorem melt_row {s:List D}{n b:Nat}{e:TypeId}{l:List Int}(h:s[b]? = some (.blk e 1 (l.map I))):melt s (n+2) (.sl b 0 l.length)=some (Is l):=by
 rw[melt]
 simp only[h]
 rw[if_pos (by simp)]
 simp only[Nat.mul_one,List.drop_zero]
 rw[show(List.map I l).take l.length=List.map I l from List.take_of_length_le (by simp),meltL_ints]
 simp

section

variable {s:List D}

theorem melt_tot (h0:s[0]? = some (totB (totL pts drop)))(h2:s[2]? = some (.blk TA 1 [.sl 0 0 pts.length])):melt s 7 (.loc 2 0)=some (.ptr [Is (totL pts drop)]):=by
 have h:=melt_row (n:=4) h0
 rw[totL_len] at h
 rw[melt]
 simp only[h2,List.drop_zero,meltL,h,Option.bind_some,Option.map_some]

theorem melt_fall (h1:s[1]? = some (rowB pts pts.length))(h3:s[3]? = some (.blk TA 1 [.sl 1 0 pts.length]))(hr:∀j,j<pts.length→s[5+2*j]? = some (.blk 3 1 ((fall (pt pts j)).map I))):melt s 7 (.loc 3 0)=some (.ptr [Falls pts]):=by
 have h:melt s 6 (.sl 1 0 pts.length)=some (Falls pts):=by
  rw[melt]
  simp only[h1,rowB,rowsD_len]
  rw[if_pos (by simp)]
  simp only[Nat.mul_one,List.drop_zero]
  rw[List.take_of_length_le (by rw[rowsD_len];exact Nat.le_refl _)]
  rw[meltL_of (l':=(pts.map fall).map Is) (by simp[rowsD_len]) fun i x y hx hy=>?_]
  ·simp
  ·have hi:i<pts.length:=by simpa[rowsD_len] using(List.getElem?_eq_some_iff.1 hx).1
   rw[rowsD_get hi hi] at hx
   cases hx
   have hy2:y=Is (fall (pt pts i)):=by
    simp only[List.getElem?_map,List.getElem?_eq_getElem hi,Option.map_some,Option.some.injEq] at hy
    rw[←hy]
    simp[pt,List.getD,hi]
   rw[hy2]
   have:=melt_row (n:=3) (hr i hi)
   rwa [fall_len] at this
 rw[melt]
 simp only[h3,List.drop_zero,meltL,h,Option.bind_some,Option.map_some]

theorem c84s (h0:s[0]? = some (totB (totL pts drop)))(h1:s[1]? = some (rowB pts pts.length))(h2:s[2]? = some (.blk TA 1 [.sl 0 0 pts.length]))(h3:s[3]? = some (.blk TA 1 [.sl 1 0 pts.length]))(hr:∀j,j<pts.length→s[5+2*j]? = some (.blk 3 1 ((fall (pt pts j)).map I)))(hs:SeaOk pts drop){x y:Int}(hx:0≤x∧x<pts.length)(hy:0≤y∧y<pts.length):FSpecR Try.prog 20 (.st s) [Srt.J x,Srt.J y,.loc 2 0,.loc 3 0] (Srt.J (cmpI pts drop x y)):=by
 obtain⟨a,rfl⟩:∃a:Nat,x=a:=⟨x.toNat,by omega⟩
 obtain⟨b,rfl⟩:∃b:Nat,y=b:=⟨y.toNat,by omega⟩
 have h:=c84 (bs:=[]) hs (a:=a) (b:=b) (by omega) (by omega)
 refine unmelt (n:=7) h ?_ (.v _)
 have m1:=melt_tot h0 h2
 have m2:=melt_fall h1 h3 hr
 have m3:∀z:Int,melt s 7 (Srt.J z)=some (I z):=fun z=>rfl
 generalize melt s 7=f at m1 m2 m3 ⊢
 simp only[meltL,m1,m2,m3,Option.bind_some,Option.map_some]

end

theorem cmpOk (hs:SeaOk pts drop):Srt.CmpOk Try.prog (stC pts drop pts.length) (2+2*pts.length) 3 20 [] [.loc 2 0,.loc 3 0] (cmpI pts drop) (fun x=>0≤x∧x<pts.length):=by
 refine⟨by kernel_rfl,fun xs x y hx hy=>?_⟩
 have hn:0<pts.length:=by omega
 exact c84s (by rw[Srt.Row,List.getElem?_set_ne (by omega),stC_zero,totTo'_end]) (by rw[Srt.Row,List.getElem?_set_ne (by omega),stC_one]) (by rw[Srt.Row,List.getElem?_set_ne (by omega),stC_two]) (by rw[Srt.Row,List.getElem?_set_ne (by omega),stC_three]) (fun j hj=>by rw[Srt.Row,List.getElem?_set_ne (by omega),stC_row hj]) hs hx hy

def ordOf (pts:List (List Int))(drop:Int):List Nat:=ordTo (aheadB pts drop) pts.length

def stD (pts:List (List Int))(drop:Int):List D:=if pts.length=0 then stC pts drop pts.length else(stC pts drop pts.length).set (2+2*pts.length) (.blk 3 1 ((ordOf pts drop).map In))

theorem mapJ (l:List Nat):(l.map Int.ofNat).map Srt.J=l.map In:=by
 rw[List.map_map]
 rfl

theorem set_same {α:Type}{l:List α}{k:Nat}{x:α}(h:l[k]? = some x):l.set k x=l:=by
 obtain⟨hk,he⟩:=List.getElem?_eq_some_iff.1 h
 rw[←he]
 exact List.set_getElem_self hk

abbrev cmpF:D:=.fn 20 [] [.loc 2 0,.loc 3 0]

theorem c128n {s:List D}:FSpecW Try.prog 66 (.st s) [.snil,I 0,I 0,cmpF] (.tup []) (.st s):=by
 refine Sc.ks128.W rfl ?_
 unfold Srt.uIns
 simp only[ups_cons,ups_nil,List.cons_append,List.nil_append]
 repeat' (first|(apply u_add;rfl;rfl;omega;simp only[sbe];rfl)|refine u_join ?_)
 refine u_range (fun i=>[I 1,.st s]) (fun _=>True) 0 rfl (fun _=>rfl) trivial (fun i hi=>absurd hi (by omega)) (fun _ R=>?_)
 repeat' (first|(apply nrm;simp only[sbe];rfl)|(apply u_ev;rfl;simp only[sbe];rfl)|(apply u_jump;rfl;rfl)|refine at_jump ?_|(refine over_jump (by decide) ?_)|refine kj rfl ?_|(apply u_ite;rfl;all_goals (intro hz;(try simp only[sbs] at hz);first|(exact absurd hz (by decide))|(exfalso;omega)|skip))|exact u_ret rfl rfl)

theorem c116n {s:List D}:FSpecW Try.prog 48 (.st s) [.snil,I 0,cmpF] (.tup []) (.st s):=by
 have h:=c128n (s:=s)
 refine Sc.ks116.W rfl ?_
 unfold Srt.uStb
 simp only[ups_cons,ups_nil,List.cons_append,List.nil_append]
 repeat' ((with_reducible refine u_join ?_))
 refine u_range (fun i=>[I 0,I 20,.st s]) (fun _=>True) 0 rfl (fun _=>rfl) trivial (fun i hi=>absurd hi (by omega)) (fun _ R=>?_)
 repeat' (first|(apply nrm;simp only[sbe];rfl)|(apply u_ev;rfl;simp only[sbe];rfl)|(apply u_wcall;rfl;rfl;exact h;rfl;simp only[sbe];rfl)|refine u_join ?_|(apply u_jump;rfl;rfl)|refine at_jump ?_|(refine over_jump (by decide) ?_)|refine kj rfl ?_|(apply u_ite;rfl;all_goals (intro hz;(try simp only[sbs] at hz);first|(exact absurd hz (by decide))|(exfalso;omega)|skip)))
 refine u_range (fun i=>[I 20,I 0,I 20,.st s]) (fun _=>True) 0 rfl (fun _=>rfl) trivial (fun i hi=>absurd hi (by omega)) (fun _ R=>?_)
 repeat' (first|(apply nrm;simp only[sbe];rfl)|(apply u_ev;rfl;simp only[sbe];rfl)|(apply u_jump;rfl;rfl)|refine at_jump ?_|(refine over_jump (by decide) ?_)|refine kj rfl ?_|(apply u_ite;rfl;all_goals (intro hz;(try simp only[sbs] at hz);first|(exact absurd hz (by decide))|(exfalso;omega)|skip))|exact u_ret rfl rfl)

theorem c76 (hs:SeaOk pts drop):FSpecW Try.prog 19 (.st (stC pts drop pts.length)) [ordS pts.length,.fn 20 [] [.loc 2 0,.loc 3 0]] (.tup []) (.st (stD pts drop)):=by
 by_cases hn:pts.length=0
 ·rw[stD,if_pos hn,ordS,if_pos hn]
  have h:=c116n (s:=stC pts drop pts.length)
  generalize stC pts drop pts.length=s at h ⊢
  refine Sc.ks76.W rfl ?_
  unfold Srt.uSrt
  simp only[ups_cons,ups_nil,List.cons_append,List.nil_append]
  repeat' (first|(apply u_lenL;rfl;exact rfl;simp only[sbe];rfl)|(apply u_wcall;rfl;rfl;exact h;rfl;simp only[sbe];rfl)|exact u_ret rfl rfl)
 ·rw[stD,if_neg hn,ordS,if_neg hn]
  have h:=Srt.srt (P:=Try.prog) ks76 ks116 ks138 ks154 ks159 ks128 (bs:=stC pts drop pts.length) (b:=2+2*pts.length) (e:=3) (g:=20) (us:=[]) (cs:=[.loc 2 0,.loc 3 0]) (c:=cmpI pts drop) (dom:=fun x=>0≤x∧x<pts.length)
   (by rw[stC_len];omega) (ord_cmp pts drop _) (cmpOk hs) (xs:=(List.range pts.length).map Int.ofNat) (n:=pts.length) (by simp) (by have:=hs.len;omega) (fun z hz=>by
    obtain⟨k,hk,rfl⟩:=List.mem_map.1 hz
    have:=List.mem_range.1 hk
    simp only[Int.ofNat_eq_natCast]
    omega) (by
    rw[List.pairwise_map]
    exact(List.pairwise_lt_range (n:=pts.length)).imp fun h=>by simp only[Int.ofNat_eq_natCast];omega)
  rw[←ord_so,Srt.Row,Srt.Row,mapJ,mapJ,set_same (stC_ord (by omega))] at h
  exact h

end Go.Am.Sc

/-
 ScM6,with the numbers of the seat of ScoreSeason.
-/
namespace Go.Am.Sc

open Go.Proofs

set_option maxRecDepth 100000

set_option maxHeartbeats 8000000

attribute [local irreducible] inR allR

variable {bs:List D} {pts:List (List Int)} {drop:Int}

abbrev E1:E:=.newv 1000000000 1 (.newv 1000000000 1 (.sym 2) (.sym 8)) (.sym 10)

abbrev E2:E:=.newb 1000000000 1 E1 (.cons (.fstsl (.sym 2) (.sym 8)) .nil)

abbrev E3:E:=.newb 1000000000 1 E2 (.cons (.fstsl (.newv 1000000000 1 (.sym 2) (.sym 8)) (.sym 10)) .nil)

theorem cells0 (n:Nat):cellsL ((List.replicate n (0:Int)).map I)=(List.replicate n (0:Int)).map I∧cellsL (List.replicate n (D.lst []))=List.replicate n (D.lst []):=by
 unfold cellsL
 induction n with
 | zero=>exact⟨rfl,rfl⟩
 | succ n ih=>
 rw[List.replicate_succ,List.replicate_succ,List.map_cons,List.flatMap_cons,List.flatMap_cons,ih.1,ih.2]
 exact⟨rfl,rfl⟩

section

variable {env:List D} {n:Nat} (h2:env[2]? = some (.st [])) (h8:env[8]? = some (Is (List.replicate n 0))) (h10:env[10]? = some (.lst (List.replicate n (.lst []))))

include h2 h8 h10

theorem ev1:E1.eval env=some (.st [.blk TA 1 ((List.replicate n (0:Int)).map I),.blk TA 1 (List.replicate n (.lst []))])∧(E.newv 1000000000 1 (.sym 2) (.sym 8)).eval env=some (.st [.blk TA 1 ((List.replicate n (0:Int)).map I)]):=by
 have a1:allCells 1 ((List.replicate n (0:Int)).map I)=true:=by simp[allCells,D.cells]
 have a2:allCells 1 (List.replicate n (D.lst []))=true:=by simp[allCells,D.cells]
 have a3:(cellsL ((List.replicate n (0:Int)).map I)).all (·.one)=true:=by rw[(cells0 n).1];simp[D.one]
 have a4:(cellsL (List.replicate n (D.lst []))).all (·.one)=true:=by rw[(cells0 n).2];simp[D.one]
 have e1:(E.newv 1000000000 1 (.sym 2) (.sym 8)).eval env=some (.st [.blk TA 1 ((List.replicate n (0:Int)).map I)]):=by
  simp only[E.eval,h2,h8,Option.bind_some,D.newv,a1,a3,and_self,if_true]
  rw[(cells0 n).1]
  rfl
 refine⟨?_,e1⟩
 rw[E1,E.eval,e1]
 simp only[E.eval,h10,Option.bind_some,D.newv,a2,a4,and_self,if_true]
 rw[(cells0 n).2]
 rfl

theorem ev2:E2.eval env=some (.st [.blk TA 1 ((List.replicate n (0:Int)).map I),.blk TA 1 (List.replicate n (.lst [])),.blk TA 1 [.sl 0 0 n]]):=by
 rw[E2,E.eval,(ev1 h2 h8 h10).1]
 simp only[E.eval,h2,h8,Option.bind_some,D.fstsl,List.length_map,List.length_replicate,List.length_nil]
 rfl

theorem ev3:E3.eval env=some (.st [.blk TA 1 ((List.replicate n (0:Int)).map I),.blk TA 1 (List.replicate n (.lst [])),.blk TA 1 [.sl 0 0 n],.blk TA 1 [.sl 1 0 n]]):=by
 have e5:(E.fstsl (.newv 1000000000 1 (.sym 2) (.sym 8)) (.sym 10)).eval env=some (.sl 1 0 n):=by
  rw[E.eval,(ev1 h2 h8 h10).2]
  simp only[E.eval,h10,Option.bind_some,D.fstsl,List.length_replicate,List.length_cons,List.length_nil]
 have e6:(E.cons (.fstsl (.newv 1000000000 1 (.sym 2) (.sym 8)) (.sym 10)) .nil).eval env=some (.agg [.sl 1 0 n]):=by
  rw[E.eval,e5]
  rfl
 rw[E3,E.eval,ev2 h2 h8 h10,Option.bind_some,e6]
 rfl

theorem fid2:(E.fstid E1).eval env=some (.loc 2 0):=by
 rw[E.eval,(ev1 h2 h8 h10).1]
 rfl

theorem fid3:(E.fstid E2).eval env=some (.loc 3 0):=by
 rw[E.eval,ev2 h2 h8 h10]
 rfl

end

theorem e_mkf {env:List D}{f:Nat}{x y:E}{a b:D}(hx:x.eval env=some a)(hy:y.eval env=some b):(E.mkfn f .tnil (.tcons x (.tcons y .tnil))).eval env=some (.fn f [] [a,b]):=by
 simp only[E.eval,hx,hy,Option.bind_some]
 rfl

theorem stC_begin:stC pts drop 0=[.blk TA 1 ((List.replicate pts.length (0:Int)).map I),.blk TA 1 (List.replicate pts.length (.lst [])),.blk TA 1 [.sl 0 0 pts.length],.blk TA 1 [.sl 1 0 pts.length]]:=by
 have e1:totTo' pts drop 0=List.replicate pts.length 0:=by
  refine List.ext_getElem (by simp[totTo']) fun k h1 h2=>?_
  simp[totTo']
 have e2:rowsD pts 0=List.replicate pts.length (.lst []):=by
  refine List.ext_getElem (by simp[rowsD]) fun k h1 h2=>?_
  simp[rowsD]
 rw[stC,totB,rowB,e1,e2]

theorem apph_ord {i:Nat}(hi:i<1000):D.apph 3 1 8 (.st (stC pts drop i)) (ordS i) (.lst [In i])=some (.st (ordSt i (stC pts drop i)))∧D.apps (.st (stC pts drop i)) (ordS i) (.lst [In i])=some (ordS (i+1)):=by
 have hone:(cellsL [In i]).all (·.one)=true:=rfl
 have hac:allCells 1 [In i]=true:=rfl
 by_cases h0:i=0
 ·subst h0
  exact⟨rfl,rfl⟩
 ·have hb:=stC_ord (pts:=pts) (drop:=drop) (i:=i) (by omega)
  have hl:=stC_len (pts:=pts) (drop:=drop) (i:=i)
  rw[ordS,if_neg h0,ordS,if_neg (by omega),ordSt,if_neg h0]
  refine⟨?_,?_⟩
  ·simp only[D.apph,D.asL,D.cellsAt,hb,Option.bind_some,hac,hone,List.cons_ne_nil,if_false,List.length_cons,List.length_nil]
   have hm:i+1≤maxLen:=Nat.le_trans (show i+1≤1000000 by omega) (by decide)
   rw[if_pos (by refine⟨?_,?_,?_,?_,?_,?_,?_⟩ <;> simp <;> omega),List.range_succ,List.map_append]
   rfl
  ·simp only[D.apps,D.cnt,List.length_cons,List.length_nil]
   rw[if_neg (by omega),hl,show 4+2*i=2+2*(i+1) by omega]

theorem ld_var {s:List D}{k:Nat}{x:D}(h:s[k]? = some (.blk TA 1 [x])):D.ld false 1 (.st s) (.loc k 0)=some x:=ld_blk h rfl

theorem ordSt_three {i:Nat}:(ordSt i (stC pts drop i))[3]? = some (.blk TA 1 [.sl 1 0 pts.length]):=by
 rw[ordSt_low (by rw[stC_len];omega) (by omega),stC_three]

theorem stA_three {i:Nat}:(stA pts i (stC pts drop i))[3]? = some (.blk TA 1 [.sl 1 0 pts.length]):=by
 rw[stA_low (by rw[stC_len];omega) (by omega) (by omega),stC_three]

theorem stB_three {i:Nat}:(stB pts i (stC pts drop i))[3]? = some (.blk TA 1 [.sl 1 0 pts.length]):=by
 rw[stB_low (by rw[stC_len];omega) (by omega) (by omega) (by omega),stC_three]

theorem stB_two {i:Nat}:(stB pts i (stC pts drop i))[2]? = some (.blk TA 1 [.sl 0 0 pts.length]):=by
 by_cases h:i=0
 ·subst h
  rw[stB,List.getElem?_set_ne (by omega),stA,List.getElem?_set_ne (by omega)]
  rfl
 ·rw[stB_low (by rw[stC_len];omega) (by omega) (by omega) (by omega),stC_two]

theorem stB_zero {i:Nat}:(stB pts i (stC pts drop i))[0]? = some (totB (totTo' pts drop i)):=by
 rw[stB_low (by rw[stC_len];omega) (by omega) (by omega) (by omega),stC_zero]

def stS (pts:List (List Int))(drop:Int)(i k:Nat):List D:=(stB pts i (stC pts drop i)).set 0 (totB ((totTo' pts drop i).set i (sumL (fall (pt pts i)) k)))

theorem stS_begin {i:Nat}(hi:i<pts.length):stS pts drop i 0=stB pts i (stC pts drop i):=by
 have hT0:=totTo'_get (pts:=pts) (drop:=drop) hi
 have e0:(totTo' pts drop i).set i 0=totTo' pts drop i:=by
  refine List.ext_getElem (by simp) fun k h1 h2=>?_
  rw[List.getElem_set]
  split
  ·rename_i h3
   subst h3
   simpa[List.getD,h2] using hT0.symm
  ·rfl
 rw[stS,show sumL (fall (pt pts i)) 0=0 from rfl,e0]
 exact set_same stB_zero

theorem stS_two {i k:Nat}:(stS pts drop i k)[2]? = some (.blk TA 1 [.sl 0 0 pts.length]):=by
 rw[stS,List.getElem?_set_ne (by omega),stB_two]

theorem stS_zero {i k:Nat}:(stS pts drop i k)[0]? = some (totB ((totTo' pts drop i).set i (sumL (fall (pt pts i)) k))):=by
 rw[stS,List.getElem?_set_self (by rw[stB_len,stC_len];omega)]

theorem stS_row {i k:Nat}:(stS pts drop i k)[5+2*i]? = some (.blk 3 1 ((fall (pt pts i)).map I)):=by
 rw[stS,List.getElem?_set_ne (by omega),stB_row stC_len]

theorem stS_sto {i k:Nat}(hi:i<pts.length)(hk:k<(fall (pt pts i)).length):D.sto 1 (.st (stS pts drop i k)) (.loc 0 (i*1)) (I (sumL (fall (pt pts i)) k+(fall (pt pts i))[k]))=some (.st (stS pts drop i (k+1))):=by
 rw[sto_blk (e:=TA) (sz:=1) (cs:=(((totTo' pts drop i).set i (sumL (fall (pt pts i)) k)).map I)) stS_zero (by rw[List.length_map,List.length_set,totTo'_len];omega) rfl]
 rw[stS,stS,List.set_set,sumL_succ hk,totB,Nat.mul_one,←List.map_set,List.set_set]

theorem stS_ld {i k:Nat}(hi:i<pts.length):D.ld false 1 (.st (stS pts drop i k)) (.loc 0 (i*1))=some (I (sumL (fall (pt pts i)) k)):=by
 refine ld_blk (e:=TA) (sz:=1) (cs:=(((totTo' pts drop i).set i (sumL (fall (pt pts i)) k)).map I)) stS_zero ?_
 have:=totTo'_len (pts:=pts) (drop:=drop) (i:=i)
 simp[this,hi]

theorem stS_end {i m:Nat}(hm:((pt pts i).length:Int)-drop=m)(hi:i<pts.length):stS pts drop i m=stC pts drop (i+1):=by
 rw[stS,stC,totTo'_succ hi]
 have htc:totC pts drop i=sumL (fall (pt pts i)) (((pt pts i).length:Int)-drop).toNat:=rfl
 rw[htc,hm,Int.toNat_natCast]

theorem stA_sto {i:Nat}(hi:i<pts.length):D.sto 1 (.st (ordSt i (stC pts drop i)++[.blk 3 1 ((pt pts i).map I)])) (.loc 1 (i*1)) (.sl (5+2*i) 0 (pt pts i).length)=some (.st (stA pts i (stC pts drop i))):=by
 have h1:(ordSt i (stC pts drop i)++[D.blk 3 1 ((pt pts i).map I)])[1]? = some (rowB pts i):=by
  rw[List.getElem?_append_left (by rw[ordSt_len,stC_len];omega),ordSt_low (by rw[stC_len];omega) (by omega),stC_one]
 rw[sto_blk (e:=TA) (sz:=1) (cs:=rowsD pts i) h1 (by rw[rowsD_len];omega) rfl,stA,rowB,rowsD_succ hi,Nat.mul_one]

theorem stA_ld {i:Nat}(hi:i<pts.length):D.ld false 1 (.st (stA pts i (stC pts drop i))) (.loc 1 (i*1))=some (.sl (5+2*i) 0 (pt pts i).length):=by
 refine ld_blk (e:=TA) (sz:=1) (cs:=rowsD pts (i+1)) (stA_one (by rw[stC_len];omega)) ?_
 rw[Nat.mul_one,rowsD_get hi (by omega)]

theorem stB_ld {i:Nat}(hi:i<pts.length):D.ld false 1 (.st (stB pts i (stC pts drop i))) (.loc 1 (i*1))=some (.sl (5+2*i) 0 (pt pts i).length):=by
 refine ld_blk (e:=TA) (sz:=1) (cs:=rowsD pts (i+1)) (stB_one (by rw[stC_len];omega)) ?_
 rw[Nat.mul_one,rowsD_get hi (by omega)]

theorem sub_sl {b n m:Nat}(h:m≤n):D.sub 1 (.sl b 0 n) (I 0) (I (m:Int))=some (.sl b 0 m):=by
 simp only[D.sub]
 rw[if_pos ⟨by omega,by omega,by omega,by omega⟩,if_pos (.inr trivial)]
 simp

theorem stD_zero:(stD pts drop)[0]? = some (totB (totL pts drop)):=by
 unfold stD
 split
 ·rw[stC_zero,totTo'_end]
 ·rw[List.getElem?_set_ne (by omega),stC_zero,totTo'_end]

theorem stD_two:(stD pts drop)[2]? = some (.blk TA 1 [.sl 0 0 pts.length]):=by
 unfold stD
 split
 ·rw[stC_two]
 ·rw[List.getElem?_set_ne (by omega),stC_two]

theorem ordOf_len:(ordOf pts drop).length=pts.length:=ordTo_len _ _

theorem ordOf_mem {x:Nat}(h:x∈ordOf pts drop):x<pts.length:=List.mem_range.1 ((ordTo_perm _ _).mem_iff.1 h)

theorem stD_ord (h:0<pts.length):(stD pts drop)[2+2*pts.length]? = some (.blk 3 1 ((ordOf pts drop).map In)):=by
 rw[stD,if_neg (by omega),List.getElem?_set_self (by rw[stC_len];omega)]

theorem stD_ldo {k:Nat}(h:k<(ordOf pts drop).length):D.ld false 1 (.st (stD pts drop)) (.loc (2+2*pts.length) (k*1))=some (In (ordOf pts drop)[k]):=by
 have:=ordOf_len (pts:=pts) (drop:=drop)
 refine ld_blk (e:=3) (sz:=1) (cs:=(ordOf pts drop).map In) (stD_ord (by omega)) ?_
 simp[h]

theorem stD_ldt {j:Nat}(h:j<pts.length):D.ld false 1 (.st (stD pts drop)) (.loc 0 (j*1))=some (I (totC pts drop j)):=by
 refine ld_blk (e:=TA) (sz:=1) (cs:=(totL pts drop).map I) stD_zero ?_
 simp[totL,h]

theorem stD_melt:melt (stD pts drop) 4 (.tup [ordS pts.length,Is ((ordOf pts drop).map (totC pts drop)),I 0])=some (.tup [Ix (ordOf pts drop),Is ((ordOf pts drop).map (totC pts drop)),I 0]):=by
 have h1:melt (stD pts drop) 3 (ordS pts.length)=some (Ix (ordOf pts drop)):=by
  by_cases h:pts.length=0
  ·have:ordOf pts drop=[]:=List.eq_nil_of_length_eq_zero (by rw[ordOf_len,h])
   rw[ordS,if_pos h,this]
   rfl
  ·have hb:=stD_ord (pts:=pts) (drop:=drop) (by omega)
   rw[←mapJ] at hb
   have:=melt_row (n:=1) hb
   rw[List.length_map,ordOf_len] at this
   rw[ordS,if_neg h,this]
   rw[show Is ((ordOf pts drop).map Int.ofNat)=.lst (((ordOf pts drop).map Int.ofNat).map I) from rfl,List.map_map]
   rfl
 have h2:melt (stD pts drop) 3 (Is ((ordOf pts drop).map (totC pts drop)))=some (Is ((ordOf pts drop).map (totC pts drop))):=melt_is
 have h3:melt (stD pts drop) 3 (I 0)=some (I 0):=rfl
 rw[melt]
 generalize melt (stD pts drop) 3=f at h1 h2 h3 ⊢
 simp only[meltL,h1,h2,h3,Option.bind_some,Option.map_some]

end Go.Am.Sc

/-
 ScM7,with the numbers of the seat of ScoreSeason.
-/
namespace Go.Am.Sc

open Go.Proofs

set_option maxRecDepth 100000

set_option maxHeartbeats 8000000

attribute [local irreducible] inR allR

variable {bs:List D} {pts:List (List Int)} {drop:Int}

theorem c82 {l:List Int}(hl:l≠[])(hn:l.length≤1000000):FSpecW Try.prog 16 (.st bs) [Is l] (.sl bs.length 0 l.length) (.st (bs++[.blk 3 1 (l.map I)])):=Srt.cloneW (fun ad n c xs w h1 h2 h3 h4=>Srt.cloneTL Try.laysNm215 ad n c xs w h1 h2 h3 h4) hl hn

theorem sea_cond (i:Nat):((((pt pts i).length:Int) != ((pt pts 0).length:Int))||decide (drop≥((pt pts i).length:Int))||!allR (pt pts i) 1 40 0 100000)=!seaB pts drop (pt pts i):=by
 have hv:(!(decide (((pt pts i).length:Int)=((pt pts 0).length:Int))))=(((pt pts i).length:Int) != ((pt pts 0).length:Int)):=by
  rw[Bool.eq_iff_iff];simp
 have hz0:pt pts 0=pts.getD 0 []:=rfl
 rw[←hv,seaB,←hz0,Bool.eq_iff_iff]
 simp only[Bool.or_eq_true,Bool.not_eq_true',Bool.and_eq_false_iff,decide_eq_true_eq,decide_eq_false_iff_not,Bool.or_assoc]
 constructor <;> intro h <;> rcases h with h | h | h
 ·exact .inl h
 ·exact .inr (.inr (by omega))
 ·exact .inr (.inl h)
 ·exact .inl h
 ·exact .inr (.inr h)
 ·exact .inr (.inl (by omega))

theorem c31_ok (hp:TmsOk pts)(hs:SeaOk pts drop)(hok:seasonOk pts drop=true):FSpecW Try.prog 6 (.st []) [Pts pts,I drop] (.tup [ordS pts.length,Is ((ordOf pts drop).map (totC pts drop)),I 0]) (.st (stD pts drop)):=by
 have hL:=hs.len
 have hdr:=hs.dr
 have hall:∀i,i<pts.length→seaB pts drop (pt pts i)=true:=fun i hi=>by
  simp only[seasonOk,Bool.and_eq_true] at hok
  exact List.all_eq_true.1 hok.2 _ (pt_mem hi)
 have hrep:=rep_is (n:=pts.length) (by omega)
 have hrep2:D.rep 24 (I pts.length) (.lst [])=some (.lst (List.replicate pts.length (.lst []))):=by
  simp only[D.rep,Int.toNat_natCast]
  rw[if_pos ⟨by omega,by omega,Nat.le_trans hL (by decide)⟩]
 refine ku6.W rfl ?_
 unfold u6
 simp only[ups_cons,ups_nil,List.cons_append,List.nil_append]
 repeat' (first|(apply nrm;simp only[sbe];rfl)|(apply u_lenL;rfl;exact lenL_map;simp only[sbe];rfl)|(apply u_ev;rfl;simp only[sbe];rfl)|(apply u_or;rfl)|refine u_join ?_|(apply u_ite;rfl;all_goals (intro hz;(try simp only[sbs] at hz);first|(exact absurd hz (by decide))|(exfalso;omega)|skip))|exact u_ret rfl rfl|(intro hz;(try simp only[sbs] at hz)))
 refine u_range (fun i=>[In i]) (fun i=>True) pts.length rfl (fun _=>rfl) trivial (fun i hi _ R hR=>?_) (fun _ R=>?_)
 ·have hli:decide ((i:Int)<(pts.length:Int))=true:=by simp;omega
  have h47:=c47 (bs:=[]) (l:=pt pts i) (least:=1) (many:=40) (most:=100000) (hp.1 _ (pt_mem hi)).2
  have h0:D.eaddr 1 (Pts pts) (I 0)=some (.ptr [Is (pt pts 0)]):=pt_get (i:=0) (by omega)
  have he:=sea_cond (pts:=pts) (drop:=drop) i
  rw[hall i hi] at he
  repeat' (first|(apply nrm;simp only[sbe];rfl)|(apply u_iteT;rfl;exact hli)|(apply u_iteF;rfl;exact he)|(apply u_eaddr;rfl;rfl;(·first|exact pt_get hi|exact h0);simp only[sbe];rfl)|(apply u_lenL;rfl;exact lenL_map;simp only[sbe];rfl)|(apply u_inc;rfl;omega;simp only[sbe];rfl)|(apply u_ev;rfl;simp only[sbe];rfl)|(apply u_call;rfl;rfl;exact h47;rfl;simp only[sbe];rfl)|(apply u_or;rfl)|refine u_join ?_|(apply u_jump;rfl;rfl)|refine at_jump ?_|refine kj rfl ?_|exact u_ret rfl rfl|(intro hz;(try simp only[sbs] at hz)))
  exact hR trivial
 ·have hlf:decide ((pts.length:Int)<(pts.length:Int))=false:=by simp
  repeat' (first|(apply nrm;simp only[sbe];rfl)|(apply u_iteF;rfl;exact hlf)|(apply u_lenL;rfl;exact lenL_map;simp only[sbe];rfl)|(apply u_rep;rfl;(·first|exact hrep|exact hrep2);simp only[sbe];rfl)|(apply u_ev;rfl;simp only[sbe];rfl)|refine u_join ?_|(apply u_jump;rfl;rfl)|refine at_jump ?_|(refine over_jump (by decide) ?_)|refine kj rfl ?_)
  refine u_range (fun i=>[ordS i,In i,.st (stC pts drop i)]) (fun _=>True) pts.length (evC rfl (evC rfl (evC ((ev3 rfl rfl rfl).trans (by rw[stC_begin])) evN))) (fun _=>rfl) trivial (fun i hi _ R hR=>?_) (fun _ R=>?_)
  ·have hli:decide ((i:Int)<(pts.length:Int))=true:=by simp;omega
   have hR:=hR trivial
   have ei:=hs.each i hi
   have ha:=apph_ord (pts:=pts) (drop:=drop) (i:=i) (by omega)
   have h82:=c82 (bs:=ordSt i (stC pts drop i)) (l:=pt pts i) (fun e=>by rw[e] at ei;simp at ei) (by omega)
   have hol:(ordSt i (stC pts drop i)).length=5+2*i:=by rw[ordSt_len,stC_len];omega
   rw[hol] at h82
   have h3a:=ld_var (ordSt_three (pts:=pts) (drop:=drop) (i:=i))
   have h3b:D.ld false 1 (.st (ordSt i (stC pts drop i)++[.blk 3 1 ((pt pts i).map I)])) (.loc 3 0)=some (.sl 1 0 pts.length):=ld_var (by rw[List.getElem?_append_left (by omega)];exact ordSt_three)
   have h3c:=ld_var (stA_three (pts:=pts) (drop:=drop) (i:=i))
   have h3d:=ld_var (stB_three (pts:=pts) (drop:=drop) (i:=i))
   have h68:=c68 (bs:=stA pts i (stC pts drop i)) (b:=5+2*i) (e:=3) (l:=pt pts i) (stA_row stC_len) ei.2.2.2.2 (by omega)
   have hea:D.eaddr 1 (.sl 1 0 pts.length) (In i)=some (.loc 1 (i*1)):=eaddr_sl hi
   have hea0:D.eaddr 1 (.sl 0 0 pts.length) (In i)=some (.loc 0 (i*1)):=eaddr_sl hi
   obtain⟨m,hm⟩:∃m:Nat,((pt pts i).length:Int)-drop=m:=⟨(((pt pts i).length:Int)-drop).toNat,by omega⟩
   have hml:m≤(pt pts i).length:=by omega
   have hsub:=sub_sl (b:=5+2*i) hml
   rw[←hm] at hsub
   have hfl:=fall_len (pt pts i)
   have hfm:∀x,x∈fall (pt pts i)→0≤x∧x≤100000:=fun x hx=>ei.2.2.2.2 x (fall_mem.1 hx)
   have hlm:∀b:Nat,D.lenL (.sl b 0 m)=some (I (m:Int)):=fun b=>rfl
   rw[←stS_end hm hi] at hR
   have hbg:=stS_begin (pts:=pts) (drop:=drop) hi
   repeat' (first|(apply nrm;simp only[sbe];rfl)|(apply u_iteT;rfl;exact hli)|(apply u_same;(·exact e_ld rfl (fid3 rfl rfl rfl) h3a);(·exact e_ld rfl (fid3 rfl rfl rfl) h3b);(·(simp[D.same,Value.same];done));simp only[sbe];rfl)|(apply u_ld;rfl;rfl;(·first|exact stA_ld hi|exact stB_ld hi);simp only[sbe];rfl)|(apply u_eaddr;rfl;rfl;(·first|exact pt_get hi|exact hea);simp only[sbe];rfl)|(apply u_lenL;rfl;(·first|exact lenL_map|exact rfl);simp only[sbe];rfl)|(apply u_subl;rfl;rfl;rfl;exact hsub;simp only[sbe];rfl)|(apply u_sto;rfl;rfl;rfl;exact stA_sto hi;simp only[sbe];rfl)|(apply u_apph;rfl;rfl;rfl;exact ha.1;simp only[sbe];rfl)|(apply u_sub;rfl;rfl;omega;simp only[sbe];rfl)|(apply u_ev;(·first|exact e_ld rfl (fid3 rfl rfl rfl) h3a|exact e_ld rfl (fid3 rfl rfl rfl) h3c|exact e_ld rfl (fid3 rfl rfl rfl) h3d);simp only[sbe];rfl)|(apply u_ev;rfl;simp only[sbe];rfl)|(apply u_wcall;rfl;rfl;(·first|exact h82|exact h68);rfl;simp only[sbe];rfl)|refine u_join ?_)
   refine u_range (fun k=>[In k,.st (stS pts drop i k)]) (fun _=>True) m (by rw[hbg];rfl) (fun _=>rfl) trivial (fun k hk _ R2 hR2=>?_) (fun _ R2=>?_)
   ·have hlk:decide ((k:Int)<(m:Int))=true:=by simp;omega
    have hR2:=hR2 trivial
    have hkf:k<(fall (pt pts i)).length:=by omega
    have hb:=sumL_bd hfm (k:=k) (by omega)
    have hx:=hfm _ (List.getElem_mem hkf)
    have hek:D.eaddr 1 (.sl (5+2*i) 0 m) (In k)=some (.loc (5+2*i) (k*1)):=eaddr_sl hk
    have hld:D.ld false 1 (.st (stS pts drop i k)) (.loc (5+2*i) (k*1))=some (I (fall (pt pts i))[k]):=ld_blk (stS_row (pts:=pts) (drop:=drop)) (by simp[hkf])
    have h2k:=ld_var (stS_two (pts:=pts) (drop:=drop) (i:=i) (k:=k))
    repeat' (first|(apply nrm;simp only[sbe];rfl)|(apply u_iteT;rfl;exact hlk)|(apply u_ld;rfl;rfl;(·first|exact hld|exact stS_ld hi);simp only[sbe];rfl)|(apply u_eaddr;rfl;rfl;(·first|exact hek|exact hea0);simp only[sbe];rfl)|(apply u_sto;rfl;rfl;rfl;exact stS_sto hi hkf;simp only[sbe];rfl)|(apply u_inc;rfl;omega;simp only[sbe];rfl)|(apply u_add;rfl;rfl;omega;simp only[sbe];rfl)|(apply u_ev;(·exact e_ld rfl (fid2 rfl rfl rfl) h2k);simp only[sbe];rfl)|(apply u_ev;rfl;simp only[sbe];rfl)|refine u_join ?_|(apply u_jump;rfl;rfl)|refine at_jump ?_|refine kj rfl ?_)
    exact hR2
   ·have hlk:decide ((m:Int)<(m:Int))=false:=by simp
    repeat' (first|(apply nrm;simp only[sbe];rfl)|(apply u_iteF;rfl;exact hlk)|(apply u_ev;rfl;simp only[sbe];rfl)|(apply u_jump;rfl;rfl)|refine at_jump ?_|(refine over_jump (by decide) ?_)|refine kj rfl ?_)
    refine u_jump (evC (ev_apps rfl rfl rfl ha.2) (evC rfl evN)) (evC (ev_apps rfl rfl rfl ha.2) (evC rfl evN)) ?_
    repeat' (first|(apply nrm;simp only[sbe];rfl)|(apply u_inc;rfl;omega;simp only[sbe];rfl)|(apply u_jump;rfl;rfl)|refine at_jump ?_|refine kj rfl ?_)
    exact hR
  ·have hlf:decide ((pts.length:Int)<(pts.length:Int))=false:=by simp
   have h76:=c76 (pts:=pts) (drop:=drop) hs
   have hll:D.lenL (ordS pts.length)=some (I pts.length):=by
    unfold ordS
    split
    ·rename_i h
     rw[h]
     rfl
    ·rfl
   have hol:=ordOf_len (pts:=pts) (drop:=drop)
   repeat' (first|(apply nrm;simp only[sbe];rfl)|(apply u_iteF;rfl;exact hlf)|(apply u_lenL;rfl;exact hll;simp only[sbe];rfl)|(apply u_ev;(·exact e_mkf (fid2 rfl rfl rfl) (fid3 rfl rfl rfl));simp only[sbe];rfl)|(apply u_ev;rfl;simp only[sbe];rfl)|(apply u_wcall;rfl;rfl;exact h76;rfl;simp only[sbe];rfl)|refine u_join ?_|(apply u_jump;rfl;rfl)|refine at_jump ?_|(refine over_jump (by decide) ?_)|refine kj rfl ?_)
   refine u_range (fun k=>[Is (((ordOf pts drop).take k).map (totC pts drop)),In k]) (fun _=>True) pts.length rfl (fun _=>rfl) trivial (fun k hk _ R hR=>?_) (fun _ R=>?_)
   ·have hlk:decide ((k:Int)<(pts.length:Int))=true:=by simp;omega
    have hR:=hR trivial
    have hko:k<(ordOf pts drop).length:=by omega
    have hj:=ordOf_mem (List.getElem_mem hko)
    have e:((ordOf pts drop).take (k+1)).map (totC pts drop)=((ordOf pts drop).take k).map (totC pts drop)++[totC pts drop (ordOf pts drop)[k]]:=by
     rw[List.take_add_one,List.getElem?_eq_getElem hko,List.map_append]
     rfl
    rw[e] at hR
    have happ:=app_is (xs:=((ordOf pts drop).take k).map (totC pts drop)) (x:=totC pts drop (ordOf pts drop)[k]) (by simp;omega)
    have hek:D.eaddr 1 (ordS pts.length) (In k)=some (.loc (2+2*pts.length) (k*1)):=by
     rw[ordS,if_neg (by omega)]
     exact eaddr_sl hk
    have h2:=ld_var (stD_two (pts:=pts) (drop:=drop))
    have hej:D.eaddr 1 (.sl 0 0 pts.length) (In (ordOf pts drop)[k])=some (.loc 0 ((ordOf pts drop)[k]*1)):=eaddr_sl hj
    repeat' (first|(apply nrm;simp only[sbe];rfl)|(apply u_iteT;rfl;exact hlk)|(apply u_ld;rfl;rfl;(·first|exact stD_ldo hko|exact stD_ldt hj);simp only[sbe];rfl)|(apply u_eaddr;rfl;rfl;(·first|exact hek|exact hej);simp only[sbe];rfl)|(apply u_app;rfl;rfl;exact happ;simp only[sbe];rfl)|(apply u_inc;rfl;omega;simp only[sbe];rfl)|(apply u_ev;(·exact e_ld rfl (fid2 rfl rfl rfl) h2);simp only[sbe];rfl)|(apply u_ev;rfl;simp only[sbe];rfl)|refine u_join ?_|(apply u_jump;rfl;rfl)|refine at_jump ?_|refine kj rfl ?_)
    exact hR
   ·have hlk:decide ((pts.length:Int)<(pts.length:Int))=false:=by simp
    rw[List.take_of_length_le (by omega)]
    repeat' (first|(apply nrm;simp only[sbe];rfl)|(apply u_iteF;rfl;exact hlk)|(apply u_ev;rfl;simp only[sbe];rfl)|(apply u_jump;rfl;rfl)|refine at_jump ?_|(refine over_jump (by decide) ?_)|refine kj rfl ?_|exact u_ret rfl rfl)

theorem pts_noid (pts:List (List Int))(drop:Int):noids [Pts pts,I drop]=true:=by
 simp only[noids,D.noid,noid_map (enc:=Is) (fun x=>by simp only[D.noid,noid_map (enc:=I) (fun _=>rfl)]),Bool.and_self]

theorem c31 (hp:TmsOk pts)(hok:seasonOk pts drop=true):FSpecR Try.prog 6 (.st bs) [Pts pts,I drop] (.tup [Ix (ordOf pts drop),Is ((ordOf pts drop).map (totC pts drop)),I 0]):=
 FSpecWO.melt (n:=4) (c31_ok hp (seaOk hok) hok) (pts_noid pts drop) stD_melt bs

end Go.Am.Sc

/-
 Seasons: one round more,one dropped round less.
-/
namespace Go.Am.Sc

variable {pts:List (List Int)} {drop:Int}

theorem fall_snoc0 {l:List Int}(h:∀x,x∈l→0≤x):fall (l++[0])=fall l++[0]:=by
 refine fall_unique (fall_sorted _) ?_ ?_
 ·rw[List.pairwise_append]
  refine⟨fall_sorted _,by simp,fun a ha b hb=>?_⟩
  have:b=0:=by simpa using hb
  subst this
  exact h a (fall_mem.1 ha)
 ·exact(fall_perm _).trans ((fall_perm l).symm.append_right [0])

theorem cmpL_snoc (z:Int):∀{xs ys:List Int},xs.length=ys.length→cmpL (xs++[z]) (ys++[z])=cmpL xs ys
 | [],[],_=>by simp[cmpL]
 | [],_ :: _,h=>by simp at h
 | _ :: _,[],h=>by simp at h
 | x :: xs,y :: ys,h=>by
  rw[List.cons_append,List.cons_append,cmpL,cmpL,cmpL_snoc z (xs:=xs) (ys:=ys) (by simpa using h)]

def moreP (pts:List (List Int)):List (List Int):=pts.map (·++[0])
theorem more_len:(moreP pts).length=pts.length:=by simp[moreP]
theorem pt_more {i:Nat}(h:i<pts.length):pt (moreP pts) i=pt pts i++[0]:=by
 simp[pt,moreP,List.getD,h]

theorem ordTo_congr {A B:Nat→Nat→Bool}:∀{n:Nat},(∀i j,i<n→j<n→A i j=B i j)→ordTo A n=ordTo B n
 | 0,_=>rfl
 | n+1,h=>by
  rw[ordTo,ordTo,ordTo_congr (n:=n) fun i j hi hj=>h i j (by omega) (by omega)]
  have hm:∀x,x∈ordTo B n→x<n:=fun x hx=>List.mem_range.1 ((ordTo_perm _ _).mem_iff.1 hx)
  generalize ordTo B n=l at hm
  induction l with
  | nil=>rfl
  | cons o r ih=>
   rw[insO,insO,h n o (by omega) (by have:=hm o (List.mem_cons_self ..);omega),ih fun x hx=>hm x (List.mem_cons_of_mem _ hx)]

section
variable (hs:SeaOk pts drop)
include hs

theorem pos_pt {i:Nat}(h:i<pts.length):∀x,x∈pt pts i→0≤x:=fun x hx=>((hs.each i h).2.2.2.2 x hx).1

theorem totC_more {i:Nat}(h:i<pts.length):totC (moreP pts) (drop+1) i=totC pts drop i:=by
 have hd:=hs.dr
 have hl:=fall_len (pt pts i)
 unfold totC
 rw[pt_more h,fall_snoc0 (pos_pt hs h)]
 have e:(((pt pts i++[0]).length:Int)-(drop+1)).toNat=(((pt pts i).length:Int)-drop).toNat:=by
  rw[List.length_append,List.length_singleton]
  omega
 rw[e,List.take_append_of_le_length (by omega)]

theorem ahead_more {i j:Nat}(hi:i<pts.length)(hj:j<pts.length):aheadB (moreP pts) (drop+1) i j=aheadB pts drop i j:=by
 have ei:=(hs.each i hi).1
 have ej:=(hs.each j hj).1
 unfold aheadB
 rw[totC_more hs hi,totC_more hs hj,pt_more hi,pt_more hj,fall_snoc0 (pos_pt hs hi),fall_snoc0 (pos_pt hs hj),cmpL_snoc 0 (by rw[fall_len,fall_len];omega)]

theorem ord_more:ordOf (moreP pts) (drop+1)=ordOf pts drop:=by
 unfold ordOf
 rw[more_len]
 exact ordTo_congr fun i j hi hj=>ahead_more hs hi hj

theorem tot_more:(ordOf (moreP pts) (drop+1)).map (totC (moreP pts) (drop+1))=(ordOf pts drop).map (totC pts drop):=by
 rw[ord_more hs]
 exact List.map_congr_left fun k hk=>totC_more hs (ordOf_mem hk)

theorem ok_more (h0:pts≠[])(h40:(pt pts 0).length<40):seasonOk (moreP pts) (drop+1)=true:=by
 have hd:=hs.dr
 have hn:=hs.len
 have hp:0<pts.length:=List.length_pos_iff.2 h0
 simp only[seasonOk,Bool.and_eq_true,decide_eq_true_eq,List.all_eq_true]
 refine⟨⟨by rw[more_len];omega,by omega⟩,fun l hl=>?_⟩
 obtain⟨k,hk,rfl⟩:=List.mem_iff_getElem.1 hl
 rw[more_len] at hk
 have e:=hs.each k hk
 have e1:(moreP pts)[k]=pt pts k++[0]:=by simp[moreP,pt,List.getD,hk]
 have e2:(moreP pts).getD 0 []=pt pts 0++[0]:=pt_more hp
 rw[e1,e2]
 refine⟨by simp;omega,?_,by simp;omega⟩
 unfold allR
 simp only[Bool.and_eq_true,List.all_eq_true]
 refine⟨fun x hx=>?_,inR_i (by simp;omega)⟩
 rcases List.mem_append.1 hx with h | h
 ·exact inR_i (e.2.2.2.2 x h)
 ·have:x=0:=by simpa using h
  subst this
  exact inR_i (by omega)

theorem ok_less (h1:0<drop):seasonOk pts (drop-1)=true:=by
 have hn:=hs.len
 simp only[seasonOk,Bool.and_eq_true,decide_eq_true_eq,List.all_eq_true]
 refine⟨⟨by omega,by omega⟩,fun l hl=>?_⟩
 obtain⟨k,hk,rfl⟩:=List.mem_iff_getElem.1 hl
 have e:=hs.each k hk
 have e1:pts[k]=pt pts k:=by simp[pt,List.getD,hk]
 have e2:pts.getD 0 []=pt pts 0:=rfl
 rw[e1,e2]
 refine⟨by omega,?_,by omega⟩
 unfold allR
 simp only[Bool.and_eq_true,List.all_eq_true]
 exact⟨fun x hx=>inR_i (e.2.2.2.2 x hx),inR_i (by omega)⟩

theorem tot_less (h1:0<drop){i:Nat}(h:i<pts.length):totC pts drop i≤totC pts (drop-1) i:=by
 have e:=hs.each i h
 have hl:=fall_len (pt pts i)
 obtain⟨m,hm⟩:∃m:Nat,((pt pts i).length:Int)-drop=m:=⟨(((pt pts i).length:Int)-drop).toNat,by omega⟩
 have e1:totC pts drop i=sumL (fall (pt pts i)) m:=by
  unfold totC sumL
  rw[hm,Int.toNat_natCast]
 have e2:totC pts (drop-1) i=sumL (fall (pt pts i)) (m+1):=by
  unfold totC sumL
  rw[show(((pt pts i).length:Int)-(drop-1)).toNat=m+1 by omega]
 have hm2:m<(fall (pt pts i)).length:=by omega
 rw[e1,e2,sumL_succ hm2]
 have:=pos_pt hs h _ (fall_mem.1 (List.getElem_mem hm2))
 omega
end

theorem tot_fall {i:Nat}(h:i+1<(ordOf pts drop).length):totC pts drop (ordOf pts drop)[i+1]≤totC pts drop (ordOf pts drop)[i]:=by
 have h1:=List.pairwise_iff_getElem.1 (ordTo_sorted pts drop pts.length) i (i+1) (by unfold ordOf at h;omega) h (by omega)
 have h2:=cmpC_spec pts drop (ordOf pts drop)[i] (ordOf pts drop)[i+1]
 unfold Srt.lt cmpI at h1
 simp only[Int.toNat_natCast] at h1
 unfold ordOf at *
 omega

end Go.Am.Sc

/-
 The theorem of dropped rounds.
-/
namespace Go.Am.Sc
open Go.Proofs
set_option maxRecDepth 100000
set_option maxHeartbeats 4000000

attribute [local irreducible] inR allR

variable {bs:List D} {pts:List (List Int)} {drop:Int}

theorem ix_is (l:List Nat):Ix l=Is (l.map Int.ofNat):=by
 rw[show Is (l.map Int.ofNat)=.lst ((l.map Int.ofNat).map I) from rfl,List.map_map]
 rfl

abbrev Bs (l:List Bool):D:=.lst (l.map B)
theorem idx_bs {X:List Bool}{i:Nat}(h:i<X.length):D.idx (Bs X) (In i)=some (B (X.getD i false)):=by
 simp[D.idx,h,List.getD]
theorem set_bs {X:List Bool}{i:Nat}(h:i<X.length)(y:Bool):D.set (Bs X) (In i) 0 (B y)=some (Bs (X.set i y)):=by
 simp[D.set,h,D.putAt,D.one]
theorem e_cidb {x y:E}{env:List D}{X:List Bool}{i:Nat}(h:i<X.length)(hx:x.eval env=some (Bs X))(hy:y.eval env=some (In i)):(E.cell 0 (.idx x y)).eval env=some (B (X.getD i false)):=by
 simp only[E.eval,hx,hy,Option.bind_some,idx_bs h]
 rfl
theorem rep_bs {n:Nat}(h:n≤1000):D.rep 1 (I n) (B false)=some (Bs (List.replicate n false)):=by
 simp only[D.rep,Int.toNat_natCast,List.map_replicate]
 rw[if_pos ⟨by omega,by omega,Nat.le_trans h (by decide)⟩,show Bs (List.replicate n false)=.lst ((List.replicate n false).map B) from rfl,List.map_replicate]

def totS (pts:List (List Int))(drop:Int)(i:Nat):List Int:=(List.range pts.length).map fun j=>if j∈(ordOf pts drop).take i then totC pts drop j else 0
def seenS (pts:List (List Int))(drop:Int)(i:Nat):List Bool:=(List.range pts.length).map fun j=>decide (j∈(ordOf pts drop).take i)

theorem totS_len {i:Nat}:(totS pts drop i).length=pts.length:=by simp[totS]
theorem seenS_len {i:Nat}:(seenS pts drop i).length=pts.length:=by simp[seenS]

theorem take_mem {o:List Nat}{i j:Nat}(h:i<o.length):j∈o.take (i+1)↔j∈o.take i∨j=o[i]:=by
 rw[List.take_add_one,List.getElem?_eq_getElem h,Option.toList_some,List.mem_append,List.mem_singleton]

theorem totS_succ {i:Nat}(h:i<(ordOf pts drop).length):totS pts drop (i+1)=(totS pts drop i).set (ordOf pts drop)[i] (totC pts drop (ordOf pts drop)[i]):=by
 refine List.ext_getElem (by simp[totS]) fun k h1 h2=>?_
 rw[List.getElem_set]
 simp only[totS,List.getElem_map,List.getElem_range,take_mem h]
 by_cases hk:(ordOf pts drop)[i]=k
 ·rw[if_pos hk,if_pos (.inr hk.symm),hk]
 ·rw[if_neg hk]
  have:¬k=(ordOf pts drop)[i]:=fun e=>hk e.symm
  simp[this]
theorem seenS_succ {i:Nat}(h:i<(ordOf pts drop).length):seenS pts drop (i+1)=(seenS pts drop i).set (ordOf pts drop)[i] true:=by
 refine List.ext_getElem (by simp[seenS]) fun k h1 h2=>?_
 rw[List.getElem_set]
 simp only[seenS,List.getElem_map,List.getElem_range,take_mem h]
 by_cases hk:(ordOf pts drop)[i]=k
 ·rw[if_pos hk]
  simp[hk]
 ·rw[if_neg hk]
  have:¬k=(ordOf pts drop)[i]:=fun e=>hk e.symm
  simp[this]

theorem ord_nodup:(ordOf pts drop).Nodup:=(ordTo_perm _ _).nodup_iff.2 List.nodup_range

theorem seenS_new {i:Nat}(h:i<(ordOf pts drop).length):(seenS pts drop i).getD (ordOf pts drop)[i] false=false:=by
 have hj:=ordOf_mem (List.getElem_mem h)
 have:(ordOf pts drop)[i]∉(ordOf pts drop).take i:=by
  intro hm
  obtain⟨k,hk,e⟩:=List.mem_iff_getElem.1 hm
  rw[List.getElem_take] at e
  have hk2:k<i:=by
   have:=List.length_take_le i (ordOf pts drop)
   omega
  exact List.pairwise_iff_getElem.1 (ord_nodup (pts:=pts) (drop:=drop)) k i (by omega) h hk2 e
 simp[seenS,List.getD,hj,this]

theorem totS_end:totS pts drop (ordOf pts drop).length=totL pts drop:=by
 unfold totS totL
 refine List.map_congr_left fun k hk=>?_
 have hm:k∈ordOf pts drop:=(ordTo_perm _ _).mem_iff.2 hk
 rw[List.take_length,if_pos hm]

theorem totS_zero:totS pts drop 0=List.replicate pts.length 0:=by
 refine List.ext_getElem (by simp[totS]) fun k h1 h2=>?_
 simp[totS]
theorem seenS_zero:seenS pts drop 0=List.replicate pts.length false:=by
 refine List.ext_getElem (by simp[seenS]) fun k h1 h2=>?_
 simp[seenS]

theorem more_take {k:Nat}(h:k<pts.length):moreP (pts.take (k+1))=moreP (pts.take k)++[pt pts k++[0]]:=by
 unfold moreP
 rw[List.take_add_one,List.getElem?_eq_getElem h,List.map_append]
 simp[pt,List.getD,h]

theorem more_ok (hp:TmsOk pts)(hs:SeaOk pts drop):TmsOk (moreP pts):=by
 refine⟨fun a ha=>?_,by rw[more_len];exact hp.2⟩
 obtain⟨k,hk,rfl⟩:=List.mem_iff_getElem.1 ha
 rw[more_len] at hk
 have e:=hs.each k hk
 have e1:(moreP pts)[k]=pt pts k++[0]:=by simp[moreP,pt,List.getD,hk]
 rw[e1]
 refine⟨fun x hx=>?_,Nat.le_trans (show(pt pts k++[0]).length≤1000 by simp;omega) (by decide)⟩
 rcases List.mem_append.1 hx with h | h
 ·have:=e.2.2.2.2 x h
  exact⟨by omega,by omega⟩
 ·have:x=0:=by simpa using h
  subst this
  exact⟨by omega,by omega⟩

theorem app_pts {xs:List (List Int)}{x:List Int}(h:xs.length≤100000):D.app 1 24 (Pts xs) (.lst [Is x])=some (Pts (xs++[x])):=app1_lst (enc:=Is) (by omega) (Nat.le_trans (Nat.succ_le_succ h) (by decide)) (fun _=>rfl)


theorem c3 (hk:FSpecR Try.prog 5 (.st bs) [] (B true))(hp:TmsOk pts)(drop:Int):FSpecW Try.prog 3 (.st bs) [Pts pts,I drop] (B true) (.st bs):=by
 have h32:=c32 (bs:=bs) (drop:=drop) hp
 have hln:=hp.2
 cases hok:seasonOk pts drop
 ·rw[hok] at h32
  refine ku3.W rfl ?_
  unfold u3
  simp only[ups_cons,ups_nil,List.cons_append,List.nil_append]
  repeat' (first|(apply nrm;simp only[sbe];rfl)|(apply u_orT;rfl;exact Bool.or_true _)|(apply u_iteT;rfl;exact rfl)|(apply u_lenL;rfl;exact lenL_map;simp only[sbe];rfl)|(apply u_ev;rfl;simp only[sbe];rfl)|(apply u_call;rfl;rfl;(·first|exact h32|exact hk);rfl;simp only[sbe];rfl)|(apply u_or;rfl)|exact u_ret rfl rfl|(intro hz;(try simp only[sbs] at hz)))
 ·rw[hok] at h32
  have hs:=seaOk hok
  by_cases h30:pts.length≤12∧(0<pts.length→(pt pts 0).length≤30)
  ·have h31:=c31 (bs:=bs) hp hok
   have hol:=ordOf_len (pts:=pts) (drop:=drop)
   have hdr:=hs.dr
   have hlo:D.lenL (Ix (ordOf pts drop))=some (I pts.length):=by rw[←hol];exact lenL_map
   have hls:D.lenL (Is ((ordOf pts drop).map (totC pts drop)))=some (I pts.length):=by
    have:(((ordOf pts drop).map (totC pts drop)).length:Nat)=pts.length:=by simp[hol]
    rw[←this]
    exact lenL_map
   refine ku3.W rfl ?_
   unfold u3
   simp only[ups_cons,ups_nil,List.cons_append,List.nil_append]
   have h0:0<pts.length→D.eaddr 1 (Pts pts) (I 0)=some (.ptr [Is (pt pts 0)]):=fun h=>pt_get (i:=0) h
   have hc1:(decide ((pts.length:Int) > 12)||!true||(decide ((pts.length:Int) > 0)&&decide (((pt pts 0).length:Int) > 30)))=false:=by
    simp
    omega
   repeat' (first|(apply nrm;simp only[sbe];rfl)|(apply u_iteF;rfl;(·first|exact hc1|exact(by simp)))|(apply u_chk;rfl)|(apply u_eaddr;rfl;rfl;(·exact h0 (by omega));simp only[sbe];rfl)|(apply u_lenL;rfl;(·first|exact hlo|exact hls);simp only[sbe];rfl)|(apply u_rep;rfl;(·first|exact rep_is (by omega)|exact rep_bs (by omega));simp only[sbe];rfl)|(apply u_lenL;rfl;exact lenL_map;simp only[sbe];rfl)|(apply u_ev;rfl;simp only[sbe];rfl)|(apply u_call;rfl;rfl;(·first|exact h32|exact h31);rfl;simp only[sbe];rfl)|(apply u_or;rfl)|(apply u_and;rfl)|refine u_join ?_|exact u_ret rfl rfl|(intro hz;(try simp only[sbs] at hz)))
   have hsg:∀k (h:k<(ordOf pts drop).length),D.eaddr 1 (Is ((ordOf pts drop).map (totC pts drop))) (In k)=some (.ptr [I (totC pts drop (ordOf pts drop)[k])]):=fun k h=>by
    have h2:k<((ordOf pts drop).map (totC pts drop)).length:=by simpa using h
    have:=eaddr_get (enc:=I) (sz:=1) (xs:=(ordOf pts drop).map (totC pts drop)) (i:=k) h2 rfl
    rwa [List.getElem_map] at this
   refine u_range (fun i=>[In i,Is (totS pts drop i),Bs (seenS pts drop i)]) (fun _=>True) pts.length (by rw[totS_zero,seenS_zero];rfl) (fun _=>rfl) trivial (fun i hi _ R hR=>?_) (fun _ R=>?_)
   ·have hli:decide ((i:Int)<(pts.length:Int))=true:=by simp;omega
    have hR:=hR trivial
    have hio:i<(ordOf pts drop).length:=by omega
    have hoj:=ordOf_mem (List.getElem_mem hio)
    rw[totS_succ hio,seenS_succ hio] at hR
    have hT:=totS_len (pts:=pts) (drop:=drop) (i:=i)
    have hS:=seenS_len (pts:=pts) (drop:=drop) (i:=i)
    have hnew:=seenS_new hio
    have hip:i-1<(ordOf pts drop).length:=by omega
    have hsi:=hsg i hio
    have hsp:=hsg (i-1) hip
    have hfl:0<i→totC pts drop (ordOf pts drop)[i]≤totC pts drop (ordOf pts drop)[i-1]:=fun h=>by
     obtain⟨k,rfl⟩:∃k,i=k+1:=⟨i-1,by omega⟩
     exact tot_fall hio
    have hgx:=ix_get hio
    have hjX:(ordOf pts drop)[i]<(seenS pts drop i).length:=by omega
    have hjT:(ordOf pts drop)[i]<(totS pts drop i).length:=by omega
    have hcd:∀{env:List D} {x y:E},x.eval env=some (Bs (seenS pts drop i))→y.eval env=some (In (ordOf pts drop)[i])→(E.cell 0 (.idx x y)).eval env=some (B false):=fun hx hy=>by
     have:=e_cidb hjX hx hy
     rwa [hnew] at this
    have hc2:(decide (((ordOf pts drop)[i]:Int)<0)||decide (((ordOf pts drop)[i]:Int)≥(pts.length:Int))||false||(decide ((i:Int) > 0)&&decide (totC pts drop (ordOf pts drop)[i] > totC pts drop (ordOf pts drop)[i-1])))=false:=by
     simp
     omega
    repeat' (first|(apply nrm;simp only[sbe];rfl)|(apply u_iteT;rfl;exact hli)|(apply u_iteF;rfl;exact hc2)|(apply u_chk;rfl)|(apply u_eaddr;rfl;rfl;(·first|exact hgx|exact hsi|exact hsp);simp only[sbe];rfl)|(apply u_lenL;rfl;(·first|exact hlo|exact lenL_map);simp only[sbe];rfl)|(apply u_idx;rfl;rfl;(·first|exact idx_bs hjX|exact idx_is hjT);simp only[sbe];rfl)|(apply u_set;rfl;rfl;rfl;(·first|exact set_bs hjX true|exact set_is hjT _);simp only[sbe];rfl)|(apply u_inc;rfl;omega;simp only[sbe];rfl)|(apply u_pred;rfl;omega;simp only[sbe];rfl)|(apply u_ev;exact hcd rfl rfl;simp only[sbe];rfl)|(apply u_ev;rfl;simp only[sbe];rfl)|(apply u_or;rfl)|(apply u_and;rfl)|refine u_join ?_|(apply u_jump;rfl;rfl)|refine at_jump ?_|refine kj rfl ?_|exact u_ret rfl rfl|(intro hz;(try simp only[sbs] at hz)))
    exact hR
   ·have hlf:decide ((pts.length:Int)<(pts.length:Int))=false:=by simp
    have hte:totS pts drop pts.length=totL pts drop:=by rw[←totS_end,hol]
    rw[hte]
    repeat' (first|(apply nrm;simp only[sbe];rfl)|(apply u_iteF;rfl;exact hlf)|(apply u_lenL;rfl;exact hlo;simp only[sbe];rfl)|(apply u_ev;rfl;simp only[sbe];rfl)|refine u_join ?_|(apply u_jump;rfl;rfl)|refine at_jump ?_|(refine over_jump (by decide) ?_)|refine kj rfl ?_)
    refine u_range (fun k=>[Pts (moreP (pts.take k)),In k]) (fun _=>True) pts.length rfl (fun _=>rfl) trivial (fun k hk' _ R hR=>?_) (fun _ R=>?_)
    ·have hlk:decide ((k:Int)<(pts.length:Int))=true:=by simp;omega
     have hR:=hR trivial
     rw[more_take hk'] at hR
     have ek:=hs.each k hk'
     have ha1:D.app 1 8 (.lst []) (Is (pt pts k))=some (Is (pt pts k)):=app_iss (xs:=[]) (by simp;omega)
     have ha2:=app_is (xs:=pt pts k) (x:=0) (by omega)
     have ha3:=app_pts (xs:=moreP (pts.take k)) (x:=pt pts k++[0]) (by rw[more_len,List.length_take];omega)
     repeat' (first|(apply nrm;simp only[sbe];rfl)|(apply u_iteT;rfl;exact hlk)|(apply u_eaddr;rfl;rfl;exact pt_get hk';simp only[sbe];rfl)|(apply u_lenL;rfl;exact lenL_map;simp only[sbe];rfl)|(apply u_app;rfl;rfl;(·first|exact ha1|exact ha2|exact ha3);simp only[sbe];rfl)|(apply u_inc;rfl;omega;simp only[sbe];rfl)|(apply u_ev;rfl;simp only[sbe];rfl)|refine u_join ?_|(apply u_jump;rfl;rfl)|refine at_jump ?_|refine kj rfl ?_)
     exact hR
    ·rw[List.take_length]
     have h34:=c34 (bs:=bs) (xs:=(ordOf pts drop).map Int.ofNat) (ys:=(ordOf pts drop).map Int.ofNat) (by simp[hol];exact hln)
     have h34b:=c34 (bs:=bs) (xs:=(ordOf pts drop).map (totC pts drop)) (ys:=(ordOf pts drop).map (totC pts drop)) (by simp[hol];exact hln)
     rw[decide_eq_true rfl] at h34 h34b
     rw[←ix_is] at h34
     by_cases h40:0<pts.length∧(pt pts 0).length<40
     ·have h31m:=c31 (bs:=bs) (more_ok hp hs) (ok_more hs (by intro e;rw[e] at h40;simp at h40) h40.2)
      rw[tot_more hs,ord_more hs] at h31m
      have ht:(decide ((pts.length:Int) > 0)&&decide (((pt pts 0).length:Int)<40))=true:=by simp;omega
      have hdb:drop<40:=by
       have:=hs.each 0 h40.1
       omega
      repeat' (first|(apply nrm;simp only[sbe];rfl)|(apply u_iteT;rfl;exact ht)|(apply u_iteF;rfl;(·first|exact hlf|exact rfl))|(apply u_chk;rfl)|(apply u_eaddr;rfl;rfl;exact h0 h40.1;simp only[sbe];rfl)|(apply u_lenL;rfl;exact lenL_map;simp only[sbe];rfl)|(apply u_add;rfl;rfl;omega;simp only[sbe];rfl)|(apply u_sub;rfl;rfl;omega;simp only[sbe];rfl)|(apply u_ev;rfl;simp only[sbe];rfl)|(apply u_call;rfl;rfl;(·first|exact h31m|exact h34|exact h34b|exact hk);rfl;simp only[sbe];rfl)|(apply u_or;rfl)|(apply u_and;rfl)|refine u_join ?_|(apply u_jump;rfl;rfl)|refine at_jump ?_|(refine over_jump (by decide) ?_)|refine kj rfl ?_|(apply u_ite;rfl;all_goals (intro hz;(try simp only[sbs] at hz);first|(exact absurd hz (by decide))|(exfalso;omega)|skip))|exact u_ret rfl rfl|(intro hz;(try simp only[sbs] at hz)))
      have hd1:0<drop:=by omega
      have h31l:=c31 (bs:=bs) hp (ok_less hs hd1)
      have holl:=ordOf_len (pts:=pts) (drop:=drop-1)
      have hlol:D.lenL (Ix (ordOf pts (drop-1)))=some (I pts.length):=by rw[←holl];exact lenL_map
      have hlsl:D.lenL (Is ((ordOf pts (drop-1)).map (totC pts (drop-1))))=some (I pts.length):=by
       have:(((ordOf pts (drop-1)).map (totC pts (drop-1))).length:Nat)=pts.length:=by simp[holl]
       rw[←this]
       exact lenL_map
      have hdb:pts.length≠0→drop<40:=fun h=>by
       have:=hs.each 0 (by omega)
       omega
      have hne:((pts.length:Int) != (pts.length:Int))=false:=by simp
      have h000:((0:Int) != 0)=false:=rfl
      have hcc:((0:Int) != 0||((pts.length:Int) != (pts.length:Int))||((pts.length:Int) != (pts.length:Int)))=false:=by simp
      repeat' (first|(apply nrm;simp only[sbe];rfl)|(apply u_iteF;rfl;exact hcc)|(apply u_chk;rfl)|(apply u_lenL;rfl;(·first|exact hlol|exact hlsl|exact lenL_map);simp only[sbe];rfl)|(apply u_ev;rfl;simp only[sbe];rfl)|(apply u_call;rfl;rfl;exact h31l;rfl;simp only[sbe];rfl)|(apply u_or;rfl)|refine u_join ?_|exact u_ret rfl rfl|(intro hz;(try simp only[sbs] at hz)))
      refine u_range (fun i=>[In i]) (fun _=>True) pts.length rfl (fun _=>rfl) trivial (fun i hi _ R hR=>?_) (fun _ R=>?_)
      ·have hli:decide ((i:Int)<(pts.length:Int))=true:=by simp;omega
       have hio:i<(ordOf pts (drop-1)).length:=by omega
       have hoj:=ordOf_mem (List.getElem_mem hio)
       have hgx:=ix_get hio
       have hsi:D.eaddr 1 (Is ((ordOf pts (drop-1)).map (totC pts (drop-1)))) (In i)=some (.ptr [I (totC pts (drop-1) (ordOf pts (drop-1))[i])]):=by
        have h2:i<((ordOf pts (drop-1)).map (totC pts (drop-1))).length:=by simpa using hio
        have:=eaddr_get (enc:=I) (sz:=1) (xs:=(ordOf pts (drop-1)).map (totC pts (drop-1))) (i:=i) h2 rfl
        rwa [List.getElem_map] at this
       have hjT:(ordOf pts (drop-1))[i]<(totL pts drop).length:=by rw[totL_len];exact hoj
       have hcd:∀{env:List D} {x y:E},x.eval env=some (Is (totL pts drop))→y.eval env=some (In (ordOf pts (drop-1))[i])→(E.cell 0 (.idx x y)).eval env=some (I (totC pts drop (ordOf pts (drop-1))[i])):=fun hx hy=>by
        have:=e_cidx hjT hx hy
        rwa [totL_get hoj] at this
       have hle:=tot_less hs hd1 hoj
       have hc2:(decide (((ordOf pts (drop-1))[i]:Int)<0)||decide (((ordOf pts (drop-1))[i]:Int)≥(pts.length:Int))||decide (totC pts (drop-1) (ordOf pts (drop-1))[i]<totC pts drop (ordOf pts (drop-1))[i]))=false:=by
        simp
        omega
       repeat' (first|(apply nrm;simp only[sbe];rfl)|(apply u_iteT;rfl;exact hli)|(apply u_iteF;rfl;exact hc2)|(apply u_chk;rfl)|(apply u_eaddr;rfl;rfl;(·first|exact hgx|exact hsi);simp only[sbe];rfl)|(apply u_lenL;rfl;(·first|exact hlol|exact lenL_map);simp only[sbe];rfl)|(apply u_idx;rfl;rfl;exact idx_is hjT;simp only[sbe];rfl)|(apply u_inc;rfl;omega;simp only[sbe];rfl)|(apply u_ev;exact hcd rfl rfl;simp only[sbe];rfl)|(apply u_ev;rfl;simp only[sbe];rfl)|(apply u_or;rfl)|refine u_join ?_|(apply u_jump;rfl;rfl)|refine at_jump ?_|refine kj rfl ?_|exact u_ret rfl rfl|(intro hz;(try simp only[sbs] at hz)))
       exact hR trivial
      ·repeat' (first|(apply nrm;simp only[sbe];rfl)|(apply u_iteF;rfl;exact hlf)|(apply u_lenL;rfl;exact hlol;simp only[sbe];rfl)|(apply u_ev;rfl;simp only[sbe];rfl)|(apply u_call;rfl;rfl;exact hk;rfl;simp only[sbe];rfl)|(apply u_jump;rfl;rfl)|refine at_jump ?_|(refine over_jump (by decide) ?_)|refine kj rfl ?_|exact u_ret rfl rfl)
     ·have hf:(decide ((pts.length:Int) > 0)&&decide (((pt pts 0).length:Int)<40))=false:=by
       rw[Bool.and_eq_false_iff,decide_eq_false_iff_not,decide_eq_false_iff_not]
       omega
      repeat' (first|(apply nrm;simp only[sbe];rfl)|(apply u_iteF;rfl;(·first|exact hlf|exact hf))|(apply u_eaddr;rfl;rfl;(·exact h0 (by omega));simp only[sbe];rfl)|(apply u_lenL;rfl;exact lenL_map;simp only[sbe];rfl)|(apply u_ev;rfl;simp only[sbe];rfl)|(apply u_call;rfl;rfl;exact hk;rfl;simp only[sbe];rfl)|(apply u_or;rfl)|(apply u_and;rfl)|refine u_join ?_|(apply u_jump;rfl;rfl)|refine at_jump ?_|(refine over_jump (by decide) ?_)|refine kj rfl ?_|(apply u_ite;rfl;all_goals (intro hz;(try simp only[sbs] at hz);first|(exact absurd hz (by decide))|(exfalso;omega)|skip))|exact u_ret rfl rfl|(intro hz;(try simp only[sbs] at hz)))
  ·have hc:(decide ((pts.length:Int) > 12)||!true||(decide ((pts.length:Int) > 0)&&decide (((pt pts 0).length:Int) > 30)))=true:=by
    simp
    omega
   have h0:0<pts.length→D.eaddr 1 (Pts pts) (I 0)=some (.ptr [Is (pt pts 0)]):=fun h=>pt_get (i:=0) h
   refine ku3.W rfl ?_
   unfold u3
   simp only[ups_cons,ups_nil,List.cons_append,List.nil_append]
   repeat' (first|(apply nrm;simp only[sbe];rfl)|(apply u_iteT;rfl;exact hc)|(apply u_eaddr;rfl;rfl;(·exact h0 (by omega));simp only[sbe];rfl)|(apply u_lenL;rfl;exact lenL_map;simp only[sbe];rfl)|(apply u_ev;rfl;simp only[sbe];rfl)|(apply u_call;rfl;rfl;(·first|exact h32|exact hk);rfl;simp only[sbe];rfl)|(apply u_or;rfl)|(apply u_and;rfl)|exact u_ret rfl rfl|(intro hz;(try simp only[sbs] at hz)))

end Go.Am.Sc
