/-
  Several texts, one behind the other.
-/
import Derived.Ground.SlsfProg
import Derived.Shelf.SlSortCmp.Whole1
import Derived.Shelf.SlSortCmp.NoneTotal
import Derived.Test.YthkepocejfghcaaGreatProg
import Derived.Test.YthkepocejfghcaaGreatAmSortF
import Derived.Test.YthkepocejfghcaaGreatAmSortUtoAmRow
import Derived.Test.YthkepocejfghcaaGreatScC1toScShelf
import Derived.Test.YthkepocejfghcaaGreatScT3toScR6
import Derived.Test.YthkepocejfghcaaGreatScU7
set_option linter.unusedSimpArgs false
set_option linter.unusedVariables false
namespace Go.Proofs
section
open Go.Shelf
def Tryz.AK:Go.Shelf.Ren:=⟨fun | 6=>68 | 15=>113 | 14=>112 | 28=>136 | 29=>137 | 20=>128 | 21=>129 | 22=>130 | 23=>131 | 24=>132 | 25=>133 | 26=>134 | 27=>135 | 46=>149 | 47=>150 | 48=>151 | 49=>152 | 50=>153 | 57=>158 | n=>n,fun | 22=>23 | 24=>3 | 25=>95 | 3=>3 | 39=>134 | 0=>0 | 53=>157 | 55=>159 | 4=>4 | 46=>151 | 45=>150 | 50=>116 | 5=>5 | 9=>9 | 66=>165 | 70=>169 | 76=>173 | 77=>130 | n=>n,fun | n=>n⟩
theorem Tryz.It:Go.Proofs.SlLaysF.n6 Tryz.prog Tryz.AK:={
 mixed:=by kernel_rfl
 f6:=⟨Tryz.f68.name,by decide,Tryz.func68.trans (congrArg some (by kernel_rfl))⟩
 f14:=⟨Tryz.f112.name,by decide,Tryz.func112.trans (congrArg some (by kernel_rfl))⟩
 f15:=Tryz.func113.trans (congrArg some (by kernel_rfl))
 f20:=⟨Tryz.f128.name,by decide,Tryz.func128.trans (congrArg some (by kernel_rfl))⟩
 f21:=⟨Tryz.f129.name,by decide,Tryz.func129.trans (congrArg some (by kernel_rfl))⟩
 f22:=⟨Tryz.f130.name,by decide,Tryz.func130.trans (congrArg some (by kernel_rfl))⟩
 f23:=⟨Tryz.f131.name,by decide,Tryz.func131.trans (congrArg some (by kernel_rfl))⟩
 f24:=⟨Tryz.f132.name,by decide,Tryz.func132.trans (congrArg some (by kernel_rfl))⟩
 f25:=⟨Tryz.f133.name,by decide,Tryz.func133.trans (congrArg some (by kernel_rfl))⟩
 f26:=⟨Tryz.f134.name,by decide,Tryz.func134.trans (congrArg some (by kernel_rfl))⟩
 f27:=⟨Tryz.f135.name,by decide,Tryz.func135.trans (congrArg some (by kernel_rfl))⟩
 f28:=Tryz.func136.trans (congrArg some (by kernel_rfl))
 f29:=Tryz.func137.trans (congrArg some (by kernel_rfl))
 f46:=⟨Tryz.f149.name,by decide,Tryz.func149.trans (congrArg some (by kernel_rfl))⟩
 f47:=Tryz.func150.trans (congrArg some (by kernel_rfl))
 f48:=Tryz.func151.trans (congrArg some (by kernel_rfl))
 f49:=⟨Tryz.f152.name,by decide,Tryz.func152.trans (congrArg some (by kernel_rfl))⟩
 f50:=⟨Tryz.f153.name,by decide,Tryz.func153.trans (congrArg some (by kernel_rfl))⟩
 f57:=⟨Tryz.f158.name,by decide,Tryz.func158.trans (congrArg some (by kernel_rfl))⟩
 t0:=Tryz.underlying0
 a0:=Tryz.isAgg0
 z0:=Tryz.sizeOf0
 v0:=Tryz.zeroValue0
 t3:=Tryz.underlying3
 a3:=Tryz.isAgg3
 z3:=Tryz.sizeOf3
 v3:=Tryz.zeroValue3
 t4:=Tryz.underlying4
 a4:=Tryz.isAgg4
 z4:=Tryz.sizeOf4
 v4:=Tryz.zeroValue4
 t5:=Tryz.underlying5
 a5:=Tryz.isAgg5
 z5:=Tryz.sizeOf5
 v5:=Tryz.zeroValue5
 t9:=Tryz.underlying9
 a9:=Tryz.isAgg9
 z9:=Tryz.sizeOf9
 v9:=Tryz.zeroValue9
 t22:=Tryz.underlying23
 a22:=Tryz.isAgg23
 z22:=Tryz.sizeOf23
 v22:=Tryz.zeroValue23
 a24:=Tryz.isAgg3
 z24:=Tryz.sizeOf3
 t25:=Tryz.underlying95
 a25:=Tryz.isAgg95
 z25:=Tryz.sizeOf95
 v25:=Tryz.zeroValue95
 t39:=Tryz.underlying134
 a39:=Tryz.isAgg134
 z39:=Tryz.sizeOf134
 v39:=Tryz.zeroValue134
 t45:=Tryz.underlying150
 a45:=Tryz.isAgg150
 z45:=Tryz.sizeOf150
 v45:=Tryz.zeroValue150
 t46:=Tryz.underlying151
 a46:=Tryz.isAgg151
 z46:=Tryz.sizeOf151
 v46:=Tryz.zeroValue151
 t50:=Tryz.underlying116
 a50:=Tryz.isAgg116
 z50:=Tryz.sizeOf116
 v50:=Tryz.zeroValue116
 t53:=Tryz.underlying157
 a53:=Tryz.isAgg157
 z53:=Tryz.sizeOf157
 v53:=Tryz.zeroValue157
 t55:=Tryz.underlying159
 a55:=Tryz.isAgg159
 z55:=Tryz.sizeOf159
 v55:=Tryz.zeroValue159
 t66:=Tryz.underlying165
 a66:=Tryz.isAgg165
 z66:=Tryz.sizeOf165
 v66:=Tryz.zeroValue165
 t70:=Tryz.underlying169
 a70:=Tryz.isAgg169
 z70:=Tryz.sizeOf169
 v70:=Tryz.zeroValue169
 t76:=Tryz.underlying173
 a76:=Tryz.isAgg173
 z76:=Tryz.sizeOf173
 v76:=Tryz.zeroValue173
 t77:=Tryz.underlying130
 a77:=Tryz.isAgg130
 z77:=Tryz.sizeOf130
 v77:=Tryz.zeroValue130 }
def Tryz.yX:Go.Shelf.Ren:=⟨fun | 6=>68 | 15=>113 | 14=>112 | 28=>136 | 29=>137 | 20=>128 | 21=>129 | 22=>130 | 23=>131 | 24=>132 | 25=>133 | 26=>134 | 27=>135 | 46=>149 | 47=>150 | 48=>151 | 49=>152 | 50=>153 | 57=>158 | n=>n,fun | 22=>23 | 24=>3 | 25=>95 | 3=>3 | 39=>134 | 0=>0 | 53=>157 | 55=>159 | 4=>4 | 46=>151 | 45=>150 | 50=>116 | 5=>5 | 9=>9 | 66=>165 | 70=>169 | 76=>173 | 77=>130 | n=>n,fun | n=>n⟩
theorem Tryz.FG:Go.Proofs.SlLaysF0.n6 Tryz.prog Tryz.yX:={
 mixed:=by kernel_rfl
 f6:=⟨Tryz.f68.name,by decide,Tryz.func68.trans (congrArg some (by kernel_rfl))⟩
 f14:=⟨Tryz.f112.name,by decide,Tryz.func112.trans (congrArg some (by kernel_rfl))⟩
 f15:=Tryz.func113.trans (congrArg some (by kernel_rfl))
 f20:=⟨Tryz.f128.name,by decide,Tryz.func128.trans (congrArg some (by kernel_rfl))⟩
 f21:=⟨Tryz.f129.name,by decide,Tryz.func129.trans (congrArg some (by kernel_rfl))⟩
 f22:=⟨Tryz.f130.name,by decide,Tryz.func130.trans (congrArg some (by kernel_rfl))⟩
 f23:=⟨Tryz.f131.name,by decide,Tryz.func131.trans (congrArg some (by kernel_rfl))⟩
 f24:=⟨Tryz.f132.name,by decide,Tryz.func132.trans (congrArg some (by kernel_rfl))⟩
 f25:=⟨Tryz.f133.name,by decide,Tryz.func133.trans (congrArg some (by kernel_rfl))⟩
 f26:=⟨Tryz.f134.name,by decide,Tryz.func134.trans (congrArg some (by kernel_rfl))⟩
 f27:=⟨Tryz.f135.name,by decide,Tryz.func135.trans (congrArg some (by kernel_rfl))⟩
 f28:=Tryz.func136.trans (congrArg some (by kernel_rfl))
 f29:=Tryz.func137.trans (congrArg some (by kernel_rfl))
 f46:=⟨Tryz.f149.name,by decide,Tryz.func149.trans (congrArg some (by kernel_rfl))⟩
 f47:=Tryz.func150.trans (congrArg some (by kernel_rfl))
 f48:=Tryz.func151.trans (congrArg some (by kernel_rfl))
 f49:=⟨Tryz.f152.name,by decide,Tryz.func152.trans (congrArg some (by kernel_rfl))⟩
 f50:=⟨Tryz.f153.name,by decide,Tryz.func153.trans (congrArg some (by kernel_rfl))⟩
 f57:=⟨Tryz.f158.name,by decide,Tryz.func158.trans (congrArg some (by kernel_rfl))⟩
 t0:=Tryz.underlying0
 a0:=Tryz.isAgg0
 z0:=Tryz.sizeOf0
 v0:=Tryz.zeroValue0
 t3:=Tryz.underlying3
 a3:=Tryz.isAgg3
 z3:=Tryz.sizeOf3
 v3:=Tryz.zeroValue3
 t4:=Tryz.underlying4
 a4:=Tryz.isAgg4
 z4:=Tryz.sizeOf4
 v4:=Tryz.zeroValue4
 t5:=Tryz.underlying5
 a5:=Tryz.isAgg5
 z5:=Tryz.sizeOf5
 v5:=Tryz.zeroValue5
 t9:=Tryz.underlying9
 a9:=Tryz.isAgg9
 z9:=Tryz.sizeOf9
 v9:=Tryz.zeroValue9
 t22:=Tryz.underlying23
 a22:=Tryz.isAgg23
 z22:=Tryz.sizeOf23
 v22:=Tryz.zeroValue23
 t25:=Tryz.underlying95
 a25:=Tryz.isAgg95
 z25:=Tryz.sizeOf95
 v25:=Tryz.zeroValue95
 t39:=Tryz.underlying134
 a39:=Tryz.isAgg134
 z39:=Tryz.sizeOf134
 v39:=Tryz.zeroValue134
 t45:=Tryz.underlying150
 a45:=Tryz.isAgg150
 z45:=Tryz.sizeOf150
 v45:=Tryz.zeroValue150
 t46:=Tryz.underlying151
 a46:=Tryz.isAgg151
 z46:=Tryz.sizeOf151
 v46:=Tryz.zeroValue151
 t50:=Tryz.underlying116
 a50:=Tryz.isAgg116
 z50:=Tryz.sizeOf116
 v50:=Tryz.zeroValue116
 t53:=Tryz.underlying157
 a53:=Tryz.isAgg157
 z53:=Tryz.sizeOf157
 v53:=Tryz.zeroValue157
 t55:=Tryz.underlying159
 a55:=Tryz.isAgg159
 z55:=Tryz.sizeOf159
 v55:=Tryz.zeroValue159
 t66:=Tryz.underlying165
 a66:=Tryz.isAgg165
 z66:=Tryz.sizeOf165
 v66:=Tryz.zeroValue165
 t70:=Tryz.underlying169
 a70:=Tryz.isAgg169
 z70:=Tryz.sizeOf169
 v70:=Tryz.zeroValue169
 t76:=Tryz.underlying173
 a76:=Tryz.isAgg173
 z76:=Tryz.sizeOf173
 v76:=Tryz.zeroValue173
 t77:=Tryz.underlying130
 a77:=Tryz.isAgg130
 z77:=Tryz.sizeOf130
 v77:=Tryz.zeroValue130 }
open Go.RowKit Go.Lib Go.Sort in
theorem Tryz.slices_SortFunc_none {α:Type}[Inhabited α](p:Option Addr)(cap:Nat)(fv:Value)(w:World) :
  Calls Tryz.prog 68 #[.slice p 0 cap,fv] w fun e w'=>e=.returned (.tuple #[])∧w'=w:=AnyF.slices_SortFunc_none Tryz.FG p cap fv w
open Go.RowKit Go.Lib Go.Sort in
theorem Tryz.slices_SortFunc_total {α:Type}[Inhabited α](enc:α→Value)(h1:OneCell enc)(cf:α→α→Int)(hO:SWO (ltOf cf))(g:Nat)(cb:Array Value)(blk off cap:Nat)(d:Array α)(w:World)(eg:∀args w,(callFunc g args).run Tryz.prog w=.ok (.enter g args) w)(hcmp:CmpLays1 Tryz.prog g cb enc cf blk off d.size w)(hH:Holds enc w blk off d)(hblk:blk<w.heap.size)(hsz:d.size<4611686018427387904)(hT:∀x y,(ltOf cf) x y=false→(ltOf cf) y x=false→x=y) :
  Calls Tryz.prog 68 #[.slice (some ⟨blk,off,none⟩) d.size cap,.func (.func g) #[] cb] w fun e w'=>
   e=.returned (.tuple #[])∧∃n os,w'=sortWorld enc w blk off n (d.toList.mergeSort fun x y=>!(ltOf cf) y x).toArray os:=Any.slices_SortFunc_total Tryz.It enc h1 cf hO g cb blk off cap d w eg hcmp hH hblk hsz hT
end
end Go.Proofs

namespace Go.Am.jy
section
open Go.Shelf Go.RowKit Go.Lib Go.Sort Go.Proofs

variable {P:Program} {α:Type} [Inhabited α]

abbrev LO (val:α→Int):α→Value:=fun x=>.int .i64 (val x)

theorem Dz (val:α→Int)(w:World)(b off:Nat)(d:Array α):Sort.putRow (LO val) w b off d=Sort.putRow (Value.int .i64) w b off (d.map val):=by
 rw[xb w,xb (enc:=Value.int .i64) w,Array.map_map]
 rfl

theorem SD {g:FuncId} {val:α→Int} {cf:α→α→Int} {bT:List D} {cb:Array Value} {bs:List D} {b:Nat} {e:TypeId} (hcmp:∀(zs:List Int) (x y:α),aP P g (.st (bs.set b (.blk e 1 (zs.map J)))) ([J (val x),J (val y)]++bT) (J (cf x y)))
  {w:World} {S:Sets} {aJ:Nat→Prop} {xs:List α} (hst:dF w S aJ bs) (dP:nJ w S aJ) (hS:∀b o,S b o→b<w.heap.size) (hfl:∀b,aJ b→b<w.heap.size) (hb:bs[b]? = some (.blk e 1 ((xs.map val).map J)))
  (dG:cb.size=bT.length) (IU:∀(i:Nat) (v:Value) (d:D),cb[i]? = some v→bT[i]? = some d→bU w S v d):CmpLays1 P g cb (LO val) cf (S.loc b) 0 xs.toArray.size w:=by
 intro m os dk hdk x y
 obtain⟨k1,k2,k3,k4,k5,k6,k7⟩:=Qbj (xs:=xs.map val) (ys:=(dk.map val).toList) (zs:=(dk.map val).toList) hst hS hfl hb (by simp at hdk ⊢;omega) (by simp at hdk ⊢;omega) (fun _ _=>rfl) (q:=m) (os:=os) rfl
 have hW:sortWorld (LO val) w (S.loc b) 0 m dk os=Sort.grow (Sort.putRow (Value.int .i64) (Sort.ahead w m) (S.loc b) 0 (dk.map val).toList.toArray) os:=by
  unfold sortWorld
  rw[Dz]
 rw[hW]
 generalize Sort.grow (Sort.putRow (Value.int .i64) (Sort.ahead w m) (S.loc b) 0 (dk.map val).toList.toArray) os=W at k1 k2 k3 k4 k5 k6 k7
 have hv:∀x:α,bU W S (.int .i64 (val x)) (J (val x)):=fun x=>.v rfl
 have h1:nJ W S aJ:=fun l rec hl'=>by
  obtain⟨a1,a2⟩:=dP l rec hl'
  exact⟨(k7 l (Array.getElem?_eq_some_iff.1 a1).1 a2).trans a1,a2⟩
 have h2:(#[Value.int .i64 (val x),.int .i64 (val y)]++cb).size=([J (val x),J (val y)]++bT).length:=by
  simp only[Array.size_append,List.size_toArray,List.length_append,List.length_cons,List.length_nil,dG]
 have h3:=Mn (hv x) (hv y) (fun i v d h1 h2=>(IU i v d h1 h2).keep k2 (Sets.le_refl _))
 have gI:=hcmp (dk.map val).toList x y W S aJ (bs.set b (.blk e 1 ((dk.map val).toList.map J))) (#[.int .i64 (val x),.int .i64 (val y)]++cb) rfl k1 h1 (fun b' hb'=>Nat.lt_of_lt_of_le (hfl b' hb') k6) (fun b' o ho=>Nat.lt_of_lt_of_le (hS b' o ho) k6) h2 h3
 clear k1 h1 h2 h3 hcmp
 refine Calls.mono gI ?_
 rintro e' w'' ⟨v,S',⟨rfl,oP⟩,abu,_⟩
 obtain⟨rfl,_⟩:=oP.Pk
 exact⟨rfl,zg abu⟩

theorem Gh {f g:FuncId} {val:α→Int} {cf:α→α→Int} {bT:List D} {HJ:Array α→Array α} {bs:List D} {b:Nat} {e:TypeId}
  (h:∀(cb:Array Value) (blk off cap:Nat) (d:Array α) (w:World),CmpLays1 P g cb (LO val) cf blk off d.size w→Holds (LO val) w blk off d→blk<w.heap.size→d.size<4611686018427387904→Calls P f #[.slice (some ⟨blk,off,none⟩) d.size cap,.func (.func g) #[] cb] w fun e w'=>e=.returned (.tuple #[])∧∃n os,w'=sortWorld (LO val) w blk off n (HJ d) os)
  (aa2:∀d,(HJ d).size=d.size) (hcmp:∀(zs:List Int) (x y:α),aP P g (.st (bs.set b (.blk e 1 (zs.map J)))) ([J (val x),J (val y)]++bT) (J (cf x y)))
  {xs:List α} (hb:bs[b]? = some (.blk e 1 ((xs.map val).map J))) (hL:xs.length<4611686018427387904) :
  bk P f (.st bs) [.sl b 0 xs.length,.fn g [] bT] (.bh []) (.st (bs.set b (.blk e 1 (((HJ xs.toArray).toList.map val).map J)))):=by
 intro w S aJ rp vs heq hst dP hfl hS hvl hrd
 cases heq
 obtain⟨v,u,rfl⟩:∃v u,vs=#[v,u]:=by
  match vs,hvl with
  | ⟨[v,u]⟩,_=>exact⟨v,u,rfl⟩
 have hv:=hrd 0 v (.sl b 0 xs.length) rfl rfl
 have hu:=hrd 1 u (.fn g [] bT) rfl rfl
 cases hv with
 | sl hn hl hc h0=>
 rename_i c
 cases hu with
 | @fn _ us cb _ _ FK dG RK IU=>
 have hus:us=#[]:=by simpa using FK
 subst hus
 obtain⟨hf,_⟩:=hst.cells b _ _ _ hb
 have hh:=Aj hst hb
 have N9:Holds (LO val) w (S.loc b) 0 xs.toArray:=by
  intro j hj
  have hj':j<xs.length:=by simpa using hj
  have:=hh j (by simpa using hj')
  simpa[hj'] using this
 have Vf:=SD (cb:=cb) hcmp hst dP hS hfl hb dG IU
 refine(h cb (S.loc b) 0 c xs.toArray w Vf N9 (hfl _ hf) (by simpa using hL)).mono ?_
 rintro _ w' ⟨rfl,n,os,rfl⟩
 have hsz:=aa2 xs.toArray
 obtain⟨k1,k2,k3,k4,k5,k6,k7⟩:=Qbj (w':=sortWorld (LO val) w (S.loc b) 0 n (HJ xs.toArray) os) (xs:=xs.map val) (ys:=(HJ xs.toArray).toList.map val) (zs:=(HJ xs.toArray).toList.map val) hst hS hfl hb (by simp at hsz ⊢;omega) (by simp at hsz ⊢;omega) (fun _ _=>rfl) (q:=n) (os:=os) (by
  have e:(HJ xs.toArray).map val=((HJ xs.toArray).toList.map val).toArray:=Array.toList_inj.1 (by rw[Array.toList_map])
  unfold sortWorld
  rw[Dz,e])
 exact⟨.tuple #[],S,aJ,_,⟨rfl,.bh rfl fun i v d hv=>by simp at hv⟩,rfl,k1,k2,Sets.le_refl _,k3,k4,k5,k6,k7,fun k' hk=>⟨.inl hk,Nat.lt_of_lt_of_le (hfl k' hk) k6⟩,fun k' o hk=>.inl hk,fun k' o hk=>Nat.lt_of_lt_of_le (hS k' o hk) k6⟩
end

section
open Go.Proofs Go.Shelf Go.RowKit Go.Lib

section
variable {P:Program} {w:World}

theorem Ht {o:Oper} {a:Act} {K:Act→World→Prop} {Q:Exit→Act→World→Prop} (s x:Operand) (t:TypeId)
  (ho:o.op=.call { callee:=.builtin .append,args:=#[s,x],argTypes:=#[t,t] })
  (e:TypeId) (i:TypeInfo) (z:Value) (size bytes:Nat) (ht:P.underlying t=some (.slice e)) (hi:P.info? e=some i) (hz:i.zero=some z)
  (hsize:i.size=size) (hby:i.bytes=bytes) (hzs:z.cells.size=size) (hsz:0<size)
  (v:Value) (n:Nat) (xs:List Value) (hs:a.eval s=v) (hown:w.ownsRow 0 e size v n xs)
  (ad:Addr) (m c:Nat) (news:List Value) (hx:a.eval x=.slice (some ad) m c) (hl:news.length=m*size) (hnews:∀j u,news[j]? = some u→w.cell? (ad.add j)=some u) (h1:∀u∈news,u.oneCell'=true)
  (h63:n+m≤maxLen) (hbytes:(n+m)*bytes≤140737488355328)
  (h:∀v' w',w'.ownsRow 0 e size v' (n+m) (xs++news)→((v'.ownBlock=v.ownBlock∧QH w w' v.ownBlock)∨(v'.ownBlock=some w.heap.size∧QH w w' none))→K (a.put o.dst v') w'):o.wp P a w K Q:=by
 obtain⟨v',w',hr,h2,h3⟩:=kI (P:=P) w t o.type e i z size bytes ht hi hz hsize hby hzs hsz v n xs hown ad m c news hl hnews h1 h63 hbytes
 unfold Oper.wp execOp
 simp only[ho,resolve,invoke,builtin,Sem.run_bind,Sem.run_pure,Result.andThen_ok,List.map_toArray,List.map_cons,List.map_nil,hs,hx,hr]
 exact h v' w' h2 h3

theorem zU {ops:Array Oper} {rest:List Oper} {o:Oper} {a:Act} {Q:Exit→Act→World→Prop} (hgd:o.guard=none) (s x:Operand) (t:TypeId)
  (ho:o.op=.call { callee:=.builtin .append,args:=#[s,x],argTypes:=#[t,t] })
  (e:TypeId) (i:TypeInfo) (z:Value) (size bytes:Nat) (ht:P.underlying t=some (.slice e)) (hi:P.info? e=some i) (hz:i.zero=some z)
  (hsize:i.size=size) (hby:i.bytes=bytes) (hzs:z.cells.size=size) (hsz:0<size)
  (v:Value) (n:Nat) (xs:List Value) (hs:a.eval s=v) (hown:w.ownsRow 0 e size v n xs)
  (ad:Addr) (m c:Nat) (news:List Value) (hx:a.eval x=.slice (some ad) m c) (hl:news.length=m*size) (hnews:∀j u,news[j]? = some u→w.cell? (ad.add j)=some u) (h1:∀u∈news,u.oneCell'=true)
  (h63:n+m≤maxLen) (hbytes:(n+m)*bytes≤140737488355328)
  (h:∀v' w',w'.ownsRow 0 e size v' (n+m) (xs++news)→((v'.ownBlock=v.ownBlock∧QH w w' v.ownBlock)∨(v'.ownBlock=some w.heap.size∧QH w w' none))→wpList P ops Q rest (a.put o.dst v') w'):wpList P ops Q (o :: rest) a w:=
 wpList_plain hgd fun _ hK=>Ht s x t ho e i z size bytes ht hi hz hsize hby hzs hsz v n xs hs hown ad m c news hx hl hnews h1 h63 hbytes fun v' w' h2 h3=>hK _ _ (h v' w' h2 h3)
end

section
variable {P:Program} {ρ:Ren}
set_option maxHeartbeats 2000000 in
set_option maxRecDepth 100000 in
theorem YP (L:Lays2.n15 P ρ)(ad:Addr)(n c:Nat)(xs:List Value)(w:World)(hl:xs.length=n)(hbig:n*8≤140737488355328)(hc:∀j u,xs[j]? = some u→w.cell? (ad.add j)=some u)(h1:∀u∈xs,u.oneCell'=true) :
  Calls P (ρ.f 15) #[.slice (some ad) n c] w fun e w'=>∃v' g,e=.returned v'∧w'.ownsRow 0 (ρ.t 3) 1 v' n xs∧v'.ownBlock=some g∧w.heap.size≤g∧QH w w' none:=by
 have mixed:=L.mixed;have t3:=L.t3;have a3:=L.a3;have z3:=L.z3;have v3:=L.v3;have t4:=L.t4;have a4:=L.a4;have z4:=L.z4;have v4:=L.v4;have t22:=L.t22;have a22:=L.a22;have z22:=L.z22;have v22:=L.v22
 obtain⟨i0,hi,xV,GK,UR⟩:=info_parts L.i3
 have q22:∀(w:World) (a:Option Addr) (n c n' c':Nat),(binOp .eql (ρ.t 22) (.slice a n c) (.slice none n' c')).run P w=.ok (.bool a.isNone) w:=fun w a n c n' c'=>Lib.run_eql_slice_nil w _ _ a n c n' c' L.t22
 have Y0:∀w,Sem.run P (underlying (ρ.t 22)) w=.ok (TypeDesc.slice (ρ.t 3)) w:=run_underlying t22
 have A:Aside ((∀j u,xs[j]? = some u→w.cell? (ad.add j)=some u)∧∀u∈xs,u.oneCell'=true):=⟨hc,h1⟩
 clear hc h1
 go_enter L.f15,Body2.n15_ntmps ρ
 go_wp2_with (at_builtin;refine zU rfl _ _ (ρ.t 22) rfl (ρ.t 3) i0 (.int .i64 0) 1 8 t22 hi xV GK UR rfl (by decide) _ _ _ rfl (World.ownsRow_made w #[] 0 (Nat.zero_le _) (Nat.zero_le _) rfl) ad n c xs rfl ?qc1 ?qc2 ?qc3 ?qc4 ?qc5 ?_)
 case qc1=>simpa using hl
 case qc2=>
  intro j u hj
  exact Lib.cell?_alloc_some _ (A.out.1 j u hj)
 case qc3=>exact A.out.2
 case qc4=>unfold maxLen;omega
 case qc5=>omega
 intro v' w1 hown hgrow
 go_wp2
 go_ret
 have hg1:QH w (w.alloc (.cells #[] (ρ.t 3))) none:=⟨rfl,⟨rfl,Nat.le_refl _⟩,rfl,by simp,fun k hk _=>Qcx w _ k hk⟩
 rcases hgrow with⟨h1,h2⟩ | ⟨h1,h2⟩
 ·exact⟨v',w.heap.size,rfl,by simpa using hown,h1,Nat.le_refl _,h2.os.trans hg1.os,h2.tape.trans hg1.tape,h2.output.trans hg1.output,Nat.le_trans hg1.size h2.size,fun k hk _=>(h2.block k (Nat.lt_of_lt_of_le hk hg1.size) (by simp[Value.ownBlock];omega)).trans (hg1.block k hk (by simp))⟩
 ·exact⟨v',_,rfl,by simpa using hown,h1,by simp,h2.os.trans hg1.os,h2.tape.trans hg1.tape,h2.output.trans hg1.output,Nat.le_trans hg1.size h2.size,fun k hk _=>(h2.block k (Nat.lt_of_lt_of_le hk hg1.size) (by simp)).trans (hg1.block k hk (by simp))⟩
end
end
end Go.Am.jy

namespace Go.Am.Sc
section
open Go.Proofs Go.RowKit
set_option maxRecDepth 100000
set_option maxHeartbeats 4000000

attribute [local irreducible] gR fV

variable {bs:List D} {pts:List (List Int)} {drop:Int}

abbrev QI (pts:List (List Int)):D:=.bq ((pts.map fT).map Is)
theorem LK {i:Nat}(h:i<pts.length):D.aj 1 (QI pts) (In i)=some (.ptr [Is (fT (pt pts i))]):=by
 have h2:i<(pts.map fT).length:=by simpa using h
 have e:fT (pt pts i)=(pts.map fT)[i]:=by simp[pt,List.getD,h]
 rw[e]
 exact b_ (enc:=Is) h2 rfl

/-! ## falling points,in the store -/

abbrev ZV:Type:={ x:Int // 0≤x∧x≤100000 }
instance:Inhabited ZV:=⟨⟨0,by decide⟩⟩
end

section
open Go.Proofs
set_option maxRecDepth 100000

abbrev TA:TypeId:=1000000000

variable {pts:List (List Int)} {drop:Int}

def pO (pts:List (List Int))(i:Nat):List D:=(List.range pts.length).map fun j=>if j<i then .sl (5+2*j) 0 (pt pts j).length else .bq []

theorem rA {i:Nat}:(pO pts i).length=pts.length:=by simp[pO]
theorem Ai {i j:Nat}(h:j<pts.length)(hj:j<i):(pO pts i)[j]? = some (.sl (5+2*j) 0 (pt pts j).length):=by
 simp[pO,h,hj]
theorem M9 {i:Nat}(h:i<pts.length):pO pts (i+1)=(pO pts i).set i (.sl (5+2*i) 0 (pt pts i).length):=by
 refine List.ext_getElem (by simp[pO]) fun k h1 h2=>?_
 rw[List.getElem_set]
 simp only[pO,List.getElem_map,List.getElem_range]
 split
 ·split
  ·rename_i h3;rw[h3]
  ·rw[if_pos (by omega)]
 ·split
  ·omega
  ·rw[if_neg (by omega)]

def C0 (T:List Int):D:=.blk TA 1 (T.map I)
def Dn (pts:List (List Int))(i:Nat):D:=.blk TA 1 (pO pts i)

/-! the store after the rounds -/
end

section
open Go.Proofs
set_option maxRecDepth 100000
set_option maxHeartbeats 4000000

attribute [local irreducible] gR fV

variable {bs:List D} {pts:List (List Int)} {drop:Int}

theorem DU {f:D→Option D}:∀{l l':List D},l.length=l'.length→(∀(i:Nat) (x y:D),l[i]? = some x→l'[i]? = some y→f x=some y)→dK f l=some l'
 | [],[],_,_=>rfl
 | [],_ :: _,h,_=>by simp at h
 | _ :: _,[],h,_=>by simp at h
 | x :: r,y :: r',h,hf=>by
  rw[dK,hf 0 x y rfl rfl,DU (l:=r) (l':=r') (by simpa using h) fun i a b ha hb=>hf (i+1) a b (by simpa using ha) (by simpa using hb)]
  rfl

theorem Nt {s:List D}{n:Nat}(l:List Int):dK (bD s (n+1)) (l.map I)=some (l.map I):=jj (enc:=I) fun a _=>by rw[bD]

theorem Qdk {s:List D}{n b:Nat}{e:TypeId}{l:List Int}(h:s[b]? = some (.blk e 1 (l.map I))):bD s (n+2) (.sl b 0 l.length)=some (Is l):=by
 rw[bD]
 simp only[h]
 rw[if_pos (by simp)]
 simp only[Nat.mul_one,List.drop_zero]
 rw[show(List.map I l).take l.length=List.map I l from List.take_of_length_le (by simp),Nt]
 simp

section
variable {s:List D}

end

theorem aho {s:List D}{g:Nat}{cs:List D}:bk Tryz.prog 128 (.st s) [.cq,I 0,I 0,.fn g [] cs] (.bh []) (.st s):=by
 refine Sc.UC.W rfl ?_
 unfold jy.MS
 simp only[aC,aG,List.cons_append,List.nil_append]
 repeat' (first|(apply bM;rfl;rfl;omega;simp only[ai];rfl)|refine au ?_)
 refine bf (fun i=>[I 1,.st s]) (fun _=>True) 0 rfl (fun _=>rfl) trivial (fun i hi=>absurd hi (by omega)) (fun _ R=>?_)
 repeat' (first|(apply bp;simp only[ai];rfl)|(apply aD;rfl;simp only[ai];rfl)|(apply av;rfl;rfl)|refine Qav ?_|(refine aB (by decide) ?_)|refine kj rfl ?_|(apply aX;rfl;all_goals (intro hz;(try simp only[bA] at hz);first|(exact absurd hz (by decide))|(exfalso;omega)|skip))|exact aq rfl rfl)

theorem ZU {s:List D}{g:Nat}{cs:List D}:bk Tryz.prog 116 (.st s) [.cq,I 0,.fn g [] cs] (.bh []) (.st s):=by
 have h:=aho (s:=s) (g:=g) (cs:=cs)
 refine Sc.UD.W rfl ?_
 unfold jy.MQ
 simp only[aC,aG,List.cons_append,List.nil_append]
 repeat' ((with_reducible refine au ?_))
 refine bf (fun i=>[I 0,I 20,.st s]) (fun _=>True) 0 rfl (fun _=>rfl) trivial (fun i hi=>absurd hi (by omega)) (fun _ R=>?_)
 repeat' (first|(apply bp;simp only[ai];rfl)|(apply aD;rfl;simp only[ai];rfl)|(apply eZ;rfl;rfl;exact h;rfl;simp only[ai];rfl)|refine au ?_|(apply av;rfl;rfl)|refine Qav ?_|(refine aB (by decide) ?_)|refine kj rfl ?_|(apply aX;rfl;all_goals (intro hz;(try simp only[bA] at hz);first|(exact absurd hz (by decide))|(exfalso;omega)|skip)))
 refine bf (fun i=>[I 20,I 0,I 20,.st s]) (fun _=>True) 0 rfl (fun _=>rfl) trivial (fun i hi=>absurd hi (by omega)) (fun _ R=>?_)
 repeat' (first|(apply bp;simp only[ai];rfl)|(apply aD;rfl;simp only[ai];rfl)|(apply av;rfl;rfl)|refine Qav ?_|(refine aB (by decide) ?_)|refine kj rfl ?_|(apply aX;rfl;all_goals (intro hz;(try simp only[bA] at hz);first|(exact absurd hz (by decide))|(exfalso;omega)|skip))|exact aq rfl rfl)
end
end Go.Am.Sc
