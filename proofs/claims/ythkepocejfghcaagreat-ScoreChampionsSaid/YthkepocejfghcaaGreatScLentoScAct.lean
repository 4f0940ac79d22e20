/-
  Several texts, one behind the other.
-/
import Derived.Shelf.Small.Bits
import Derived.Shelf.Strconv.Itoa0
import Derived.Ground.Names2Prog
import Derived.Test.YthkepocejfghcaaGreatProg
import Derived.Test.YthkepocejfghcaaGreatAmFntoAmSt2
import Derived.Test.YthkepocejfghcaaGreatScTab
import Derived.Test.YthkepocejfghcaaGreatScCfg
set_option linter.unusedSimpArgs false
set_option linter.unusedVariables false
/-
 DERIVED: THE SHELF's CONTRACTS AT THIS DUMP,IN PLAIN WORDS (tools/lay-plain.mjs out of 'ScLen.lean',which tools/lay-shelf.mjs wrote): THE SAME DECLARATIONS UNDER THE SAME NAMES: 'import','namespace','open','def','theorem' AND NOTHING ELSE: no command of the shelf's: FOR A HAND-IN. Each laying: the table of numbers ('.._ren') and one theorem,a field a fact of the dump's own or the kernel's comparison;each contract: ONE APPLICATION.
-/
namespace Go.Proofs
open Go.Shelf
def Tryz.lays125_ren:Go.Shelf.Ren:=⟨fun | 125=>113 | 128=>136 | 129=>137 | n=>n,fun | 46=>134 | 3=>3 | 51=>157 | 53=>159 | 4=>4 | 5=>5 | 9=>9 | n=>n,fun | n=>n⟩
theorem Tryz.lays125:Go.Proofs.Lays.n125 Tryz.prog Tryz.lays125_ren:={
 mixed:=by kernel_rfl
 f125:=Tryz.func113.trans (congrArg some (by kernel_rfl))
 f128:=Tryz.func136.trans (congrArg some (by kernel_rfl))
 f129:=Tryz.func137.trans (congrArg some (by kernel_rfl))
 t3:=Tryz.underlying3
 a3:=Tryz.isAgg3
 z3:=Tryz.sizeOf3
 v3:=Tryz.zeroValue3
 t4:=Tryz.underlying4
 a4:=Tryz.isAgg4
 z4:=Tryz.sizeOf4
 v4:=Tryz.zeroValue4
 t5:=Tryz.underlying5
 a5:=Tryz.isAgg5
 z5:=Tryz.sizeOf5
 v5:=Tryz.zeroValue5
 t9:=Tryz.underlying9
 a9:=Tryz.isAgg9
 z9:=Tryz.sizeOf9
 v9:=Tryz.zeroValue9
 t46:=Tryz.underlying134
 a46:=Tryz.isAgg134
 z46:=Tryz.sizeOf134
 v46:=Tryz.zeroValue134
 t51:=Tryz.underlying157
 a51:=Tryz.isAgg157
 z51:=Tryz.sizeOf157
 v51:=Tryz.zeroValue157
 t53:=Tryz.underlying159
 a53:=Tryz.isAgg159
 z53:=Tryz.sizeOf159
 v53:=Tryz.zeroValue159 }
theorem Tryz.bits_Len (x:Int)(w:World)(h0:0≤x)(h1:x≤18446744073709551615) :
  Calls Tryz.prog 113 #[.int .u64 x] w fun e w'=>e=.returned (.int .i64 (Lib.bitLen x.toNat))∧w'=w:=Any.bits_Len Tryz.lays125 x w h0 h1
end Go.Proofs

/-
 What is known besides the texts.
-/
namespace Go.Am.Sc
open Go.Proofs

def lenOrc:Orc where
 R:=fun f st ds=>match st,ds with
  | .st _,[.v (.int .u64 (.ofNat n))]=>if f=113∧n≤64 then some (.ret (.v (.int .i64 (Lib.bitLen n)))) else none
  | _,_=>none
 W:=fun _ _ _=>none
 F:=fun _ _ _ _=>none
 I:=fun _ _ _ _ _=>none

theorem lenOrc_ok:OrcOk Tryz.prog lenOrc:=by
 refine⟨fun f st ds r h=>?_,fun _ _ _ _ _ h=>(by cases h),fun _ _ _ _ _ h=>(by cases h),fun _ _ _ _ _ _ _ h=>(by cases h)⟩
 simp only[lenOrc] at h
 split at h
 ·rename_i bs n
  split at h
  ·rename_i hc
   obtain⟨rfl,hn⟩:=hc
   cases h
   intro w S foot bs0 vs hb hst hhold hfl hS hvl hrd
   obtain⟨v,rfl⟩:∃v,vs=#[v]:=by
    obtain⟨l⟩:=vs
    simp at hvl
    obtain⟨v,rfl⟩:=List.length_eq_one_iff.1 hvl
    exact⟨v,rfl⟩
   have hv:=(hrd 0 v _ rfl rfl).v_eq
   subst hv
   refine(Tryz.bits_Len (n:Int) w (by omega) (by omega)).mono ?_
   rintro e w' ⟨rfl,rfl⟩
   exact⟨_,S,⟨rfl,.v rfl⟩,⟨⟨rfl,rfl,rfl,Nat.le_refl _,fun _ _=>rfl⟩,Nat.le_refl _⟩,Sets.le_refl _,rfl,fun _ _ h=>.inl h,hS⟩
  ·cases h
 ·cases h

end Go.Am.Sc

/-
 The chapter's examples answer as they say.
-/
namespace Go.Am.Sc
open Go.Proofs

noncomputable def e17o:Entry:={ f:=17,kn:=.plain,cf:=(scf true [] [] Tryz.f17),own:=true,ones:=[],t:=t17 }
theorem ok17o:EntOk Tryz.prog e17o:=EntOk.ofPlain Tryz.func17 (by kernel_rfl) (by kernel_rfl)

noncomputable def tabKn:Tab:=e17o :: tabKnown
theorem tabKn_ok:∀e,e∈tabKn→EntOk Tryz.prog e:=by
 intro e he
 rcases List.mem_cons.1 he with rfl | he
 ·exact ok17o
 ·exact tabKnown_ok e he

theorem known_spec (bs:List D):FSpecR Tryz.prog 17 (.st bs) [] (.v (.bool true)):=
 (runOrcB_ok (n:=200) tabKn_ok lenOrc_ok 30).R 17 (.st bs) [] _ (by kernel_rfl)

end Go.Am.Sc

/-
 Checks of plans and cards,as texts.
-/
namespace Go.Am.Sc
open Go.Proofs

noncomputable def u46:U:=(ups [.ev (.bin .geq .int y0 y1),
 .chain false y4 (ups [.ev (.bin .leq .int y0 y2)]
 (.ret y5))]
 (.ret (.tcons y5 (.tcons y3 .tnil))))
theorem ku46:UOk Tryz.prog 46 .plain (scf true [] [] Tryz.f46) [true,true,true] u46:=UOk.plain Tryz.func46 (by kernel_rfl) (by kernel_rfl)

noncomputable def u47:U:=(ups [.ev (.mkptr (.cons (.scal y3) .nil)),
 .ev (.lenL y0),
 .call 46 y4 [y6,y1,y2] [true],
 .chain false y7 (ups [.ev (.mkfn 100 .tnil (.tcons y5 .tnil)),
 .call 99 y4 [y0,y8] [true],
 .ev (.un .not y9)]
 (.ret y10))]
 (.ret (.tcons y8 (.tcons y4 .tnil))))
theorem ku47:UOk Tryz.prog 47 .plain (scf true [] [] Tryz.f47) [true,true,true,true] u47:=UOk.plain Tryz.func47 (by kernel_rfl) (by kernel_rfl)

noncomputable def u49:U:=(ups [.ev (.bin .geq .int y0 y1),
 .chain false y4 (ups [.ev (.bin .leq .int y0 y2)]
 (.ret y5))]
 (.ret (.tcons y5 (.tcons y3 .tnil))))
theorem ku49:UOk Tryz.prog 49 .plain (scf true [] [] Tryz.f49) [true,true,true] u49:=UOk.plain Tryz.func49 (by kernel_rfl) (by kernel_rfl)

noncomputable def u50:U:=(ups [.join 0 0 (.loop 1 [(ki 0)] (ups [.ev (.lenL y0),
 .ev (.bin .lss .int y6 y7)]
 (.ite y8 (ups [.join 2 0 (ups [.ev (.eaddr 1 y0 y6),
 .ev (.ld false 1 y5 y9),
 .call 49 y5 [y10,y3,y4] [true],
 .ev (.un .not y11)]
 (.ite y12 (.ret (.tcons (kb false) (.tcons y5 .tnil))) (.jump 2 [] []))),
 .ev (.bin .add .int y6 (ki 1))]
 (.jump 1 [y9] [])) (.jump 0 [] [])))),
 .ev (.lenL y0),
 .call 49 y5 [y6,y1,y2] [true]]
 (.ret (.tcons y7 (.tcons y5 .tnil))))
theorem ku50:UOk Tryz.prog 50 .plain (scf true [] [] Tryz.f50) [true,true,true,true,true] u50:=UOk.plain Tryz.func50 (by kernel_rfl) (by kernel_rfl)

noncomputable def u99:U:=(ups [.call 126 y2 [y0,y1] [true],
 .ev (.bin .geq .int y3 (ki 0))]
 (.ret (.tcons y4 (.tcons y2 .tnil))))
theorem ku99:UOk Tryz.prog 99 .plain (scf true [] [] Tryz.f99) [true,true] u99:=UOk.plain Tryz.func99 (by kernel_rfl) (by kernel_rfl)

noncomputable def u100:U:=(ups [.ev (.ld false 1 y2 y1),
 .call 46 y2 [y0,(ki 0),y3] [true],
 .ev (.un .not y4)]
 (.ret (.tcons y5 (.tcons y2 .tnil))))
theorem ku100:UOk Tryz.prog 100 .plain (scf true [] [] Tryz.f100) [true,true] u100:=UOk.plain Tryz.func100 (by kernel_rfl) (by kernel_rfl)

noncomputable def u126:U:=(ups [.ev (.lenL y0),
 .join 0 0 (.loop 1 [(ki 0)] (ups [.ev (.bin .lss .int y4 y3)]
 (.ite y5 (ups [.join 2 0 (ups [.ev (.eaddr 1 y0 y4),
 .ev (.ld false 1 y2 y6),
 .callv y1 y2 [y7] [true]]
 (.ite y8 (.ret (.tcons y4 (.tcons y2 .tnil))) (.jump 2 [] []))),
 .ev (.bin .add .int y4 (ki 1))]
 (.jump 1 [y6] [])) (.jump 0 [] []))))]
 (.ret (.tcons (ki (-1)) (.tcons y2 .tnil))))
theorem ku126:UOk Tryz.prog 126 .plain (scf true [] [] Tryz.f126) [true,true] u126:=UOk.plain Tryz.func126 (by kernel_rfl) (by kernel_rfl)

end Go.Am.Sc

/-
 Plans and cards,as Lean structures,and which ones are as defined.
-/
namespace Go.Am.Sc

structure Item where
 kind:Int
 leg:Int
 target:Int
 free:Bool
deriving Inhabited,DecidableEq

structure Plan where
 items:List Item
 classes:Int
 late:Int
 early:Int
 maxLate:Int
 legLate:Int
 jumps:List Int
 ret:Bool
 missed:Int
 notional:Int
 percent:Int
 power:Int
 points:List Int
 extra:List Int

structure Line where
 minute:Int
 time:Int
 jump:Bool
 mark:Int
deriving Inhabited,DecidableEq

structure Card where
 cls:Int
 starts:List Int
 lines:List Line
deriving Inhabited

def inR (x lo hi:Int):Bool:=decide (lo≤x)&&decide (x≤hi)

theorem inR_t {x lo hi:Int}(h:inR x lo hi=true):lo≤x∧x≤hi:=by simpa[inR] using h
theorem inR_i {x lo hi:Int}(h:lo≤x∧x≤hi):inR x lo hi=true:=by simpa[inR] using h
theorem inR_f {x lo hi:Int}(h:inR x lo hi=false):x<lo∨hi<x:=by
 simp only[inR,Bool.and_eq_false_iff,decide_eq_false_iff_not] at h
 omega
theorem inR_n {x lo hi:Int}(h:x<lo∨hi<x):inR x lo hi=false:=by
 simp only[inR,Bool.and_eq_false_iff,decide_eq_false_iff_not]
 omega

def allR (l:List Int)(least most lo hi:Int):Bool:=l.all (fun x=>inR x lo hi)&&inR l.length least most

namespace Plan
variable (p:Plan)
def it (i:Nat):Item:=p.items.getD i default
def n:Nat:=p.items.length
def itOk (i:Nat):Bool:=(i==0||inR ((p.it i).leg-(p.it (i-1)).leg) 0 1)&&(decide ((p.it i).leg<6)&&((p.it i).kind==1&&inR (p.it i).target 0 1440||(p.it i).kind==2&&((p.it i).target==0&&!(p.it i).free)))
def headOk:Bool:=inR p.n 1 100&&(inR p.classes 1 20&&(p.it 0).leg==0)
def itemsOk:Bool:=(List.range p.n).all p.itOk
def rulesOk:Bool:=inR p.late 0 36000000&&(inR p.early 0 36000000&&(inR p.missed 0 36000000&&(inR p.maxLate 0 1440&&(inR p.legLate 0 1440&&allR p.jumps 1 10 0 36000000))))
def moreOk:Bool:=(decide (1≤p.notional)&&decide (p.notional≤4))&&(inR p.percent 100 1000&&(inR p.power (-1) (p.n-1)&&(decide (p.power<0)||(p.it p.power.toNat).kind==2)))
def ptsOk:Bool:=allR p.points 0 60 0 1000&&allR p.extra 0 60 0 1000
def ok:Bool:=p.headOk&&(p.itemsOk&&(p.rulesOk&&(p.moreOk&&p.ptsOk)))
end Plan

def lineOk (x:Item)(l:Line):Bool:=inR l.minute 0 100000&&(inR l.time 0 36000000&&(l.mark==0&&(x.kind==1&&(l.time==0&&!l.jump)||x.kind != 1&&decide (0<l.time))||(l.mark==1&&(x.kind != 1&&l.time==0)||l.mark==2&&(l.minute==0&&(l.time==0&&!l.jump)))))

def Card.ln (c:Card)(i:Nat):Line:=c.lines.getD i default

def Plan.legs (p:Plan):Int:=(p.it (p.n-1)).leg+1

def lnOk (p:Plan)(c:Card)(i:Nat):Bool:=lineOk (p.it i) (c.ln i)&&!(i != 0&&((p.it i).leg==(p.it (i-1)).leg&&((c.ln (i-1)).mark==2&&(c.ln i).mark != 2)))

def cardOk (p:Plan)(c:Card):Bool:=inR c.cls 0 (p.classes-1)&&(allR c.starts p.legs p.legs 0 100000&&(c.lines.length==p.n&&(List.range p.n).all (lnOk p c)))

variable {p:Plan} {c:Card}

theorem Plan.ok_itOk (h:p.itemsOk=true){i:Nat}(hi:i<p.n):p.itOk i=true:=(List.all_eq_true.1 h) i (List.mem_range.2 hi)

theorem Plan.leg_of (h0:(p.it 0).leg=0):∀{i:Nat},(∀k,k≤i→p.itOk k=true)→0≤(p.it i).leg∧(p.it i).leg≤5
 | 0,h=>by omega
 | i+1,h=>by
  have ih:=Plan.leg_of h0 (i:=i) fun k hk=>h k (by omega)
  have hs:=h (i+1) (Nat.le_refl _)
  simp only[Plan.itOk,Bool.and_eq_true,decide_eq_true_eq,Nat.add_sub_cancel,Bool.or_eq_true,beq_iff_eq] at hs
  obtain⟨h1,h2,_⟩:=hs
  rcases h1 with h1 | h1
  ·omega
  ·have:=inR_t h1
   omega

theorem Plan.it_getElem {i:Nat}(h:i<p.n):p.items[i]? = some (p.it i):=by
 have h':i<p.items.length:=h
 simp[Plan.it,List.getD,h']

theorem Card.ln_getElem {i:Nat}(h:i<c.lines.length):c.lines[i]? = some (c.ln i):=by
 simp[Card.ln,List.getD,h]

theorem allR2 (a b lo hi:Int):allR [a,b] 2 2 lo hi=(inR a lo hi&&inR b lo hi):=by
 simp[allR,inR]
theorem allR3 (a b c lo hi:Int):allR [a,b,c] 3 3 lo hi=(inR a lo hi&&(inR b lo hi&&inR c lo hi)):=by
 simp[allR,inR]

theorem allR_eq {l:List Int}{k a b lo hi:Int}(h:(l.length:Int)=k)(hk:a≤k∧k≤b):allR l k k lo hi=allR l a b lo hi:=by
 unfold allR
 rw[inR_i (x:=(l.length:Int)) (by omega),inR_i (by omega)]
theorem allR_ne {l:List Int}{k lo hi:Int}(h:(l.length:Int)≠k):allR l k k lo hi=false:=by
 unfold allR
 rw[inR_n (x:=(l.length:Int)) (by omega),Bool.and_false]

theorem Plan.ok_parts (h:p.ok=true):p.headOk=true∧p.itemsOk=true∧p.rulesOk=true∧p.moreOk=true∧p.ptsOk=true:=by simpa[Plan.ok] using h

theorem Plan.ok_head (h:p.ok=true):(1≤p.n∧p.n≤100)∧(1≤p.classes∧p.classes≤20)∧(p.it 0).leg=0:=by
 have h:=(Plan.ok_parts h).1
 simp only[Plan.headOk,Bool.and_eq_true,beq_iff_eq] at h
 have h1:=inR_t h.1
 exact⟨by omega,inR_t h.2.1,h.2.2⟩

theorem Plan.ok_leg (h:p.ok=true){i:Nat}(hi:i<p.n):0≤(p.it i).leg∧(p.it i).leg≤5:=Plan.leg_of (Plan.ok_head h).2.2 fun k hk=>Plan.ok_itOk (Plan.ok_parts h).2.1 (by omega)

theorem Plan.ok_f1 (h:p.headOk=false):p.ok=false:=by simp[Plan.ok,h]
theorem Plan.ok_f2 (h:p.itemsOk=false):p.ok=false:=by simp[Plan.ok,h]

end Go.Am.Sc

/-
 Plans and cards as data.
-/
namespace Go.Am.Sc

abbrev I (n:Int):D:=.v (.int .i64 n)
abbrev B (b:Bool):D:=.v (.bool b)
abbrev Is (l:List Int):D:=.lst (l.map I)
abbrev In (i:Nat):D:=I (i:Int)
abbrev Ix (l:List Nat):D:=.lst (l.map In)

def i64 (n:Int):Prop:=-9223372036854775808≤n∧n<9223372036854775808

theorem ofI {ds:List D}(h:OfSh (.int .i64) ds):∃n,ds=[I n]∧i64 n:=by
 simp only[OfSh] at h
 obtain⟨n,h,h1,h2⟩:=h
 refine⟨n,h,?_⟩
 simp[IntKind.min,IntKind.max,IntKind.bits,IntKind.signed] at h1 h2
 exact⟨h1,by omega⟩

theorem ofIs:∀{es:List D},(∀x,x∈es→OfSh (.int .i64) [x])→∃xs:List Int,es=xs.map I∧∀x,x∈xs→i64 x
 | [],_=>⟨[],rfl,by simp⟩
 | e :: es,h=>by
  obtain⟨n,hn,hb⟩:=ofI (h e (by simp))
  cases hn
  obtain⟨xs,rfl,hx⟩:=ofIs (es:=es) fun x hx=>h x (by simp[hx])
  exact⟨n :: xs,rfl,by simpa using⟨hb,hx⟩⟩

def IsOk (l:List Int):Prop:=(∀x,x∈l→i64 x)∧l.length≤maxLen

theorem ofSl {ds:List D}(h:OfSh (.sl (.int .i64)) ds):∃xs:List Int,ds=[Is xs]∧IsOk xs:=by
 simp only[OfSh] at h
 obtain⟨es,rfl,hl,hes⟩:=h
 obtain⟨xs,rfl,hx⟩:=ofIs fun x hx=>by
  have:=(hes x hx).2 rfl
  simpa only[OfSh] using this
 exact⟨xs,rfl,hx,by simpa using hl⟩

def Item.cs (x:Item):List D:=[I x.kind,I x.leg,I x.target,B x.free]
def Item.d (x:Item):D:=.agg x.cs
def Plan.cs (p:Plan):List D:=[.lst (p.items.map Item.d),I p.classes,I p.late,I p.early,I p.maxLate,I p.legLate,Is p.jumps,B p.ret,I p.missed,I p.notional,I p.percent,I p.power,Is p.points,Is p.extra]
def Plan.d (p:Plan):D:=.agg p.cs
def Line.cs (l:Line):List D:=[I l.minute,I l.time,B l.jump,I l.mark]
def Line.d (l:Line):D:=.agg l.cs
def Card.cs (c:Card):List D:=[I c.cls,Is c.starts,.lst (c.lines.map Line.d)]
def Card.d (c:Card):D:=.agg c.cs
abbrev Cards (l:List Card):D:=.lst (l.map Card.d)

structure Item.Ok (x:Item):Prop where
 kind:i64 x.kind
 leg:i64 x.leg
 target:i64 x.target

structure Plan.Ok (p:Plan):Prop where
 items:∀x,x∈p.items→x.Ok
 itemsL:p.items.length≤maxLen
 classes:i64 p.classes
 late:i64 p.late
 early:i64 p.early
 maxLate:i64 p.maxLate
 legLate:i64 p.legLate
 jumps:IsOk p.jumps
 missed:i64 p.missed
 notional:i64 p.notional
 percent:i64 p.percent
 power:i64 p.power
 points:IsOk p.points
 extra:IsOk p.extra

structure Line.Ok (l:Line):Prop where
 minute:i64 l.minute
 time:i64 l.time
 mark:i64 l.mark

structure Card.Ok (c:Card):Prop where
 cls:i64 c.cls
 starts:IsOk c.starts
 lines:∀x,x∈c.lines→x.Ok
 linesL:c.lines.length≤maxLen

theorem cv {ds:List D}(h:∃n:Int,ds=[.v (.int .i64 n)]∧IntKind.i64.min≤n∧n≤IntKind.i64.max):∃n,ds=[I n]∧i64 n:=ofI (by simpa only[OfSh] using h)

theorem argInt {x:D}(h:ArgSh (.int .i64) x):∃n,x=I n∧i64 n:=by
 obtain⟨n,hn,hb⟩:=ofI (h.2 rfl)
 cases hn
 exact⟨n,rfl,hb⟩

def TmsOk (l:List (List Int)):Prop:=(∀a,a∈l→IsOk a)∧l.length≤maxLen

theorem ofTms:∀{es:List D},(∀x,x∈es→OfSh (.sl (.int .i64)) [x])→∃xs:List (List Int),es=xs.map Is∧∀a,a∈xs→IsOk a
 | [],_=>⟨[],rfl,by simp⟩
 | e :: es,h=>by
  obtain⟨l,hx,h1⟩:=ofSl (h e (by simp))
  cases hx
  obtain⟨xs,rfl,hx⟩:=ofTms (es:=es) fun x hx=>h x (by simp[hx])
  exact⟨l :: xs,rfl,by simpa using⟨h1,hx⟩⟩

theorem argTms {x:D}(h:ArgSh (.sl (.sl (.int .i64))) x):∃l:List (List Int),x=.lst (l.map Is)∧TmsOk l:=by
 have h:=h.2 rfl
 rw[OfSh] at h
 obtain⟨es,hx,hl,hes⟩:=h
 cases hx
 obtain⟨xs,rfl,ho⟩:=ofTms fun x hx=>(hes x hx).2 rfl
 exact⟨xs,rfl,ho,by simpa using hl⟩

end Go.Am.Sc
