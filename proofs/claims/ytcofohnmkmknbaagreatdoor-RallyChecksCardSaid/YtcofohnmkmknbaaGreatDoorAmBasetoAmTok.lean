/-
  Several texts, one behind the other.
-/
import Derived.Orders
import Derived.Tactics2
import Derived.Laws.AppendOwn
import Derived.Laws.OwnMore
import Derived.Laws.Rows
import Derived.Below
import Derived.Laws.BytesArg
import Derived.Laws.Externs
import Derived.Laws.CopyRow
import Derived.RangeFuncIn
import Derived.TacticsIn
import Derived.OrdersIn
import Derived.LoopNIn
import Derived.RangeFuncLeaves
import Derived.RangeFuncNested
import Derived.OwnWalkIn
import Derived.Laws.MakeOwn
import Derived.Laws.StructEq
import Derived.Laws.Pointers
import Derived.WalkSpells
import Derived.Laws.Tables
import Derived.Great.BuildSlice
set_option linter.unusedSimpArgs false
set_option linter.unusedVariables false
namespace Go.Am
section
structure TL (a b:World):Prop where
 tape:a.tape=b.tape
 dr:b.drawn≤a.drawn

theorem TL.refl (w:World):TL w w:=⟨rfl,Nat.le_refl _⟩
theorem TL.trans {a b c:World}(h:TL a b)(k:TL b c):TL a c:=⟨h.tape.trans k.tape,Nat.le_trans k.dr h.dr⟩

structure Blw (B:Nat)(a w:World):Prop extends RowKit.Below B a w where
 dr:a.drawn≤w.drawn

theorem Blw.refl (B:Nat)(a:World):Blw B a a:=⟨⟨rfl,rfl,rfl,Nat.le_refl _,fun _ _=>rfl⟩,Nat.le_refl _⟩
theorem Blw.tl {B:Nat}{a w:World}(h:Blw B a w):TL w a:=⟨h.tape,h.dr⟩

/-! ## Data -/

inductive D where
 | v (x:Value)
 | agg (cs:List D)
 | bq (es:List D)
 | ptr (cs:List D)
 | bh (ds:List D)
 | oO (t:TypeId) (d:D)
 | fn (f:FuncId) (first bT:List D)
 | loc (i off:Nat)
 | sl (i off len:Nat)
 | cq
 | aE (e:TypeId) (sz:Nat) (cs:List D)
 | mp (i:Nat)
 | iE (dL:List D)
 | itb (m n:Nat) (seen:List Nat)
 | oM (stop:Bool)
 | cY (s:ByteArray) (pos:Nat)
 | ju (g:Nat) (t:TypeId) (vs:List Value)
 | tW (i:Nat) (rec:Loop×Code) (sl:List Nat) (bT:List D)
 | yl (l:Nat) (rec:Loop) (sl:List Nat) (bT:List D)
 | st (bs:List D)
 deriving Inhabited

abbrev D.int (n:Int):D:=.v (.int .i64 n)
abbrev D.bool (b:Bool):D:=.v (.bool b)

def D.cells:D→List D
 | .agg cs=>cs
 | d=>[d]

def D.one:D→Bool
 | .agg _ | .bh _ | .aE _ _ _ | .st _ | .iE _ | .itb _ _ _ | .oM _ | .cY _ _ | .ju _ _ _=>false
 | _=>true

def plain:Value→Bool
 | .bool _ | .int _ _ | .float _ _ | .complex _ _ _ | .string _ | .pointer none | .map none | .chan none | .nilFunc | .nilIface=>true
 | .func _ f c=>f.isEmpty&&c.isEmpty
 | _=>false

theorem Rh {x:Value}(h:plain x=true):x.oneCell'=true:=by
 cases x <;> simp[plain,Value.oneCell'] at *

structure Sets where
 mem:Nat→Nat→Prop
 loc:Nat→Nat
 n:Nat
 cap:Nat→Nat
 hold:Nat→Option Loop:=fun _=>none
 mH:Nat→Loop×Code:=fun _=>default

instance:CoeFun Sets (fun _=>Nat→Nat→Prop):=⟨Sets.mem⟩

structure Sets.Le (S S':Sets):Prop where
 mem:∀b o,S b o→S' b o
 n:S.n≤S'.n
 loc:∀i,i<S.n→S'.loc i=S.loc i
 cap:∀i,i<S.n→S'.cap i=S.cap i
 hold:S'.hold=S.hold
 mH:∀i,i<S.n→S'.mH i=S.mH i

instance:LE Sets:=⟨Sets.Le⟩

theorem Sets.le_refl (S:Sets):S≤S:=⟨fun _ _ h=>h,Nat.le_refl _,fun _ _=>rfl,fun _ _=>rfl,rfl,fun _ _=>rfl⟩
theorem Sets.le_trans {S T U:Sets}(h:S≤T)(k:T≤U):S≤U:=
 ⟨fun b o x=>k.mem b o (h.mem b o x),Nat.le_trans h.n k.n,fun i hi=>(k.loc i (Nat.lt_of_lt_of_le hi h.n)).trans (h.loc i hi),fun i hi=>(k.cap i (Nat.lt_of_lt_of_le hi h.n)).trans (h.cap i hi),k.hold.trans h.hold,fun i hi=>(k.mH i (Nat.lt_of_lt_of_le hi h.n)).trans (h.mH i hi)⟩

inductive bU (w:World) (S:Sets):Value→D→Prop
 | v {x:Value} (h:plain x=true):bU w S x (.v x)
 | agg {vs:Array Value} {ds:List D} (hl:vs.size=ds.length) (ho:∀(i:Nat) (d:D),ds[i]? = some d→d.one=true)
   (h:∀(i:Nat) (v:Value) (d:D),vs[i]? = some v→ds[i]? = some d→bU w S v d):bU w S (.agg vs) (.agg ds)
 | nil:bU w S (.slice none 0 0) (.bq [])
 | emp {a:Addr} {cap:Nat} (hm:cap≤maxLen):bU w S (.slice (some a) 0 cap) (.bq [])
 | bq {b off len cap size:Nat} {es:List D} {val:Nat→Nat→Value} (hl:len=es.length) (hc:len≤cap) (hm:cap≤maxLen) (hz:∀(i:Nat) (e:D),es[i]? = some e→e.cells.length=size)
   (ho:∀(i:Nat) (e:D) (j:Nat) (d:D),es[i]? = some e→e.cells[j]? = some d→d.one=true)
   (hS:∀(i:Nat) (e:D) (j:Nat) (d:D),es[i]? = some e→e.cells[j]? = some d→S b (off+i*size+j))
   (hw:∀(i:Nat) (e:D) (j:Nat) (d:D),es[i]? = some e→e.cells[j]? = some d→w.cell? ⟨b,off+i*size+j,none⟩=some (val i j))
   (hr:∀(i:Nat) (e:D) (j:Nat) (d:D),es[i]? = some e→e.cells[j]? = some d→bU w S (val i j) d):bU w S (.slice (some ⟨b,off,none⟩) len cap) (.bq es)
 | ptr {b off:Nat} {cs:List D} {val:Nat→Value} (ho:∀(j:Nat) (d:D),cs[j]? = some d→d.one=true) (hS:∀(j:Nat) (d:D),cs[j]? = some d→S b (off+j))
   (hw:∀(j:Nat) (d:D),cs[j]? = some d→w.cell? ⟨b,off+j,none⟩=some (val j))
   (hr:∀(j:Nat) (d:D),cs[j]? = some d→bU w S (val j) d):bU w S (.pointer (some ⟨b,off,none⟩)) (.ptr cs)
 | bh {vs:Array Value} {ds:List D} (hl:vs.size=ds.length)
   (h:∀(i:Nat) (v:Value) (d:D),vs[i]? = some v→ds[i]? = some d→bU w S v d):bU w S (.tuple vs) (.bh ds)
 | oO {t:TypeId} {v:Value} {d:D} (h:bU w S v d):bU w S (.iface t v) (.oO t d)
 | fn {f:FuncId} {us vs:Array Value} {ds es:List D} (hl:us.size=ds.length) (hl':vs.size=es.length)
   (h:∀(i:Nat) (v:Value) (d:D),us[i]? = some v→ds[i]? = some d→bU w S v d) (h':∀(i:Nat) (v:Value) (d:D),vs[i]? = some v→es[i]? = some d→bU w S v d):bU w S (.func (.func f) us vs) (.fn f ds es)
 | loc {i off:Nat} (h:i<S.n):bU w S (.pointer (some ⟨S.loc i,off,none⟩)) (.loc i off)
 | cq:bU w S (.slice none 0 0) .cq
 | yl {l:Nat} {rec:Loop} {sl:List Nat} {bT:List D} (h:S.hold l=some rec) (hc:∀(i s:Nat) (d:D),sl[i]? = some s→bT[i]? = some d→bU w S (rec.tmps.getD s undef) d):bU w S (.func (.yield l) #[] #[]) (.yl l rec sl bT)
 | tW {i:Nat} {rec:Loop×Code} {sl:List Nat} {bT:List D} (h:i<S.n) (hr:S.mH i=rec) (hc:∀(j s:Nat) (d:D),sl[j]? = some s→bT[j]? = some d→bU w S (rec.1.tmps.getD s undef) d):bU w S (.func (.yield (S.loc i)) #[] #[]) (.tW i rec sl bT)
 | mp {i:Nat} (h:i<S.n):bU w S (.map (some (S.loc i))) (.mp i)
 | sl {i off len c:Nat} (h:i<S.n) (hl:len≤c) (hc:c≤maxLen) (h0:off=0→c=S.cap i):bU w S (.slice (some ⟨S.loc i,off,none⟩) len c) (.sl i off len)

def bW (S:Sets)(w w':World):Prop:=∀b o,S b o→w'.cell? ⟨b,o,none⟩=w.cell? ⟨b,o,none⟩

theorem bW.refl (S:Sets)(w:World):bW S w w:=fun _ _ _=>rfl
theorem bW.trans {S:Sets}{a b c:World}(h:bW S a b)(k:bW S b c):bW S a c:=fun x o hS=>(k x o hS).trans (h x o hS)

theorem bU.keep {w w':World}{S S':Sets}{v:Value}{d:D}(h:bU w S v d)(hk:bW S w w')(hS:S≤S'):bU w' S' v d:=by
 induction h with
 | v h=>exact .v h
 | agg hl ho _ ih=>exact .agg hl ho ih
 | nil=>exact .nil
 | emp hm=>exact .emp hm
 | bq hl hc hm hz ho tU hw _ ih=>exact .bq hl hc hm hz ho (fun i e j d h1 h2=>hS.mem _ _ (tU i e j d h1 h2)) (fun i e j d h1 h2=>(hk _ _ (tU i e j d h1 h2)).trans (hw i e j d h1 h2)) ih
 | ptr ho tU hw _ ih=>exact .ptr ho (fun j d h1=>hS.mem _ _ (tU j d h1)) (fun j d h1=>(hk _ _ (tU j d h1)).trans (hw j d h1)) ih
 | bh hl _ ih=>exact .bh hl ih
 | oO _ ih=>exact .oO ih
 | fn hl hl' _ _ ih RG=>exact .fn hl hl' ih RG
 | cq=>exact .cq
 | yl h _ ih=>exact .yl (by rw[hS.hold];exact h) ih
 | tW h hr _ ih=>rw[←hS.loc _ h];exact .tW (Nat.lt_of_lt_of_le h hS.n) ((hS.mH _ h).trans hr) ih
 | mp h=>rw[←hS.loc _ h];exact .mp (Nat.lt_of_lt_of_le h hS.n)
 | loc h=>rw[←hS.loc _ h];exact .loc (Nat.lt_of_lt_of_le h hS.n)
 | sl h hl hc h0=>rw[←hS.loc _ h];exact .sl (Nat.lt_of_lt_of_le h hS.n) hl hc fun e=>(h0 e).trans (hS.cap _ h).symm

mutual
def D.gK:D→Bool
 | .v _ | .cq | .loc _ _ | .sl _ _ _ | .mp _ | .itb _ _ _ | .oM _ | .cY _ _ | .ju _ _ _=>true
 | .agg cs | .bq cs | .ptr cs | .bh cs | .aE _ _ cs | .iE cs | .st cs | .tW _ _ _ cs=>cN cs
 | .oO _ d=>d.gK
 | .fn _ a b=>cN a&&cN b
 | .yl _ _ _ _=>false
def cN:List D→Bool
 | []=>true
 | d :: r=>d.gK&&cN r
end

theorem gm:∀{ds:List D} {i:Nat} {d:D},cN ds=true→ds[i]? = some d→d.gK=true
 | [],_,_,_,h=>by simp at h
 | x :: r,0,d,h,hi=>by simp[cN] at h hi;exact hi ▸ h.1
 | x :: r,i+1,d,h,hi=>by simp[cN] at h hi;exact gm h.2 hi

theorem Nk {d c:D}{j:Nat}(h:d.gK=true)(hc:d.cells[j]? = some c):c.gK=true:=by
 cases d <;> first
 |(simp only[D.cells] at hc;simp only[D.gK] at h;exact gm h hc)
 |(cases j with
    | zero=>simp only[D.cells,List.getElem?_cons_zero,Option.some.injEq] at hc;subst hc;exact h
    | succ j=>simp[D.cells] at hc)

structure Sets.SR (S S':Sets):Prop where
 mem:∀b o,S b o→S' b o
 n:S.n=S'.n
 loc:∀i,S'.loc i=S.loc i
 cap:∀i,S'.cap i=S.cap i
 mH:∀i,S'.mH i=S.mH i

theorem bU.like {w:World}{S S':Sets}{v:Value}{d:D}(h:bU w S v d)(hS:S.SR S')(hd:d.gK=true):bU w S' v d:=by
 induction h with
 | v h=>exact .v h
 | agg hl ho _ ih=>exact .agg hl ho fun i v d h1 h2=>ih i v d h1 h2 (gm (by simpa[D.gK] using hd) h2)
 | nil=>exact .nil
 | emp hm=>exact .emp hm
 | bq hl hc hm hz ho tU hw _ ih=>exact .bq hl hc hm hz ho (fun i e j d h1 h2=>hS.mem _ _ (tU i e j d h1 h2)) hw fun i e j d h1 h2=>ih i e j d h1 h2 (Nk (gm (by simpa[D.gK] using hd) h1) h2)
 | ptr ho tU hw _ ih=>exact .ptr ho (fun j d h1=>hS.mem _ _ (tU j d h1)) hw fun j d h1=>ih j d h1 (gm (by simpa[D.gK] using hd) h1)
 | bh hl _ ih=>exact .bh hl fun i v d h1 h2=>ih i v d h1 h2 (gm (by simpa[D.gK] using hd) h2)
 | oO _ ih=>exact .oO (ih (by simpa[D.gK] using hd))
 | fn hl hl' _ _ ih RG=>
  simp only[D.gK,Bool.and_eq_true] at hd
  exact .fn hl hl' (fun i v d h1 h2=>ih i v d h1 h2 (gm hd.1 h2)) fun i v d h1 h2=>RG i v d h1 h2 (gm hd.2 h2)
 | cq=>exact .cq
 | mp h=>rw[←hS.loc _];exact .mp (by rw[←hS.n];exact h)
 | loc h=>rw[←hS.loc _];exact .loc (by rw[←hS.n];exact h)
 | sl h hl hc h0=>rw[←hS.loc _];exact .sl (by rw[←hS.n];exact h) hl hc fun e=>(h0 e).trans (hS.cap _).symm
 | yl _ _ _=>simp[D.gK] at hd
 | tW h hr _ ih=>rw[←hS.loc _];exact .tW (by rw[←hS.n];exact h) ((hS.mH _).trans hr) fun i s d h1 h2=>ih i s d h1 h2 (gm (by simpa[D.gK] using hd) h2)

theorem bU.T6 {w:World}{S S':Sets}{v:Value}{d:D}(h:bU w S v d)(hS:S.SR S')(hh:∀l rec,S.hold l=some rec→S'.hold l=some rec):bU w S' v d:=by
 induction h with
 | v h=>exact .v h
 | agg hl ho _ ih=>exact .agg hl ho ih
 | nil=>exact .nil
 | emp hm=>exact .emp hm
 | bq hl hc hm hz ho tU hw _ ih=>exact .bq hl hc hm hz ho (fun i e j d h1 h2=>hS.mem _ _ (tU i e j d h1 h2)) hw ih
 | ptr ho tU hw _ ih=>exact .ptr ho (fun j d h1=>hS.mem _ _ (tU j d h1)) hw ih
 | bh hl _ ih=>exact .bh hl ih
 | oO _ ih=>exact .oO ih
 | fn hl hl' _ _ ih RG=>exact .fn hl hl' ih RG
 | cq=>exact .cq
 | mp h=>rw[←hS.loc _];exact .mp (by rw[←hS.n];exact h)
 | loc h=>rw[←hS.loc _];exact .loc (by rw[←hS.n];exact h)
 | sl h hl hc h0=>rw[←hS.loc _];exact .sl (by rw[←hS.n];exact h) hl hc fun e=>(h0 e).trans (hS.cap _).symm
 | yl h _ ih=>exact .yl (hh _ _ h) ih
 | tW h hr _ ih=>rw[←hS.loc _];exact .tW (by rw[←hS.n];exact h) ((hS.mH _).trans hr) ih

def D.live:D→Bool
 | .aE _ _ _ | .iE _ | .itb _ _ _ | .oM _ | .cY _ _ | .ju _ _ _=>true
 | _=>false

def A8 (S:Sets)(i:Nat)(ob:Option Obj):D→Prop
 | .itb m n seen=>m<S.n∧ob=some (.mapIter (some (S.loc m)) n seen.toArray n)
 | .oM stop=>ob=some (.loop (bif stop then { (S.mH i).1 with state:=.done,pending:=some (S.mH i).2 } else(S.mH i).1))
 | .cY s pos=>ob=some (.stringIter s pos)
 | .ju g t vs=>S.loc i=g∧ob=some (.cells vs.toArray t (0,0))∧vs.all plain=true
 | _=>False

def D.isIt:D→Bool
 | .itb _ _ _ | .oM _ | .cY _ _ | .ju _ _ _=>true
 | _=>false

theorem A8.to {S S':Sets}{i:Nat}{ob:Option Obj}{z:D}(h:A8 S i ob z)(hn:S.n≤S'.n)(hl:∀i,i<S.n→S'.loc i=S.loc i)(hr:S'.mH i=S.mH i)(hi:i<S.n):A8 S' i ob z:=by
 cases z <;> first | exact h | skip
 ·exact⟨Nat.lt_of_lt_of_le h.1 hn,by rw[hl _ h.1];exact h.2⟩
 ·simp only[A8,hr];exact h
 ·exact⟨(hl _ hi).trans h.1,h.2⟩

theorem D.jQ {z:D}(h:z.isIt=true):z.live=true:=by cases z <;> first | rfl | cases h

theorem bU.one {w:World}{S:Sets}{v:Value}{d:D}(h:bU w S v d)(hd:d.one=true):v.oneCell'=true:=by
 cases h <;> first | exact Rh (by assumption) | rfl | simp[D.one] at hd

theorem bU.Pk {w:World}{S:Sets}{v x:Value}(h:bU w S v (.v x)):v=x∧plain x=true:=by
 cases h;exact⟨rfl,by assumption⟩

theorem bU.lV {w:World}{S:Sets}{v:Value}{ds:List D}(h:bU w S v (.agg ds)):∃vs:Array Value,v=.agg vs∧vs.size=ds.length∧(∀(i:Nat) (d:D),ds[i]? = some d→d.one=true) ∧
  ∀(i:Nat) (v:Value) (d:D),vs[i]? = some v→ds[i]? = some d→bU w S v d:=by
 cases h;exact⟨_,rfl,by assumption,by assumption,by assumption⟩

theorem bU.Ci {w:World}{S:Sets}{v:Value}{ds:List D}(h:bU w S v (.bh ds)):∃vs:Array Value,v=.tuple vs∧vs.size=ds.length ∧
  ∀(i:Nat) (v:Value) (d:D),vs[i]? = some v→ds[i]? = some d→bU w S v d:=by
 cases h;exact⟨_,rfl,by assumption,by assumption⟩

/-! ## Expressions -/

inductive Kd where
 | int | bool | str | ptr | agg (ks:List Nat) | mp
 deriving DecidableEq,Repr,Inhabited

inductive MOp where
 | aaA | abR | get (kd:Kd) (agg:Bool) | VO (kd:Kd) | put (kd:Kd) | del (kd:Kd) | aaC | UQ (neg:Bool) | Hz (t:TypeId) | UI | same | rng | next | entry | V2 (kd:Kd) | ab0 (kd:Kd) | om | eG | tN (len size:Nat) | eJ | Qix | anH | snh | snv | anq | gix (g len sz:Nat) | sib | Qhj | tw (e:TypeId) (n:Nat) | usd | aiq (e:TypeId) | aaO (e:TypeId) | asl (n sz:Nat) | oY | m0 (t:TypeId) | peq (neg:Bool) | anW | anX
 deriving DecidableEq,Repr,Inhabited

inductive E where
 | sym (k:Nat)
 | const (d:D)
 | bin (op:BinOp) (kd:Kd) (a b:E)
 | un (op:UnOp) (a:E)
 | conv (k:IntKind) (a:E)
 | aR (a:E)
 | uJ (a:E)
 | bt (a:E)
 | cell (i:Nat) (a:E)
 | cells (i n:Nat) (a:E)
 | bB (n:Nat) (a:E)
 | idx (a i:E)
 | uS (n:Nat) (a i:E)
 | nil
 | cons (a b:E)
 | one (a:E)
 | app (size bytes:Nat) (a b:E)
 | bz (a b:E)
 | gE (a:E)
 | gV (f:FuncId) (a b:E)
 | sub (size:Nat) (a lo hi:E)
 | set (a i:E) (off:Nat) (x:E)
 | ite (c a b:E)
 | guard (c:E) (want:Bool) (a:E)
 | ax
 | aa (a b:E)
 | Qrx (i:Nat) (a:E)
 | rep (bytes:Nat) (n:E) (d:D)
 | deref (a:E)
 | oO (t:TypeId) (a:E)
 | mm (max:Bool) (a b:E)
 | ay (off:Nat) (a:E)
 | nn (a:E)
 | aj (size:Nat) (a i:E)
 | ld (agg:Bool) (n:Nat) (h p:E)
 | gQ (n:Nat) (h p y:E)
 | cI (e:TypeId) (sz:Nat) (h y:E)
 | aU (h:E)
 | a_ (e:TypeId) (sz:Nat) (h l:E)
 | bO (h l:E)
 | fU (e:TypeId) (sz bytes:Nat) (h x y:E)
 | apps (h x y:E)
 | ve (agg:Bool) (h x:E)
 | vf (h x:E)
 | m4 (op:MOp) (a b c d:E)
 deriving Inhabited

def mq (op:BinOp)(a b:Int):Option Bool:=
 match op with
 | .eql=>some (a==b)
 | .neq=>some (a != b)
 | .lss=>some (a<b)
 | .leq=>some (a≤b)
 | .gtr=>some (a > b)
 | .geq=>some (a≥b)
 | _=>none

def O7 (op:BinOp)(k:IntKind)(a b:Int):Option Int:=
 match op with
 | .add=>some (k.wrap (a+b))
 | .sub=>some (k.wrap (a-b))
 | .mul=>some (k.wrap (a*b))
 | .quo=>if b=0 then none else some (k.wrap (a.tdiv b))
 | .rem=>if b=0 then none else some (a.tmod b)
 | .and=>some (k.wrap (BitVec.ofInt k.bits a &&& BitVec.ofInt k.bits b).toNat)
 | .or=>some (k.wrap (BitVec.ofInt k.bits a ||| BitVec.ofInt k.bits b).toNat)
 | .xor=>some (k.wrap (BitVec.ofInt k.bits a ^^^ BitVec.ofInt k.bits b).toNat)
 | .andNot=>some (k.wrap (BitVec.ofInt k.bits a &&& ~~~(BitVec.ofInt k.bits b)).toNat)
 | _=>none

def shI (op:BinOp)(k:IntKind)(a b:Int):Option Int:=
 if b<0 then none else
 match op with
 | .shl=>some (k.wrap (a*2 ^ (min b.toNat k.bits)))
 | .shr=>some (a.fdiv (2 ^ (min b.toNat k.bits)))
 | _=>none

def D.eqs:List Nat→List D→List D→Option Bool
 | [],[],[]=>some true
 | 0 :: ks,.v (.int k a) :: r,.v (.int k' b) :: s=>if k=k' then(D.eqs ks r s).map (a==b&&·) else none
 | 1 :: ks,.v (.bool a) :: r,.v (.bool b) :: s=>(D.eqs ks r s).map (a==b&&·)
 | 2 :: ks,.v (.string a) :: r,.v (.string b) :: s=>(D.eqs ks r s).map (a.toList==b.toList&&·)
 | _,_,_=>none

def D.bin (op:BinOp)(kd:Kd)(x y:D):Option D:=
 match kd,x,y with
 | .int,.v (.int k a),.v (.int k' b)=>
  match op with
  | .shl | .shr=>(shI op k a b).map fun n=>.v (.int k n)
  | _=>if k=k' then(match mq op a b with | some r=>some (.v (.bool r)) | none=>(O7 op k a b).map fun n=>.v (.int k n)) else none
 | .bool,.v (.bool a),.v (.bool b)=>(match op with | .eql=>some (.v (.bool (a==b))) | .neq=>some (.v (.bool (!(a==b)))) | _=>none)
 | .str,.v (.string a),.v (.string b)=>
  (match op with
   | .add=>if((a.size+b.size:Nat):Int) > IntKind.i64.max then none else some (.v (.string (a++b)))
   | .eql=>some (.v (.bool (a.toList==b.toList)))
   | .neq=>some (.v (.bool (!(a.toList==b.toList))))
   | .lss=>some (.v (.bool (Op.bytesLess a.toList b.toList)))
   | .leq=>some (.v (.bool (Op.bytesLess a.toList b.toList||a.toList==b.toList)))
   | .gtr=>some (.v (.bool (!(Op.bytesLess a.toList b.toList||a.toList==b.toList))))
   | .geq=>some (.v (.bool (!(Op.bytesLess a.toList b.toList))))
   | _=>none)
 | .ptr,.v (.pointer none),.v (.pointer none)=>(match op with | .eql=>some (.v (.bool true)) | .neq=>some (.v (.bool false)) | _=>none)
 | .ptr,.loc _ _,.v (.pointer none) | .ptr,.v (.pointer none),.loc _ _=>(match op with | .eql=>some (.v (.bool false)) | .neq=>some (.v (.bool true)) | _=>none)
 | .ptr,.ptr _,.v (.pointer none) | .ptr,.v (.pointer none),.ptr _=>(match op with | .eql=>some (.v (.bool false)) | .neq=>some (.v (.bool true)) | _=>none)
 | .mp,.mp _,.v (.map none)=>(match op with | .eql=>some (.v (.bool false)) | .neq=>some (.v (.bool true)) | _=>none)
 | .mp,.v (.map none),.v (.map none)=>(match op with | .eql=>some (.v (.bool true)) | .neq=>some (.v (.bool false)) | _=>none)
 | .agg ks,.agg xs,.agg ys=>(match op with | .eql=>(D.eqs ks xs ys).map fun b=>.v (.bool b) | .neq=>(D.eqs ks xs ys).map fun b=>.v (.bool (!b)) | _=>none)
 | _,_,_=>none

def D.un (op:UnOp)(x:D):Option D:=
 match op,x with
 | .not,.v (.bool b)=>some (.v (.bool (!b)))
 | .neg,.v (.int k n)=>some (.v (.int k (k.wrap (0-n))))
 | _,_=>none

def D.conv (k:IntKind)(x:D):Option D:=
 match x with
 | .v (.int _ n)=>some (.v (.int k (k.wrap n)))
 | _=>none

def D.aR (x:D):Option D:=
 match x with
 | .bq es=>some (.v (.int .i64 es.length))
 | .sl _ _ n=>some (.v (.int .i64 n))
 | .cq=>some (.v (.int .i64 0))
 | _=>none

def D.uJ (x:D):Option D:=
 match x with
 | .v (.string s)=>some (.v (.int .i64 s.size))
 | _=>none

def D.bt (x:D):Option D:=if x.one=true then some x else none

def D.cell (i:Nat)(x:D):Option D:=x.cells[i]?

def D.part (i n:Nat)(x:D):Option D:=
 match x with
 | .agg cs=>if i+n≤cs.length then some (.agg ((cs.drop i).take n)) else none
 | _=>none

def D.bB (n:Nat)(x:D):Option D:=
 match x with
 | .agg cs=>if cs.length=n then some x else none
 | _=>none

def D.idx (x i:D):Option D:=
 match x,i with
 | .bq es,.v (.int _ n)=>if 0≤n then es[n.toNat]? else none
 | _,_=>none

def D.uS (n:Nat)(x i:D):Option D:=(D.idx x i).bind fun e=>if e.cells.length=n then some e else none

def D.cons (x y:D):Option D:=
 match x,y with
 | .bh _,_=>none
 | x,.agg cs=>some (.agg (x.cells++cs))
 | _,_=>none

def bK (size:Nat)(xs:List D):Bool:=xs.all fun e=>e.cells.length==size

theorem oZ {size:Nat}{xs:List D}(h:bK size xs=true){i:Nat}{e:D}(he:xs[i]? = some e):e.cells.length=size:=by
 have:=List.all_eq_true.1 h e (List.mem_of_getElem? he)
 simpa using this

def D.app (size bytes:Nat)(x y:D):Option D:=
 match x,y with
 | .bq xs,.bq ys=>if(xs.length+ys.length)*bytes≤140737488355328∧xs.length+ys.length≤maxLen∧bK size xs=true∧bK size ys=true then some (.bq (xs++ys)) else none
 | _,_=>none

def D.bz (x y:D):Option D:=
 match y with
 | .bq ys=>some (.bq (x :: ys))
 | _=>none

def D.gE (x:D):Option D:=
 match x with
 | .agg cs=>some (.ptr cs)
 | _=>none

def D.gV (f:FuncId)(x y:D):Option D:=
 match x,y with
 | .bh ds,.bh es=>some (.fn f ds es)
 | _,_=>none

def D.sub (size:Nat)(x lo hi:D):Option D:=
 match x,lo,hi with
 | .bq es,.v (.int _ l),.v (.int _ h)=>if 0≤l∧l≤h∧h≤(es.length:Int)∧bK size es=true then some (.bq ((es.drop l.toNat).take (h-l).toNat)) else none
 | .sl i off len,.v (.int _ l),.v (.int _ h)=>if 0≤l∧l≤h∧h≤(len:Int)∧0<size then(if l<h∨l=0 then some (.sl i (off+l.toNat*size) (h-l).toNat) else some (.bq [])) else none
 | .cq,.v (.int _ l),.v (.int _ h)=>if l=0∧h=0 then some .cq else none
 | _,_,_=>none

def D.putAt (e:D)(off:Nat)(x:D):Option D:=
 match e with
 | .agg cs=>if off+x.cells.length≤cs.length then some (.agg (cs.take off++x.cells++cs.drop (off+x.cells.length))) else none
 | _=>if off=0∧x.one=true then some x else none

def D.set (a i:D)(off:Nat)(x:D):Option D:=
 match a,i with
 | .bq es,.v (.int _ n)=>if 0≤n then(es[n.toNat]?).bind fun e=>(e.putAt off x).map fun e'=>.bq (es.set n.toNat e') else none
 | _,_=>none

def D.aa (x y:D):Option D:=
 match y with
 | .bh ds=>some (.bh (x :: ds))
 | _=>none

def D.Qrx (i:Nat)(x:D):Option D:=
 match x with
 | .bh ds=>ds[i]?
 | _=>none

def D.rep (bytes:Nat)(n:D)(d:D):Option D:=
 match n with
 | .v (.int .i64 k)=>if 0≤k∧k.toNat*bytes≤140737488355328∧k.toNat≤maxLen then some (.bq (List.replicate k.toNat d)) else none
 | _=>none

def D.deref (x:D):Option D:=
 match x with
 | .ptr cs=>some (.agg cs)
 | _=>none

def D.ay (off:Nat)(x:D):Option D:=
 match x with
 | .ptr cs=>some (.ptr (cs.drop off))
 | .loc i o=>some (.loc i (o+off))
 | _=>none

def D.nn (x:D):Option D:=
 match x with
 | .ptr cs=>some (.ptr cs)
 | .loc i o=>some (.loc i o)
 | .fn f ds es=>some (.fn f ds es)
 | _=>none

def D.aj (size:Nat)(x i:D):Option D:=
 match x,i with
 | .bq es,.v (.int _ n)=>if 0≤n then(es[n.toNat]?).bind fun e=>if e.cells.length=size then some (.ptr e.cells) else none else none
 | .sl j off len,.v (.int _ n)=>if 0≤n∧n<(len:Int) then some (.loc j (off+n.toNat*size)) else none
 | _,_=>none

def D.tN (len size:Nat)(x i:D):Option D:=
 match i with
 | .v (.int _ n)=>if 0≤n∧n<(len:Int) then D.ay (n.toNat*size) x else none
 | _=>none

def D.gF (h:D)(i:Nat):Option (TypeId×Nat×List D):=
 match h with
 | .st bs=>match bs[i]? with
  | some (.aE e sz cs)=>some (e,sz,cs)
  | _=>none
 | _=>none

def D.asj (h:D)(i:Nat):Option (List D):=
 match h with
 | .st bs=>match bs[i]? with
  | some (.ju _ _ vs)=>some (vs.map D.v)
  | _=>none
 | _=>none

def D.Qly (h:D)(i:Nat):Option (List D):=
 match D.gF h i with
 | some b=>some b.2.2
 | none=>D.asj h i

def D.ld (agg:Bool)(n:Nat)(h p:D):Option D:=
 match p with
 | .ptr cs=>if agg then(if n≤cs.length then some (.agg (cs.take n)) else none) else cs[0]?
 | .loc i off=>(D.Qly h i).bind fun cs=>if agg then(if off+n≤cs.length then some (.agg ((cs.drop off).take n)) else none) else cs[off]?
 | _=>none

def D.gQ (n:Nat)(h p y:D):Option D:=
 match p,h with
 | .loc i off,.st bs=>(D.gF h i).bind fun b=>if y.cells.length=n∧off+n≤b.2.2.length∧y.cells.all (·.one)=true then some (.st (bs.set i (.aE b.1 b.2.1 (b.2.2.take off++y.cells++b.2.2.drop (off+n))))) else none
 | _,_=>none

def D.cI (e:TypeId)(sz:Nat)(h y:D):Option D:=
 match h,y with
 | .st bs,.agg cs=>if cs.all (·.one)=true then some (.st (bs++[.aE e sz cs])) else none
 | _,_=>none

def D.aU (h:D):Option D:=
 match h with
 | .st bs=>some (.loc bs.length 0)
 | _=>none

def Qrj (es:List D):List D:=es.flatMap D.cells

def D.a_ (e:TypeId)(sz:Nat)(h l:D):Option D:=
 match h,l with
 | .st bs,.bq es=>if bK sz es=true∧(Qrj es).all (·.one)=true then some (.st (bs++[.aE e sz (Qrj es)])) else none
 | _,_=>none

def D.bO (h l:D):Option D:=
 match h,l with
 | .st bs,.bq es=>some (.sl bs.length 0 es.length)
 | _,_=>none

def chunks (sz:Nat):Nat→List D→List (List D)
 | 0,_=>[]
 | n+1,cs=>cs.take sz :: chunks sz n (cs.drop sz)

def D.JN (h:D)(sz:Nat)(y:D):Option (List D):=
 match y with
 | .bq ys=>some ys
 | .cq=>some []
 | .sl j off m=>if m=0 then some [] else(D.gF h j).bind fun b=>if off+m*sz≤b.2.2.length then some ((chunks sz m (b.2.2.drop off)).map .agg) else none
 | _=>none

def D.cnt:D→Option Nat
 | .bq ys=>some ys.length
 | .cq=>some 0
 | .sl _ _ m=>some m
 | _=>none

def D.fU (e:TypeId)(sz bytes:Nat)(h x y:D):Option D:=
 match h,x,D.JN h sz y with
 | .st bs,.cq,some ys=>if ys=[] then some (.st bs) else
   if ys.length*bytes≤140737488355328∧ys.length≤maxLen∧bK sz ys=true∧(Qrj ys).all (·.one)=true then some (.st (bs++[.aE e sz (Qrj ys)])) else none
 | .st bs,.sl i off n,some ys=>if ys=[] then some (.st bs) else
   (D.gF (.st bs) i).bind fun b=>if off=0∧b.1=e∧b.2.1=sz∧b.2.2.length=n*sz∧(n+ys.length)*bytes≤140737488355328∧n+ys.length≤maxLen∧bK sz ys=true∧(Qrj ys).all (·.one)=true then
    some (.st (bs.set i (.bh [])++[.aE e sz (b.2.2++Qrj ys)])) else none
 | _,_,_=>none

def D.apps (h x y:D):Option D:=
 match h,x,D.cnt y with
 | .st bs,.cq,some m=>if m=0 then some .cq else some (.sl bs.length 0 m)
 | .st bs,.sl i off n,some m=>if m=0 then some (.sl i off n) else some (.sl bs.length 0 (n+m))
 | _,_,_=>none

def XQ (agg:Bool)(c:List D):D:=
 match agg,c with
 | false,[d]=>d
 | _,c=>.agg c

def D.ve (agg:Bool)(h x:D):Option D:=
 match h,x with
 | _,.cq=>some (.bq [])
 | .st bs,.sl i off n=>(D.gF (.st bs) i).bind fun b=>if off=0∧b.2.2.length=n*b.2.1∧0<b.2.1∧(agg=true∨b.2.1=1)∧b.2.2.all (·.one)=true then some (.bq ((chunks b.2.1 n b.2.2).map (XQ agg))) else none
 | _,.sl _ _ _=>none
 | _,x=>some x

def D.vf (h x:D):Option D:=
 match h,x with
 | .st bs,.sl i _ _=>some (.st (bs.set i (.bh [])))
 | h,_=>some h

def D.mm (max:Bool)(x y:D):Option D:=
 match x,y with
 | .v (.int k a),.v (.int k' b)=>if k=k' then some (.v (.int k (if max then(if b > a then b else a) else(if b<a then b else a)))) else none
 | _,_=>none

def D.Ea (kd:Kd)(x y:D):Option Bool:=
 match D.bin .eql kd x y with
 | some (.v (.bool b))=>some b
 | _=>none

def D.Kx (kd:Kd)(k:D):List D→Nat→Option (Option (Nat×D))
 | [],_=>some none
 | .bh [k',u] :: r,i=>match D.Ea kd k k' with
  | some true=>some (some (i,u))
  | some false=>D.Kx kd k r (i+1)
  | none=>none
 | _ :: _,_=>none

def D.P9 (kd:Kd)(k:D):Bool:=
 match kd,k with
 | .agg ks,.agg cs=>cs.length==ks.length
 | .agg _,_=>false
 | _,_=>true

def D.uD (kd:Kd)(k:D)(dL:List D):Option (Option (Nat×D)):=if D.P9 kd k=true then D.Kx kd k dL 0 else none

def D.lost:List D→Bool
 | .bh [] :: _=>true
 | _=>false
def D.kept:List D→List D
 | .bh [] :: r=>r
 | l=>l

theorem D.acT {kd:Kd}{k:D}{l:List D}{r:Option (Nat×D)}(h:D.uD kd k l=some r):D.lost l=false:=by
 unfold D.uD at h
 split at h
 ·unfold D.lost
  split
  ·simp[D.Kx] at h
  ·rfl
 ·cases h

theorem D.acF {l:List D}(h:D.lost l=false):D.kept l=l:=by
 unfold D.lost at h
 unfold D.kept
 split
 ·cases h
 ·rfl

def D.entries (h m:D):Option (List D):=
 match m with
 | .v (.map none)=>some []
 | .mp i=>(match h with
  | .st bs=>(match bs[i]? with
   | some (.iE dL)=>some (D.kept dL)
   | _=>none)
  | _=>none)
 | _=>none

def D.Ul (kd:Kd)(h m k u:D):Option D:=
 match m,h with
 | .mp i,.st bs=>(match bs[i]? with
  | some (.iE dL)=>(D.uD kd k dL).map fun r=>match r with
   | none=>.st (bs.set i (.iE (dL++[.bh [k,u]])))
   | some (j,_)=>.st (bs.set i (.iE (dL.set j (.bh [k,u]))))
  | _=>none)
 | _,_=>none

def D.aj1 (kd:Kd)(h m k:D):Option D:=
 match m,h with
 | .mp i,.st bs=>(match bs[i]? with
  | some (.iE dL)=>(D.uD kd k (D.kept dL)).map fun r=>match r with
   | none=>.st (bs.set i (.iE dL))
   | some (j,_)=>.st (bs.set i (.iE (.bh [] :: (D.kept dL).eraseIdx j)))
  | _=>none)
 | _,_=>none

mutual
def D.iw:D→Bool
 | .v _ | .cq=>true
 | .agg cs | .bq cs | .ptr cs | .bh cs=>eG cs
 | .oO _ d=>d.iw
 | .fn _ a b=>eG a&&eG b
 | .loc _ _ | .sl _ _ _ | .aE _ _ _ | .mp _ | .iE _ | .itb _ _ _ | .st _ | .yl _ _ _ _ | .oM _ | .cY _ _ | .ju _ _ _ | .tW _ _ _ _=>false
def eG:List D→Bool
 | []=>true
 | d :: r=>d.iw&&eG r
end

theorem ji:∀{ds:List D} {i:Nat} {d:D},eG ds=true→ds[i]? = some d→d.iw=true
 | [],_,_,_,h=>by simp at h
 | x :: r,0,d,h,hi=>by simp[eG] at h hi;exact hi ▸ h.1
 | x :: r,i+1,d,h,hi=>by simp[eG] at h hi;exact ji h.2 hi

theorem Nn {d c:D}{j:Nat}(h:d.iw=true)(hc:d.cells[j]? = some c):c.iw=true:=by
 cases d <;> first
 |(simp only[D.cells] at hc;simp only[D.iw] at h;exact ji h hc)
 |(cases j with
    | zero=>simp only[D.cells,List.getElem?_cons_zero,Option.some.injEq] at hc;subst hc;exact h
    | succ j=>simp[D.cells] at hc)

theorem bU.free {w:World}{S S':Sets}{v:Value}{d:D}(h:bU w S v d)(hS:∀b o,S b o→S' b o)(hd:d.iw=true):bU w S' v d:=by
 induction h with
 | v h=>exact .v h
 | agg hl ho _ ih=>exact .agg hl ho fun i v d h1 h2=>ih i v d h1 h2 (ji (by simpa[D.iw] using hd) h2)
 | nil=>exact .nil
 | emp hm=>exact .emp hm
 | bq hl hc hm hz ho tU hw _ ih=>exact .bq hl hc hm hz ho (fun i e j d h1 h2=>hS _ _ (tU i e j d h1 h2)) hw fun i e j d h1 h2=>ih i e j d h1 h2 (Nn (ji (by simpa[D.iw] using hd) h1) h2)
 | ptr ho tU hw _ ih=>exact .ptr ho (fun j d h1=>hS _ _ (tU j d h1)) hw fun j d h1=>ih j d h1 (ji (by simpa[D.iw] using hd) h1)
 | bh hl _ ih=>exact .bh hl fun i v d h1 h2=>ih i v d h1 h2 (ji (by simpa[D.iw] using hd) h2)
 | oO _ ih=>exact .oO (ih (by simpa[D.iw] using hd))
 | fn hl hl' _ _ ih RG=>
  simp only[D.iw,Bool.and_eq_true] at hd
  exact .fn hl hl' (fun i v d h1 h2=>ih i v d h1 h2 (ji hd.1 h2)) fun i v d h1 h2=>RG i v d h1 h2 (ji hd.2 h2)
 | cq=>exact .cq
 | mp _ | loc _ | sl _ _ _ _ | yl _ _ _ | tW _ _ _ _=>simp[D.iw] at hd

theorem bU.DI {w:World}{S S':Sets}{v:Value}{d:D}(h:bU w S v d)(hS:∀b o,S b o→S' b o)(hn:S.n=0)(hh:∀l,S.hold l=none):bU w S' v d:=by
 induction h with
 | v h=>exact .v h
 | agg hl ho _ ih=>exact .agg hl ho ih
 | nil=>exact .nil
 | emp hm=>exact .emp hm
 | bq hl hc hm hz ho tU hw _ ih=>exact .bq hl hc hm hz ho (fun i e j d h1 h2=>hS _ _ (tU i e j d h1 h2)) hw ih
 | ptr ho tU hw _ ih=>exact .ptr ho (fun j d h1=>hS _ _ (tU j d h1)) hw ih
 | bh hl _ ih=>exact .bh hl ih
 | oO _ ih=>exact .oO ih
 | fn hl hl' _ _ ih RG=>exact .fn hl hl' ih RG
 | cq=>exact .cq
 | mp h=>omega
 | loc h=>omega
 | sl h _ _ _=>omega
 | yl h _ _=>rw[hh] at h;cases h
 | tW h _ _ _=>omega

def An (dL:List D)(j:Nat):Option (D×D):=
 match dL[j]? with
 | some (.bh [k,u])=>some (k,u)
 | _=>none

def D.P3 (kd:Kd)(h m k z:D):Option D:=
 (D.entries h m).bind fun dL=>(D.uD kd k dL).map fun r=>match r with
  | none=>.bh [z,.int dL.length]
  | some (j,u)=>.bh [u,.int j]

def D.Up (kd:Kd)(h m k z:D):Option D:=
 match m,h with
 | .mp i,.st bs=>(match bs[i]? with
  | some (.iE dL)=>(D.uD kd k dL).map fun r=>match r with
   | none=>.st (bs.set i (.iE (dL++[.bh [k,z]])))
   | some (j,u)=>.st (bs.set i (.iE (dL.set j (.bh [k,u]))))
  | _=>none)
 | _,_=>none

def D.Uo (h m s x:D):Option D:=
 match m,h,s with
 | .mp i,.st bs,.v (.int .i64 n)=>(match bs[i]? with
  | some (.iE dL)=>if 0≤n∧D.lost dL=false then(An dL n.toNat).map fun e=>.st (bs.set i (.iE (dL.set n.toNat (.bh [e.1,x])))) else none
  | _=>none)
 | _,_,_=>none

def D.aaB (h m:D):Option D:=
 match m,h with
 | .mp i,.st bs=>(match bs[i]? with
  | some (.iE dL)=>if D.lost dL=true then none else some (.st (bs++[.itb i dL.length []]))
  | _=>none)
 | _,_=>none

def D.place (h p:D):Option (List D×Nat×Nat×Nat×List Nat×List D):=
 match h,p with
 | .st bs,.loc i 0=>(match bs[i]? with
  | some (.itb m n seen)=>(match bs[m]? with
   | some (.iE dL)=>if dL.length=n∧D.lost dL=false then some (bs,i,m,n,seen,dL) else none
   | _=>none)
  | _=>none)
 | _,_=>none

def D8 (n:Nat)(seen:List Nat):List Nat:=(List.range n).filter fun j=>!seen.contains j

def D.Um (h p:D):Option D:=
 (D.place h p).map fun q=>.bq (if(D8 q.2.2.2.1 q.2.2.2.2.1).isEmpty=true then[.bh [.bh [.bool false],.st q.1]]
  else(D8 q.2.2.2.1 q.2.2.2.2.1).filterMap fun j=>(An q.2.2.2.2.2 j).map fun e=>.bh [.bh [.bool true,e.1,e.2],.st (q.1.set q.2.1 (.itb q.2.2.1 q.2.2.2.1 (q.2.2.2.2.1++[j])))])

def D.Nq (h p:D):Option D:=
 (D.place h p).bind fun q=>q.2.2.2.2.1.getLast?.bind fun j=>(An q.2.2.2.2.2 j).map fun e=>.bh [e.1,e.2]

def Value.same:Value→Value→Bool
 | .bool a,.bool b=>a==b
 | .int k a,.int k' b=>decide (k=k')&&decide (a=b)
 | .string a,.string b=>decide (a.data=b.data)
 | .pointer none,.pointer none=>true
 | .map none,.map none=>true
 | .nilFunc,.nilFunc=>true
 | .nilIface,.nilIface=>true
 | _,_=>false

theorem Value.dU {a b : Value} (h : Value.same a b = true) : a = b := by
  unfold Value.same at h
  split at h <;> first
    | rfl
    | (simp only [beq_iff_eq] at h; rw [h])
    | (simp only [Bool.and_eq_true, decide_eq_true_eq] at h; rw [h.1, h.2])
    | (rename_i x y; simp only [decide_eq_true_eq] at h; cases x; cases y; simp only at h; rw [h])
    | cases h

def Value.jJ:List Value→List Value→Bool
 | [],[]=>true
 | a :: r,b :: s=>Value.same a b&&Value.jJ r s
 | _,_=>false

theorem Value.gb:∀{a b:List Value},Value.jJ a b=true→a=b
 | [],[],_=>rfl
 | a :: r,b :: s,h=>by
  simp only[Value.jJ,Bool.and_eq_true] at h
  rw[Value.dU h.1,Value.gb h.2]
 | [],_ :: _,h | _ :: _,[],h=>by simp[Value.jJ] at h

mutual
def D.same:D→D→Bool
 | .v a,.v b=>Value.same a b
 | .agg a,.agg b=>D.jJ a b
 | .bq a,.bq b=>D.jJ a b
 | .bh a,.bh b=>D.jJ a b
 | .ptr a,.ptr b=>D.jJ a b
 | .cq,.cq=>true
 | .loc i o,.loc i' o'=>decide (i=i')&&decide (o=o')
 | .sl i o n,.sl i' o' n'=>decide (i=i')&&decide (o=o')&&decide (n=n')
 | .mp i,.mp i'=>decide (i=i')
 | .oO t a,.oO t' b=>decide (t=t')&&D.same a b
 | .fn f a b,.fn g c d=>decide (f=g)&&D.jJ a c&&D.jJ b d
 | .aE e s a,.aE e' s' b=>decide (e=e')&&decide (s=s')&&D.jJ a b
 | .iE a,.iE b=>D.jJ a b
 | .itb m n s,.itb m' n' s'=>decide (m=m')&&decide (n=n')&&decide (s=s')
 | .oM b,.oM c=>b==c
 | .cY s n,.cY s' n'=>decide (s=s')&&decide (n=n')
 | .ju g t a,.ju g' t' b=>decide (g=g')&&decide (t=t')&&Value.jJ a b
 | .st a,.st b=>D.jJ a b
 | _,_=>false
def D.jJ:List D→List D→Bool
 | [],[]=>true
 | a :: r,b :: s=>a.same b&&D.jJ r s
 | _,_=>false
end

mutual
theorem D.dU:∀{a b:D},D.same a b=true→a=b
 | .v a,b,h=>by cases b <;> first | exact congrArg D.v (Value.dU (by simpa[D.same] using h)) | simp[D.same] at h
 | .agg a,b,h=>by cases b <;> first | exact congrArg D.agg (D.gb (by simpa[D.same] using h)) | simp[D.same] at h
 | .bq a,b,h=>by cases b <;> first | exact congrArg D.bq (D.gb (by simpa[D.same] using h)) | simp[D.same] at h
 | .bh a,b,h=>by cases b <;> first | exact congrArg D.bh (D.gb (by simpa[D.same] using h)) | simp[D.same] at h
 | .ptr a,b,h=>by cases b <;> first | exact congrArg D.ptr (D.gb (by simpa[D.same] using h)) | simp[D.same] at h
 | .cq,b,h=>by cases b <;> first | rfl | simp[D.same] at h
 | .loc _ _,b,h=>by cases b <;> first | (simp only[D.same,Bool.and_eq_true,decide_eq_true_eq] at h;rw[h.1,h.2]) | simp[D.same] at h
 | .sl _ _ _,b,h=>by cases b <;> first | (simp only[D.same,Bool.and_eq_true,decide_eq_true_eq] at h;rw[h.1.1,h.1.2,h.2]) | simp[D.same] at h
 | .mp _,b,h=>by cases b <;> first | (simp only[D.same,decide_eq_true_eq] at h;rw[h]) | simp[D.same] at h
 | .oO t a,b,h=>by cases b <;> first | (simp only[D.same,Bool.and_eq_true,decide_eq_true_eq] at h;rw[h.1,D.dU h.2]) | simp[D.same] at h
 | .fn f a b,c,h=>by
  cases c <;> first | (simp only[D.same,Bool.and_eq_true,decide_eq_true_eq] at h;rw[h.1.1,D.gb h.1.2,D.gb h.2]) | simp[D.same] at h
 | .aE _ _ _,b,h=>by cases b <;> first | (simp only[D.same,Bool.and_eq_true,decide_eq_true_eq] at h;rw[h.1.1,h.1.2,D.gb h.2]) | simp[D.same] at h
 | .iE a,b,h=>by cases b <;> first | exact congrArg D.iE (D.gb (by simpa[D.same] using h)) | simp[D.same] at h
 | .st a,b,h=>by cases b <;> first | exact congrArg D.st (D.gb (by simpa[D.same] using h)) | simp[D.same] at h
 | .itb _ _ _,b,h=>by cases b <;> first | (simp only[D.same,Bool.and_eq_true,decide_eq_true_eq] at h;rw[h.1.1,h.1.2,h.2]) | simp[D.same] at h
 | .oM _,b,h=>by cases b <;> first | (simp only[D.same,beq_iff_eq] at h;rw[h]) | simp[D.same] at h
 | .cY _ _,b,h=>by cases b <;> first | (simp only[D.same,Bool.and_eq_true,decide_eq_true_eq] at h;rw[h.1,h.2]) | simp[D.same] at h
 | .ju _ _ _,b,h=>by cases b <;> first | (simp only[D.same,Bool.and_eq_true,decide_eq_true_eq] at h;rw[h.1.1,h.1.2,Value.gb h.2]) | simp[D.same] at h
 | .yl _ _ _ _,_,h | .tW _ _ _ _,_,h=>by simp[D.same] at h
theorem D.gb:∀{a b:List D},D.jJ a b=true→a=b
 | [],[],_=>rfl
 | a :: r,b :: s,h=>by
  simp only[D.jJ,Bool.and_eq_true] at h
  rw[D.dU h.1,D.gb h.2]
 | [],_ :: _,h | _ :: _,[],h=>by simp[D.jJ] at h
end

def D.eJ (x i:D):Option D:=
 match x,i with
 | .v (.string s),.v (.int _ n)=>if 0≤n then(s[n.toNat]?).map fun b=>.v (.int .u8 b.toNat) else none
 | _,_=>none

def D.Qix (x l h:D):Option D:=
 match x,l,h with
 | .v (.string s),.v (.int _ a),.v (.int _ b)=>if 0≤a∧a≤b∧b≤s.size then some (.v (.string (s.extract a.toNat b.toNat))) else none
 | _,_,_=>none

def bytesOf:List D→Option (List Int)
 | []=>some []
 | e :: r=>match e.cells with
  | [.v (.int .u8 n)]=>(bytesOf r).map (n :: ·)
  | _=>none

def D.anq (x:D):Option D:=
 match x with
 | .bq es=>(bytesOf es).map fun ns=>.v (.string (strOfNums ns))
 | _=>none

def D.anH (h s:D):Option D:=
 match h,s with
 | .st bs,.v (.string s)=>some (.st (bs++[.cY s 0]))
 | _,_=>none

def D.anM (h p:D):Option (List D×Nat×ByteArray×Nat):=
 match h,p with
 | .st bs,.loc i 0=>(match bs[i]? with
  | some (.cY s n)=>some (bs,i,s,n)
  | _=>none)
 | _,_=>none

def D.snh (h p:D):Option D:=(D.anM h p).map fun q=>.st (if q.2.2.2<q.2.2.1.size then q.1.set q.2.1 (.cY q.2.2.1 (q.2.2.2+(Utf8.decode q.2.2.1 q.2.2.2).2)) else q.1)

def D.snv (h p:D):Option D:=(D.anM h p).map fun q=>if q.2.2.2<q.2.2.1.size then .bh [.bool true,.int q.2.2.2,.v (.int .i32 (Utf8.decode q.2.2.1 q.2.2.2).1)] else .bh [.bool false]

def lO (g:Nat):List D→Nat→Option Nat
 | [],_=>none
 | .ju g' _ _ :: r,j=>if g'=g then some j else lO g r (j+1)
 | _ :: r,j=>lO g r (j+1)

def D.gix (g len sz:Nat)(h i:D):Option D:=
 match h,i with
 | .st bs,.v (.int _ n)=>if 0≤n∧n<(len:Int) then(lO g bs 0).map fun j=>.loc j (n.toNat*sz) else none
 | _,_=>none

def D.sib (x c:D):Option D:=
 match x,c with
 | .v (.string s),.v (.int .u8 c)=>some (.int (firstIdx s c.toNat.toUInt8))
 | _,_=>none

def cX (s:ByteArray):List D:=s.data.toList.map fun b=>.v (.int .u8 b.toNat)

def D.Qhj (x:D):Option D:=
 match x with
 | .v (.string s)=>if s.size≤maxLen then some (.bq (cX s)) else none
 | _=>none

def D.tw (e:TypeId)(n:Nat)(h p:D):Option D:=
 match p with
 | .v (.pointer none)=>some p
 | .loc i 0=>(D.gF h i).bind fun b=>if b.1=e∧n≤b.2.2.length then some p else none
 | _=>none

def D.anW (h x:D):Option D:=
 match h,x with
 | .st bs,.oO t (.mp i)=>(match bs[i]? with
  | some (.iE _)=>some (.oO t (.mp bs.length))
  | _=>none)
 | _,_=>none

def D.anX (h x:D):Option D:=
 match h,x with
 | .st bs,.oO _ (.mp i)=>(match bs[i]? with
  | some (.iE dL)=>some (.st (bs++[.iE dL]))
  | _=>none)
 | _,_=>none

def D.usd (x:D):Option D:=
 match x with
 | .cq=>some (.v (.pointer none))
 | .sl i off n=>if 0<n then some (.loc i off) else none
 | _=>none

def D.aiq (e:TypeId)(h p n:D):Option D:=
 match p,n with
 | .v (.pointer none),.v (.int .i64 0)=>some (.v (.string .empty))
 | .loc i 0,.v (.int .i64 n)=>(D.gF h i).bind fun b=>if 0<n∧n.toNat≤b.2.2.length∧b.1=e∧n.toNat≤maxLen then(bytesOf (b.2.2.take n.toNat)).bind fun ns=>if ns.all (fun x=>decide (0≤x)&&decide (x<256))=true then some (.v (.string (strOfNums ns))) else none else none
 | _,_=>none

def D.aaO (e:TypeId)(h p n:D):Option D:=
 (D.aiq e h p n).bind fun _=>match p with
 | .loc i 0=>(match h with | .st bs=>some (.st (bs.set i (.bh []))) | _=>none)
 | _=>some h

def D.asl (n sz:Nat)(p lo:D):Option D:=
 match p,lo with
 | .loc i off,.v (.int _ l)=>if 0≤l∧l<(n:Int)∧0<off+l.toNat*sz then some (.sl i (off+l.toNat*sz) (n-l.toNat)) else none
 | _,_=>none

def D.oY (h x:D):Option D:=
 match x with
 | .cq=>some (.v (.string .empty))
 | .sl i off n=>(D.gF h i).bind fun b=>if off+n≤b.2.2.length∧0<n then(bytesOf ((b.2.2.drop off).take n)).map fun ns=>.v (.string (strOfNums ns)) else none
 | x=>D.anq x

def D.peq (neg:Bool)(x y:D):Option D:=
 match x,y with
 | .loc i o,.loc j p=>if i=j∧o=p then some (.v (.bool (!neg))) else none
 | x,y=>D.bin (bif neg then .neq else .eql) .ptr x y

def D.m0 (t:TypeId)(x:D):Option D:=
 match x with
 | .oO t' y=>if t'=t then some y else none
 | _=>none

def D.m4 (op:MOp)(a b c d:D):Option D:=
 match op with
 | .eJ=>D.eJ a b
 | .anq=>D.anq a
 | .anH=>D.anH a b
 | .snh=>D.snh a b
 | .snv=>D.snv a b
 | .Qix=>D.Qix a b c
 | .gix g len sz=>D.gix g len sz a b
 | .sib=>D.sib a b
 | .Qhj=>D.Qhj a
 | .tw e n=>D.tw e n a b
 | .usd=>D.usd a
 | .anW=>D.anW a b
 | .anX=>D.anX a b
 | .aiq e=>D.aiq e a b c
 | .aaO e=>D.aaO e a b c
 | .asl n sz=>D.asl n sz a b
 | .oY=>D.oY a b
 | .m0 t=>D.m0 t a
 | .peq neg=>D.peq neg a b
 | .aaA=>(match a with | .st bs=>some (.st (bs++[.iE []])) | _=>none)
 | .abR=>(match a with | .st bs=>some (.mp bs.length) | _=>none)
 | .get kd g=>(D.entries a b).bind fun dL=>(D.uD kd c dL).bind fun r=>
   let x:=match r with | some (_,u)=>u | none=>d
   if g=true∨x.one=true then some x else none
 | .VO kd=>(D.entries a b).bind fun dL=>(D.uD kd c dL).map fun r=>match r with | some (_,u)=>.bh [u,.bool true] | none=>.bh [d,.bool false]
 | .put kd=>D.Ul kd a b c d
 | .del kd=>D.aj1 kd a b c
 | .aaC=>(D.entries a b).map fun dL=>.int dL.length
 | .UQ neg=>(match a with | .oO _ _=>some (.bool neg) | .v .nilIface=>some (.bool (!neg)) | _=>none)
 | .Hz t=>(match a with | .oO t' x=>some (if t'=t then .bh [x,.bool true] else .bh [b,.bool false]) | .v .nilIface=>some (.bh [b,.bool false]) | _=>none)
 | .UI=>(match a with | .oO t x=>some (.oO t x) | _=>none)
 | .same=>if D.same a b=true then some a else none
 | .rng=>D.aaB a b
 | .next=>D.Um a b
 | .entry=>D.Nq a b
 | .V2 kd=>D.P3 kd a b c d
 | .ab0 kd=>D.Up kd a b c d
 | .om=>D.Uo a b c d
 | .eG=>if a.iw=true then some a else none
 | .tN n k=>D.tN n k a b

abbrev D.undef:D:=.bh []

def E.eval (env:List D):E→Option D
 | .sym k=>env[k]?
 | .const d=>some d
 | .bin op kd a b=>(a.eval env).bind fun x=>(b.eval env).bind fun y=>D.bin op kd x y
 | .un op a=>(a.eval env).bind (D.un op)
 | .conv k a=>(a.eval env).bind (D.conv k)
 | .aR a=>(a.eval env).bind D.aR
 | .uJ a=>(a.eval env).bind D.uJ
 | .bt a=>(a.eval env).bind D.bt
 | .cell i a=>(a.eval env).bind (D.cell i)
 | .cells i n a=>(a.eval env).bind (D.part i n)
 | .bB n a=>(a.eval env).bind (D.bB n)
 | .idx a i=>(a.eval env).bind fun x=>(i.eval env).bind fun y=>D.idx x y
 | .uS n a i=>(a.eval env).bind fun x=>(i.eval env).bind fun y=>D.uS n x y
 | .nil=>some (.agg [])
 | .cons a b=>(a.eval env).bind fun x=>(b.eval env).bind fun y=>D.cons x y
 | .one a=>(a.eval env).map fun x=>.bq [x]
 | .app n m a b=>(a.eval env).bind fun x=>(b.eval env).bind fun y=>D.app n m x y
 | .bz a b=>(a.eval env).bind fun x=>(b.eval env).bind fun y=>D.bz x y
 | .gE a=>(a.eval env).bind D.gE
 | .gV f a b=>(a.eval env).bind fun x=>(b.eval env).bind fun y=>D.gV f x y
 | .sub n a l h=>(a.eval env).bind fun x=>(l.eval env).bind fun y=>(h.eval env).bind fun z=>D.sub n x y z
 | .set a i off x=>(a.eval env).bind fun l=>(i.eval env).bind fun n=>(x.eval env).bind fun y=>D.set l n off y
 | .ite g a b=>match g.eval env with
  | some (.v (.bool true))=>a.eval env
  | some (.v (.bool false))=>b.eval env
  | _=>none
 | .guard g want a=>match g.eval env with
  | some (.v (.bool b))=>if b=want then a.eval env else some D.undef
  | _=>none
 | .ax=>some (.bh [])
 | .aa a b=>(a.eval env).bind fun x=>(b.eval env).bind fun y=>D.aa x y
 | .Qrx i a=>(a.eval env).bind (D.Qrx i)
 | .rep b n d=>(n.eval env).bind fun x=>D.rep b x d
 | .deref a=>(a.eval env).bind D.deref
 | .oO t a=>(a.eval env).map (.oO t)
 | .mm m a b=>(a.eval env).bind fun x=>(b.eval env).bind fun y=>D.mm m x y
 | .ay k a=>(a.eval env).bind (D.ay k)
 | .nn a=>(a.eval env).bind D.nn
 | .aj n a b=>(a.eval env).bind fun x=>(b.eval env).bind fun y=>D.aj n x y
 | .ld g n a b=>(a.eval env).bind fun x=>(b.eval env).bind fun y=>D.ld g n x y
 | .gQ n a b c=>(a.eval env).bind fun x=>(b.eval env).bind fun y=>(c.eval env).bind fun z=>D.gQ n x y z
 | .cI e n a b=>(a.eval env).bind fun x=>(b.eval env).bind fun y=>D.cI e n x y
 | .aU a=>(a.eval env).bind D.aU
 | .a_ e n a b=>(a.eval env).bind fun x=>(b.eval env).bind fun y=>D.a_ e n x y
 | .bO a b=>(a.eval env).bind fun x=>(b.eval env).bind fun y=>D.bO x y
 | .fU e n m a b c=>(a.eval env).bind fun x=>(b.eval env).bind fun y=>(c.eval env).bind fun z=>D.fU e n m x y z
 | .apps a b c=>(a.eval env).bind fun x=>(b.eval env).bind fun y=>(c.eval env).bind fun z=>D.apps x y z
 | .ve g a b=>(a.eval env).bind fun x=>(b.eval env).bind fun y=>D.ve g x y
 | .vf a b=>(a.eval env).bind fun x=>(b.eval env).bind fun y=>D.vf x y
 | .m4 op a b c d=>(a.eval env).bind fun x=>(b.eval env).bind fun y=>(c.eval env).bind fun z=>(d.eval env).bind fun u=>D.m4 op x y z u

theorem E.cA {env env' : List D} (h : env <+: env') : ∀ (x : E) {d : D}, x.eval env = some d → x.eval env' = some d := by
  obtain ⟨r, rfl⟩ := h
  intro x
  induction x <;> intro d hd <;> simp only [E.eval, Option.bind_eq_some_iff, Option.map_eq_some_iff] at hd ⊢
  case sym k =>
    have hk : k < env.length := (List.getElem?_eq_some_iff.1 hd).1
    rw [List.getElem?_append_left hk]
    exact hd
  case ite c a b hc ha hb =>
    cases h : c.eval env with
    | none => simp [h] at hd
    | some y =>
      rw [hc h]
      rw [h] at hd
      split at hd <;> first | (rename_i e; cases e; exact ha hd) | (rename_i e; cases e; exact hb hd) | simp at hd
  case guard c want a hc ha =>
    cases h : c.eval env with
    | none => simp [h] at hd
    | some y =>
      rw [hc h]
      rw [h] at hd
      split at hd
      · rename_i e
        cases e
        split at hd
        · rename_i hb; rw [if_pos hb]; exact ha hd
        · rename_i hb; rw [if_neg hb]; exact hd
      · simp at hd
  all_goals first
    | exact hd
    | (rename_i ha; obtain ⟨x, h1, h2⟩ := hd; exact ⟨x, ha h1, h2⟩)
    | (rename_i ha hb; obtain ⟨x, h1, y, h2, h3⟩ := hd; exact ⟨x, ha h1, y, hb h2, h3⟩)
    | (rename_i ha hb hc; obtain ⟨x, h1, y, h2, z, h3, h4⟩ := hd; exact ⟨x, ha h1, y, hb h2, z, hc h3, h4⟩)
    | (rename_i ha hb hc he; obtain ⟨x, h1, y, h2, z, h3, u, h4, h5⟩ := hd; exact ⟨x, ha h1, y, hb h2, z, hc h3, u, he h4, h5⟩)
end

section
noncomputable section

inductive SV where
 | cE
 | e (x:E) (s:Bool)
 | agg (cs:List SV)
 | bh (vs:List SV)
 | addr (o off:Nat)
 | aj (o:Nat) (i:E) (size off:Nat)
 | iV (x:E) (off:Nat)
 | own (x:E) (k:Nat)
 | oc (o:Nat)
 | func (fn:Fn) (cap:List SV)
 | cond (act:List (E×Bool)) (sv:SV)
 deriving Inhabited

structure cz where
 ro:Bool
 wr:List Nat
 Ca:List Nat
 ab7:List Nat
 fc:List Nat
 Ot:List (Nat×Nat)
 keep:List Nat:=[]
 FB:Bool:=false
 maps:List TypeId:=[]
 aeA:List Nat:=[]
 bC:Bool:=false
 avL:List (Nat×Nat):=[]
 deriving Inhabited,DecidableEq

def bN:Nat:=1000000

inductive bl where
 | box (cs:List SV)
 | row (x:E) (size:Nat)
 | tok (elem:TypeId) (size:Nat)
 | store (cf:cz) (x:E)
 deriving Inhabited

def bl.ro:bl→Bool
 | .store cf _=>cf.ro
 | _=>false

structure af where
 tmps:List SV
 mem:List (Option bl)
 hs:Option bl
 deriving Inhabited

/-! lists by az_ recursors (Qiw kernel is quicker so) -/

def XK {α:Type}(x0:α)(l:List α):Nat→α:=List.rec (motive:=fun _=>Nat→α) (fun _=>x0) (fun x _ ih n=>Nat.rec (motive:=fun _=>α) x (fun m _=>ih m) n) l
def T2 {α:Type}(x:α)(l:List α):Nat→List α:=List.rec (motive:=fun _=>Nat→List α) (fun _=>[]) (fun y r ih n=>Nat.rec (motive:=fun _=>List α) (x :: r) (fun m _=>y :: ih m) n) l
def Q9 {α β:Type}(f:α→β)(l:List α):List β:=List.rec (motive:=fun _=>List β) [] (fun x _ ih=>f x :: ih) l

theorem HQ {α:Type}(x0:α):∀(l:List α) (n:Nat),XK x0 l n=l.getD n x0
 | [],_=>rfl
 | _ :: _,0=>rfl
 | _ :: r,n+1=>by
  show XK x0 r n=_
  rw[HQ x0 r n]
  simp[List.getD]

theorem Co {α:Type}(x:α):∀(l:List α) (n:Nat),T2 x l n=l.set n x
 | [],_=>rfl
 | _ :: _,0=>rfl
 | y :: r,n+1=>by
  show y :: T2 x r n=y :: r.set n x
  rw[Co x r n]

theorem Cp {α β:Type}(f:α→β):∀l:List α,Q9 f l=l.map f
 | []=>rfl
 | x :: r=>by
  show f x :: Q9 f r=f x :: r.map f
  rw[Cp f r]

def af.tmp (σ:af)(t:Nat):SV:=XK .cE σ.tmps t
def af.obj (σ:af)(o:Nat):Option bl:=if o=bN then σ.hs else XK none σ.mem o
def af.put (σ:af)(dst:Option Tmp)(sv:SV):af:=match dst with | some d=>{ σ with tmps:=T2 sv σ.tmps d } | none=>σ
def af.setObj (σ:af)(o:Nat)(x:Option bl):af:=if o=bN then { σ with hs:=x } else { σ with mem:=T2 x σ.mem o }

theorem af.gw (σ:af)(t:Nat):σ.tmp t=σ.tmps.getD t .cE:=HQ _ _ _
theorem af.dV (σ:af)(o:Nat):σ.obj o=if o=bN then σ.hs else σ.mem.getD o none:=by unfold af.obj;rw[HQ]
theorem af.fM (σ:af)(dst:Option Tmp)(sv:SV):σ.put dst sv=match dst with | some d=>{ σ with tmps:=σ.tmps.set d sv } | none=>σ:=by unfold af.put;cases dst <;> simp only[Co]
theorem af.fD (σ:af)(o:Nat)(x:Option bl):σ.setObj o x=if o=bN then { σ with hs:=x } else { σ with mem:=σ.mem.set o x }:=by unfold af.setObj;rw[Co]

structure dJ where
 aE:Nat→Nat
 val:Nat→Value
 S:Sets
 aJ:Nat→Prop

def bI (env:List D)(act:List (E×Bool)):Prop:=∀p,p∈act→p.1.eval env=some (.bool p.2)

inductive ef (w:World) (ρ:dJ) (env:List D):Value→SV→Prop
 | cE {v:Value}:ef w ρ env v .cE
 | e {v:Value} {x:E} {s:Bool} {d:D} (hx:x.eval env=some d) (h:bU w ρ.S v d) (h1:s=true→d.one=true):ef w ρ env v (.e x s)
 | agg {vs:Array Value} {cs:List SV} (hl:vs.size=cs.length) (ho:∀(i:Nat) (v:Value),vs[i]? = some v→v.oneCell'=true)
   (h:∀(i:Nat) (v:Value) (c:SV),vs[i]? = some v→cs[i]? = some c→ef w ρ env v c):ef w ρ env (.agg vs) (.agg cs)
 | bh {vs:Array Value} {cs:List SV} (hl:vs.size=cs.length)
   (h:∀(i:Nat) (v:Value) (c:SV),vs[i]? = some v→cs[i]? = some c→ef w ρ env v c):ef w ρ env (.tuple vs) (.bh cs)
 | addr {o off:Nat}:ef w ρ env (.pointer (some ⟨ρ.aE o,off,none⟩)) (.addr o off)
 | aj {o size off n:Nat} {x:E} {k:IntKind} (hx:x.eval env=some (.v (.int k n))):ef w ρ env (.pointer (some ⟨ρ.aE o,n*size+off,none⟩)) (.aj o x size off)
 | iV {v:Value} {x:E} {off:Nat} {d:D} (hx:x.eval env=some d) (h:bU w ρ.S v (.ptr (d.cells.drop off))):ef w ρ env v (.iV x off)
 | own {v:Value} {x:E} {k:Nat} {es:List D} (hx:x.eval env=some (.bq es)) (h:bU w ρ.S v (.bq es)) (hv:v=ρ.val k):ef w ρ env v (.own x k)
 | oc {o:Nat}:ef w ρ env (ρ.val o) (.oc o)
 | func {fn:Fn} {vs:Array Value} {cs:List SV} (hl:vs.size=cs.length)
   (h:∀(i:Nat) (v:Value) (c:SV),vs[i]? = some v→cs[i]? = some c→ef w ρ env v c):ef w ρ env (.func fn #[] vs) (.func fn cs)
 | cond {v:Value} {act:List (E×Bool)} {sv:SV} (hd:∀p,p∈act→∃d,p.1.eval env=some d) (h:bI env act→ef w ρ env v sv) (hn:¬bI env act→v=undef):ef w ρ env v (.cond act sv)

section
variable {w:World} {ρ:dJ} {env:List D} {v:Value}
theorem ef.kC {x:E}{s:Bool}(h:ef w ρ env v (.e x s)):∃d,x.eval env=some d∧bU w ρ.S v d∧(s=true→d.one=true):=by
 generalize hs:SV.e x s=sv at h
 cases h <;> cases hs
 exact⟨_,by assumption,by assumption,by assumption⟩
theorem ef.lV {cs:List SV}(h:ef w ρ env v (.agg cs)):∃vs:Array Value,v=.agg vs∧vs.size=cs.length∧(∀(i:Nat) (v:Value),vs[i]? = some v→v.oneCell'=true)∧∀(i:Nat) (v:Value) (c:SV),vs[i]? = some v→cs[i]? = some c→ef w ρ env v c:=by
 generalize hs:SV.agg cs=sv at h
 cases h <;> cases hs
 exact⟨_,rfl,by assumption,by assumption,by assumption⟩
theorem ef.Ci {cs:List SV}(h:ef w ρ env v (.bh cs)):∃vs:Array Value,v=.tuple vs∧vs.size=cs.length∧∀(i:Nat) (v:Value) (c:SV),vs[i]? = some v→cs[i]? = some c→ef w ρ env v c:=by
 generalize hs:SV.bh cs=sv at h
 cases h <;> cases hs
 exact⟨_,rfl,by assumption,by assumption⟩
theorem ef.lP {o off:Nat}(h:ef w ρ env v (.addr o off)):v=.pointer (some ⟨ρ.aE o,off,none⟩):=by
 generalize hs:SV.addr o off=sv at h
 cases h <;> cases hs
 rfl
theorem ef.pz {o size off:Nat}{x:E}(h:ef w ρ env v (.aj o x size off)):∃(n:Nat) (k:IntKind),x.eval env=some (.v (.int k n))∧v=.pointer (some ⟨ρ.aE o,n*size+off,none⟩):=by
 generalize hs:SV.aj o x size off=sv at h
 cases h <;> cases hs
 exact⟨_,_,by assumption,rfl⟩
theorem ef.uO {off:Nat}{x:E}(h:ef w ρ env v (.iV x off)):∃d,x.eval env=some d∧bU w ρ.S v (.ptr (d.cells.drop off)):=by
 generalize hs:SV.iV x off=sv at h
 cases h <;> cases hs
 exact⟨_,by assumption,by assumption⟩
theorem ef.yH {k:Nat}{x:E}(h:ef w ρ env v (.own x k)):∃es,x.eval env=some (.bq es)∧bU w ρ.S v (.bq es)∧v=ρ.val k:=by
 generalize hs:SV.own x k=sv at h
 cases h <;> cases hs
 exact⟨_,by assumption,by assumption,by assumption⟩
theorem ef.sH {o:Nat}(h:ef w ρ env v (.oc o)):v=ρ.val o:=by
 generalize hs:SV.oc o=sv at h
 cases h <;> cases hs
 rfl
theorem ef.rV {fn:Fn}{cs:List SV}(h:ef w ρ env v (.func fn cs)):∃vs:Array Value,v=.func fn #[] vs∧vs.size=cs.length∧∀(i:Nat) (v:Value) (c:SV),vs[i]? = some v→cs[i]? = some c→ef w ρ env v c:=by
 generalize hs:SV.func fn cs=sv at h
 cases h <;> cases hs
 exact⟨_,rfl,by assumption,by assumption⟩
theorem ef.L7 {act:List (E×Bool)}{sv:SV}(h:ef w ρ env v (.cond act sv)):(∀p,p∈act→∃d,p.1.eval env=some d)∧(bI env act→ef w ρ env v sv)∧(¬bI env act→v=undef):=by
 generalize hs:SV.cond act sv=sv' at h
 cases h <;> cases hs
 exact⟨by assumption,by assumption,by assumption⟩
end

mutual
def SV.aT (o:Nat):SV→Bool
 | .cE | .e _ _ | .iV _ _=>true
 | .agg cs | .bh cs=>SV.ee o cs
 | .func _ cs=>SV.ee o cs
 | .addr o' _ | .aj o' _ _ _ | .own _ o' | .oc o'=>o' != o
 | .cond _ sv=>sv.aT o
def SV.ee (o:Nat):List SV→Bool
 | []=>true
 | s :: r=>s.aT o&&SV.ee o r
end

theorem SV.fw {o:Nat}:∀{cs:List SV} {i:Nat} {c:SV},SV.ee o cs=true→cs[i]? = some c→c.aT o=true
 | [],i,c,_,h=>by simp at h
 | s :: r,0,c,h,hi=>by simp[SV.ee] at h hi;exact hi ▸ h.1
 | s :: r,i+1,c,h,hi=>by simp[SV.ee] at h hi;exact SV.fw h.2 hi

def bl.aT (o:Nat):bl→Bool
 | .box cs=>SV.ee o cs
 | .row _ _ | .tok _ _ | .store _ _=>true

structure dJ.Le (ρ ρ':dJ)(ex:Nat→Prop):Prop where
 aE:∀o,¬ex o→ρ'.aE o=ρ.aE o
 val:∀o,¬ex o→ρ'.val o=ρ.val o
 S:ρ.S≤ρ'.S

structure dJ.vB (ρ ρ':dJ)(ex:Nat→Prop):Prop extends dJ.Le ρ ρ' ex where
 n:¬ex bN→ρ'.S.n=ρ.S.n
 aJ:¬ex bN→ρ'.aJ=ρ.aJ

theorem dJ.vB.refl (ρ:dJ)(ex:Nat→Prop):ρ.vB ρ ex:=⟨⟨fun _ _=>rfl,fun _ _=>rfl,Sets.le_refl _⟩,fun _=>rfl,fun _=>rfl⟩

theorem lQ {env env':List D}(h:env <+: env'){act:List (E×Bool)}(hd:∀p,p∈act→∃d,p.1.eval env=some d)(ha:bI env' act):bI env act:=by
 intro p hp
 obtain⟨b,hb⟩:=hd p hp
 have h1:=ha p hp
 rw[E.cA h _ hb] at h1
 rw[hb];exact h1

theorem vz {env env':List D}(h:env <+: env'){act:List (E×Bool)}(ha:bI env act):bI env' act:=fun p hp=>E.cA h _ (ha p hp)

theorem ef.env {w:World}{ρ:dJ}{env env':List D}{v:Value}{sv:SV}(h:ef w ρ env v sv)(he:env <+: env'):ef w ρ env' v sv:=by
 induction h with
 | cE=>exact .cE
 | e hx h h1=>exact .e (E.cA he _ hx) h h1
 | agg hl ho _ ih=>exact .agg hl ho ih
 | bh hl _ ih=>exact .bh hl ih
 | addr=>exact .addr
 | aj hx=>exact .aj (E.cA he _ hx)
 | iV hx h=>exact .iV (E.cA he _ hx) h
 | own hx h hv=>exact .own (E.cA he _ hx) h hv
 | oc=>exact .oc
 | func hl _ ih=>exact .func hl ih
 | cond hd _ hn ih=>exact .cond (fun p hp=>let ⟨d,h⟩:=hd p hp;⟨d,E.cA he _ h⟩) (fun ha=>ih (lQ he hd ha)) fun ha=>hn fun h=>ha (vz he h)

theorem ef.Bv {w w':World}{ρ ρ':dJ}{ex:Nat→Prop}{env:List D}{v:Value}{sv:SV}(h:ef w ρ env v sv)(hk:bW ρ.S w w')(hm:ρ.Le ρ' ex)(ha:∀o,ex o→sv.aT o=true):ef w' ρ' env v sv:=by
 induction h with
 | cE=>exact .cE
 | e hx h h1=>exact .e hx (h.keep hk hm.S) h1
 | agg hl ho _ ih=>exact .agg hl ho fun i v c h1 h2=>ih i v c h1 h2 fun o ho=>SV.fw (by simpa[SV.aT] using ha o ho) h2
 | bh hl _ ih=>exact .bh hl fun i v c h1 h2=>ih i v c h1 h2 fun o ho=>SV.fw (by simpa[SV.aT] using ha o ho) h2
 | @addr o off=>
  rw[←hm.aE o (fun ho=>by have:=ha o ho;simp[SV.aT] at this)]
  exact .addr
 | @aj o size off n x k hx=>
  rw[←hm.aE o (fun ho=>by have:=ha o ho;simp[SV.aT] at this)]
  exact .aj hx
 | iV hx h=>exact .iV hx (h.keep hk hm.S)
 | @own v x k es hx h hv=>exact .own hx (h.keep hk hm.S) (hv.trans (hm.val k (fun ho=>by have:=ha k ho;simp[SV.aT] at this)).symm)
 | @oc o=>
  rw[←hm.val o (fun ho=>by have:=ha o ho;simp[SV.aT] at this)]
  exact .oc
 | func hl _ ih=>exact .func hl fun i v c h1 h2=>ih i v c h1 h2 fun o ho=>SV.fw (by simpa[SV.aT] using ha o ho) h2
 | cond hd _ hn ih=>exact .cond hd (fun hh=>ih hh fun o ho=>by simpa[SV.aT] using ha o ho) hn

theorem ef.keep {w w':World}{ρ ρ':dJ}{ex:Nat→Prop}{env:List D}{v:Value}{sv:SV}(h:ef w ρ env v sv)(hk:bW ρ.S w w')(hm:ρ.vB ρ' ex)(ha:∀o,ex o→sv.aT o=true):ef w' ρ' env v sv:=h.Bv hk hm.toLe ha

def bY (ρ:dJ)(o:Nat):bl→Nat→Prop
 | .box _,b | .row _ _,b=>ρ.aE o=b
 | .tok _ _,b=>(ρ.val o).ownBlock=some b
 | .store _ _,b=>ρ.aJ b

structure oA (es:Array MapEntry)(clock n:Nat):Prop where
 len:es.size=n
 YQ:clock=n
 born:∀(j:Nat) (x:MapEntry),es[j]? = some x→x.born=j

def aaZ (es:Array MapEntry)(clock:Nat)(dL:List D):Prop:=if D.lost dL=true then es.size=(D.kept dL).length else oA es clock dL.length

theorem aaZ.size {es:Array MapEntry}{clock:Nat}{dL:List D}(h:aaZ es clock dL):es.size=(D.kept dL).length:=by
 unfold aaZ at h
 split at h
 ·exact h
 ·rename_i hl
  rw[D.acF (by simpa using hl)]
  exact h.len

theorem aaZ.sz {es:Array MapEntry}{clock:Nat}{dL:List D}(h:aaZ es clock dL)(hl:D.lost dL=false):oA es clock dL.length:=by
 unfold aaZ at h
 rwa [if_neg (by simp[hl])] at h

theorem aaZ.of {es:Array MapEntry}{clock:Nat}{dL:List D}(h:oA es clock dL.length)(hl:D.lost dL=false):aaZ es clock dL:=by
 unfold aaZ
 rwa [if_neg (by simp[hl])]

def SM:TypeId:=1000000000

def o7 (w:World)(b:Nat)(vs:Array Value)(e:TypeId):Prop:=∃e',w.heap[b]? = some (.cells vs e' (0,0))∧(e=SM∨e'=e)

theorem o7.of {w:World}{b:Nat}{vs:Array Value}{e:TypeId}(h:w.heap[b]? = some (.cells vs e (0,0))):o7 w b vs e:=⟨e,h,.inr rfl⟩
theorem o7.to {w w':World}{b:Nat}{vs:Array Value}{e:TypeId}(h:o7 w b vs e)(hh:w'.heap[b]? = w.heap[b]?):o7 w' b vs e:=by
 obtain⟨e',h1,h2⟩:=h
 exact⟨e',hh.trans h1,h2⟩

structure dF (w:World)(S:Sets)(aJ:Nat→Prop)(bs:List D):Prop where
 n:S.n=bs.length
 cells:∀(i:Nat) (e:TypeId) (sz:Nat) (cs:List D),bs[i]? = some (.aE e sz cs)→aJ (S.loc i)∧∃vs:Array Value,o7 w (S.loc i) vs e∧vs.size=S.cap i*sz∧cs.length≤vs.size ∧
  (∀(j:Nat) (d:D),cs[j]? = some d→d.one=true)∧(∀(j:Nat) (v:Value) (d:D),vs[j]? = some v→cs[j]? = some d→bU w S v d)∧∀off,¬S (S.loc i) off
 Cw:∀b off,aJ b→¬S b off
 maps:∀(i:Nat) (dL:List D),bs[i]? = some (.iE dL)→aJ (S.loc i)∧∃(es:Array MapEntry) (clock:Nat),w.heap[S.loc i]? = some (.map es clock)∧aaZ es clock dL∧(∀off,¬S (S.loc i) off) ∧
  ∀(j:Nat) (e:MapEntry) (kv:D),es[j]? = some e→(D.kept dL)[j]? = some kv→∃dk dv,kv=.bh [dk,dv]∧bU w S e.key dk∧bU w S e.val dv
 inj:∀(i j:Nat) (x y:D),bs[i]? = some x→bs[j]? = some y→x.live=true→y.live=true→S.loc i=S.loc j→i=j
 FJ:∀(i:Nat) (z:D),bs[i]? = some z→z.isIt=true→aJ (S.loc i)∧A8 S i w.heap[S.loc i]? z∧∀off,¬S (S.loc i) off

theorem dF.jl {w:World}{S:Sets}{aJ:Nat→Prop}{bs:List D}(h:dF w S aJ bs){i:Nat}{x:D}(hi:bs[i]? = some x)(hx:x.live=true):aJ (S.loc i):=by
 cases x <;> simp[D.live] at hx
 ·exact(h.cells i _ _ _ hi).1
 ·exact(h.maps i _ hi).1
 ·exact(h.FJ i _ hi rfl).1
 ·exact(h.FJ i _ hi rfl).1
 ·exact(h.FJ i _ hi rfl).1
 ·exact(h.FJ i _ hi rfl).1

theorem dF.set {w w':World} {S:Sets} {aJ:Nat→Prop} {bs:List D} {i:Nat} {z z':D} (hst:dF w S aJ bs) (hK:bW S w w') (hz:bs[i]? = some z) (hzl:z.live=true)
  (mJ:∀(j:Nat) (x:D),bs[j]? = some x→x.live=true→S.loc j≠S.loc i→w'.heap[S.loc j]? = w.heap[S.loc j]?)
  (h1:∀(e:TypeId) (sz:Nat) (cs:List D),z'=.aE e sz cs→∃vs:Array Value,o7 w' (S.loc i) vs e∧vs.size=S.cap i*sz∧cs.length≤vs.size∧(∀(j:Nat) (d:D),cs[j]? = some d→d.one=true)∧∀(j:Nat) (v:Value) (d:D),vs[j]? = some v→cs[j]? = some d→bU w' S v d)
  (h2:∀dL:List D,z'=.iE dL→∃(es:Array MapEntry) (clock:Nat),w'.heap[S.loc i]? = some (.map es clock)∧aaZ es clock dL∧∀(j:Nat) (e:MapEntry) (kv:D),es[j]? = some e→(D.kept dL)[j]? = some kv→∃dk dv,kv=.bh [dk,dv]∧bU w' S e.key dk∧bU w' S e.val dv)
  (h3:z'.isIt=true→A8 S i w'.heap[S.loc i]? z'):dF w' S aJ (bs.set i z'):=by
 have hf:=hst.jl hz hzl
 have oa:∀off,¬S (S.loc i) off:=fun off=>hst.Cw _ off hf
 have hc:∀{j:Nat} {x:D},(bs.set i z')[j]? = some x→x.live=true→(j=i∧x=z')∨(bs[j]? = some x∧w'.heap[S.loc j]? = w.heap[S.loc j]?):=by
  intro j x hj hx
  rw[List.getElem?_set] at hj
  split at hj
  ·rename_i hij
   subst hij
   rw[if_pos (List.getElem?_eq_some_iff.1 hz).1] at hj
   cases hj
   exact .inl ⟨rfl,rfl⟩
  ·rename_i hij
   exact .inr ⟨hj,mJ j x hj hx fun e=>hij (hst.inj j i _ _ hj hz hx hzl e).symm⟩
 refine⟨by rw[hst.n];simp,fun j e sz cs hj=>?_,hst.Cw,fun j dL hj=>?_,fun j k x y hj hk hx hy hl=>?_,fun j z1 hj GK=>?_⟩
 ·rcases hc hj rfl with⟨rfl,e1⟩ | ⟨hj',hh⟩
  ·obtain⟨vs,g1,g2,g3,g4,g5⟩:=h1 e sz cs e1.symm
   exact⟨hf,vs,g1,g2,g3,g4,g5,oa⟩
  ·obtain⟨g0,vs,g1,g2,g3,g4,g5,g6⟩:=hst.cells j _ _ _ hj'
   exact⟨g0,vs,g1.to hh,g2,g3,g4,fun k v d hv hd=>(g5 k v d hv hd).keep hK (Sets.le_refl _),g6⟩
 ·rcases hc hj rfl with⟨rfl,e1⟩ | ⟨hj',hh⟩
  ·obtain⟨es,clock,g1,g2,g3⟩:=h2 dL e1.symm
   exact⟨hf,es,clock,g1,g2,oa,g3⟩
  ·obtain⟨g0,es,clock,g1,g2,g3,g4⟩:=hst.maps j _ hj'
   refine⟨g0,es,clock,hh.trans g1,g2,g3,fun k e kv he hkv=>?_⟩
   obtain⟨dk,dv,k1,k2,k3⟩:=g4 k e kv he hkv
   exact⟨dk,dv,k1,k2.keep hK (Sets.le_refl _),k3.keep hK (Sets.le_refl _)⟩
 ·have old:∀{k:Nat} {x:D},(bs.set i z')[k]? = some x→x.live=true→∃y,bs[k]? = some y∧y.live=true:=fun h hl=>by
   rcases hc h hl with⟨rfl,_⟩ | ⟨h',_⟩
   ·exact⟨z,hz,hzl⟩
   ·exact⟨_,h',hl⟩
  obtain⟨_,a1,a2⟩:=old hj hx
  obtain⟨_,b1,b2⟩:=old hk hy
  exact hst.inj j k _ _ a1 b1 a2 b2 hl
 ·rcases hc hj (D.jQ GK) with⟨rfl,e1⟩ | ⟨hj',hh⟩
  ·subst e1
   exact⟨hf,h3 GK,oa⟩
  ·rw[hh]
   exact hst.FJ j _ hj' GK

def iB (w:World)(ρ:dJ)(env:List D)(o:Nat):bl→Prop
 | .box cs=>∃(vs:Array Value) (ty:TypeId),w.heap[ρ.aE o]? = some (.cells vs ty (0,0))∧vs.size=cs.length∧(∀(i:Nat) (v:Value),vs[i]? = some v→v.oneCell'=true) ∧
   (∀(i:Nat) (v:Value) (c:SV),vs[i]? = some v→cs[i]? = some c→ef w ρ env v c)∧∀off,¬ρ.S (ρ.aE o) off
 | .row x size=>∃(vs:Array Value) (ty:TypeId) (es:List D),w.heap[ρ.aE o]? = some (.cells vs ty (0,0))∧x.eval env=some (.bq es)∧(∀(i:Nat) (e:D),es[i]? = some e→e.cells.length=size) ∧
   vs.size=es.length*size∧(∀(i:Nat) (e:D) (j:Nat) (d:D),es[i]? = some e→e.cells[j]? = some d→d.one=true∧∃v,vs[i*size+j]? = some v∧bU w ρ.S v d) ∧
   ρ.val o=.slice (some ⟨ρ.aE o,0,none⟩) es.length es.length∧es.length≤maxLen∧∀off,¬ρ.S (ρ.aE o) off
 | .store _ x=>∃bs,x.eval env=some (.st bs)∧dF w ρ.S ρ.aJ bs∧o=bN
 | .tok e size=>∃(n:Nat) (xs:List Value),w.ownsRow 0 e size (ρ.val o) n xs∧∀b,(ρ.val o).ownBlock=some b→∀off,n*size≤off→¬ρ.S b off

structure kG where
 may:Nat→Prop
 S:Sets
 aJ:Nat→Prop
 G7:List Deferred:=[]

structure cu (w0:World)(X:kG)(w:World)(a:Act)(σ:af)(env:List D)(ρ:dJ):Prop where
 size:a.tmps.size=σ.tmps.length
 tmps:∀t,ef w ρ env (a.tmps.getD t undef) (σ.tmp t)
 dO:∀o x,σ.obj o=some x→iB w ρ env o x
 inj:∀o o' x x' b,σ.obj o=some x→σ.obj o'=some x'→bY ρ o x b→bY ρ o' x' b→o=o'
 own:∀o x b,σ.obj o=some x→bY ρ o x b→((x.ro=true∧X.aJ b)∨w0.heap.size≤b∨X.may b)∧b<w.heap.size
 cells:∀b o,ρ.S b o→b<w.heap.size
 os:w.os=w0.os
 tape:TL w w0
 output:w.output=w0.output
 grown:w0.heap.size≤w.heap.size
 old:∀b,b<w0.heap.size→¬X.may b→w.heap[b]? = w0.heap[b]?
 sub:X.S≤ρ.S
 new:∀b o,ρ.S b o→X.S b o∨w0.heap.size≤b∨X.may b
 zT:a.defers=X.G7
 hold:∀l rec,X.S.hold l=some rec→w0.heap[l]? = some (.loop rec)∧¬X.may l∧¬X.aJ l

theorem iB.env {w:World}{ρ:dJ}{env env':List D}{o:Nat}{x:bl}(h:iB w ρ env o x)(he:env <+: env'):iB w ρ env' o x:=by
 cases x with
 | box cs=>
  obtain⟨vs,ty,h1,h2,h3,h4,h5⟩:=h
  exact⟨vs,ty,h1,h2,h3,fun i v c hv hc=>(h4 i v c hv hc).env he,h5⟩
 | row x size=>
  obtain⟨vs,ty,es,h1,h2,h3⟩:=h
  exact⟨vs,ty,es,h1,E.cA he _ h2,h3⟩
 | tok e size=>exact h
 | store ro x=>
  obtain⟨bs,h1,h2⟩:=h
  exact⟨bs,E.cA he _ h1,h2⟩

theorem cu.env {w0:World}{X:kG}{w:World}{a:Act}{σ:af}{env env':List D}{ρ:dJ}(h:cu w0 X w a σ env ρ)(he:env <+: env'):cu w0 X w a σ env' ρ:=
 ⟨h.size,fun t=>(h.tmps t).env he,fun o x hx=>(h.dO o x hx).env he,h.inj,h.own,h.cells,h.os,h.tape,h.output,h.grown,h.old,h.sub,h.new,h.zT,h.hold⟩

theorem af.yd {σ:af}{d:Nat}{sv:SV}(hd:d<σ.tmps.length)(t:Nat):(σ.put (some d) sv).tmp t=if t=d then sv else σ.tmp t:=by
 simp only[af.fM,af.gw,List.getD_eq_getElem?_getD,List.getElem?_set]
 by_cases h:d=t
 ·subst h;simp[hd]
 ·simp[h,Ne.symm h]

theorem af.Cu (σ:af)(dst:Option Tmp)(sv:SV)(o:Nat):(σ.put dst sv).obj o=σ.obj o:=by
 cases dst <;> rfl

theorem af.ff {σ:af}{o:Nat}{x:Option bl}(ho:o=bN∨o<σ.mem.length)(o':Nat):(σ.setObj o x).obj o'=if o'=o then x else σ.obj o':=by
 simp only[af.fD,af.dV]
 by_cases hh:o=bN
 ·subst hh
  simp only[if_true]
  split <;> rfl
 ·have ho:=ho.resolve_left hh
  simp only[hh,if_false,List.getD_eq_getElem?_getD,List.getElem?_set]
  by_cases h:o=o'
  ·subst h;simp[ho,hh]
  ·simp[h,Ne.symm h]

theorem af.nh {σ:af}{o:Nat}{x:Option bl}(ho:o<σ.mem.length)(o':Nat):(σ.setObj o x).obj o'=if o'=o then x else σ.obj o':=af.ff (.inr ho) o'

theorem af.ep (σ:af){o o':Nat}(x:Option bl)(h:o'≠o):(σ.setObj o x).obj o'=σ.obj o':=by
 simp only[af.fD,af.dV]
 by_cases hh:o=bN
 ·subst hh
  simp[h]
 ·simp only[hh,if_false,List.getD_eq_getElem?_getD,List.getElem?_set]
  simp[Ne.symm h]

theorem af.Cc {σ:af}{o o':Nat}{x:Option bl}{y:bl}(h:(σ.setObj o x).obj o'=some y):(o'=o∧x=some y)∨(o'≠o∧σ.obj o'=some y):=by
 by_cases e:o'=o
 ·subst e
  refine .inl ⟨rfl,?_⟩
  simp only[af.fD,af.dV] at h
  by_cases hh:o'=bN
  ·simpa[hh] using h
  ·simp only[hh,if_false,List.getD_eq_getElem?_getD,List.getElem?_set] at h
   simp only[if_true] at h
   split at h
   ·simpa using h
   ·simp at h
 ·exact .inr ⟨e,by rwa [af.ep σ x e] at h⟩

theorem af.ga (σ:af)(o:Nat)(x:Option bl)(t:Nat):(σ.setObj o x).tmp t=σ.tmp t:=by
 simp only[af.fD];split <;> rfl

theorem af.aZ (σ:af)(o:Nat)(x:Option bl):(σ.setObj o x).tmps=σ.tmps:=by
 simp only[af.fD];split <;> rfl

theorem af.fG (σ:af)(o:Nat)(x:Option bl):(σ.setObj o x).mem.length=σ.mem.length:=by
 simp only[af.fD];split <;> simp

theorem Act.zh (a:Act)(d:Nat)(v:Value)(hd:d<a.tmps.size)(t:Nat):(a.put (some d) v).tmps.getD t undef=if t=d then v else a.tmps.getD t undef:=by
 simp only[Act.put,Array.getD_eq_getD_getElem?,Array.getElem?_setIfInBounds]
 by_cases h:d=t
 ·subst h;simp[hd]
 ·simp[h,Ne.symm h]

theorem cu.put {w0:World} {X:kG} {w:World} {a:Act} {σ:af} {env:List D} {ρ:dJ} (h:cu w0 X w a σ env ρ) {dst:Option Tmp} {v:Value} {sv:SV} (hd:∀d,dst=some d→d<σ.tmps.length)
  (hv:ef w ρ env v sv):cu w0 X w (a.put dst v) (σ.put dst sv) env ρ:=by
 cases dst with
 | none=>exact h
 | some d=>
  have hd:=hd d rfl
  refine⟨by simp[Act.put,af.fM,h.size],fun t=>?_,h.dO,h.inj,h.own,h.cells,h.os,h.tape,h.output,h.grown,h.old,h.sub,h.new,h.zT,h.hold⟩
  rw[af.yd hd,Act.zh _ _ _ (by rw[h.size];exact hd)]
  split
  ·exact hv
  ·exact h.tmps t

end
end

section
noncomputable section

theorem Qcx (w:World)(o:Obj)(b:Nat)(hb:b<w.heap.size):(w.alloc o).heap[b]? = w.heap[b]?:=by
 simp only[World.alloc]
 rw[Array.getElem?_push,if_neg (by omega)]

theorem Ao {w w':World}{base:Nat}{e:TypeId}{size:Nat}{v:Value}{n:Nat}{xs:List Value}(h:w.ownsRow base e size v n xs)(hb:∀g,v.ownBlock=some g→w'.heap[g]? = w.heap[g]?):w'.ownsRow base e size v n xs:=by
 refine⟨h.1,?_⟩
 rcases h.2 with h2 | ⟨g,cap,cur,hv,hg,hh,r⟩
 ·exact .inl h2
 ·refine .inr ⟨g,cap,cur,hv,hg,?_,r⟩
  rw[hb g (by rw[hv];rfl)]
  exact hh

theorem iB.Bv {w w':World} {ρ ρ':dJ} {ex:Nat→Prop} {env:List D} {o:Nat} {x:bl} (h:iB w ρ env o x) (hk:bW ρ.S w w') (hm:ρ.Le ρ' ex) (hst:o=bN→ρ'.S.n=ρ.S.n∧ρ'.aJ=ρ.aJ) (ho:¬ex o) (ha:∀o',ex o'→x.aT o'=true)
  (hb:∀b,bY ρ o x b→w'.heap[b]? = w.heap[b]?) (hS:∀b off,bY ρ o x b→ρ'.S b off→ρ.S b off):iB w' ρ' env o x:=by
 have h1:=hm.aE o ho
 have h2:=hm.val o ho
 cases x with
 | box cs=>
  obtain⟨vs,ty,hh,hl,hone,hr,hn⟩:=h
  refine⟨vs,ty,by rw[h1,hb _ rfl];exact hh,hl,hone,fun i v c hv hc=>(hr i v c hv hc).Bv hk hm fun o' ho'=>SV.fw (by simpa[bl.aT] using ha o' ho') hc,fun off hs=>?_⟩
  rw[h1] at hs
  exact hn off (hS _ off rfl hs)
 | row x size=>
  obtain⟨vs,ty,es,hh,hx,hz,hl,hr,hv,hm1,hn⟩:=h
  refine⟨vs,ty,es,by rw[h1,hb _ rfl];exact hh,hx,hz,hl,fun i e j d he hd=>?_,by rw[h1,h2];exact hv,hm1,fun off hs=>?_⟩
  ·obtain⟨hone,v,hv,hrd⟩:=hr i e j d he hd
   exact⟨hone,v,hv,hrd.keep hk hm.S⟩
  ·rw[h1] at hs
   exact hn off (hS _ off rfl hs)
 | tok e size=>
  obtain⟨n,xs,hown,hn⟩:=h
  refine⟨n,xs,?_,?_⟩
  ·rw[h2]
   exact Ao hown fun g hg=>hb g hg
  ·intro b hbv off hoff hs
   rw[h2] at hbv
   exact hn b hbv off hoff (hS b off hbv hs)
 | store ro x=>
  obtain⟨bs,hx,hs0,he⟩:=h
  obtain⟨CC,hsf⟩:=hst he
  have hst:=hs0
  refine⟨bs,hx,⟨CC.trans hst.n,fun i e sz cs hi=>?_,fun b off hf hs=>by rw[hsf] at hf;exact hst.Cw b off hf (hS b off hf hs),fun i dL hi=>?_,fun i j x y hi hj hx hy hl=>?_,fun i z hi hz=>?_⟩,he⟩
  ·obtain⟨hf,vs,hh,hsz,hl,hone,hr,hn⟩:=hst.cells i e sz cs hi
   have hlt:i<ρ.S.n:=by rw[hst.n];exact(List.getElem?_eq_some_iff.1 hi).1
   rw[hm.S.loc i hlt,hm.S.cap i hlt,hsf]
   refine⟨hf,vs,hh.to (hb _ hf),hsz,hl,hone,fun j v d hv hd=>(hr j v d hv hd).keep hk hm.S,fun off hs=>hn off (hS _ off hf hs)⟩
  ·obtain⟨hf,es,clock,hh,hsz,hn,hr⟩:=hst.maps i dL hi
   have hlt:i<ρ.S.n:=by rw[hst.n];exact(List.getElem?_eq_some_iff.1 hi).1
   rw[hm.S.loc i hlt,hsf]
   refine⟨hf,es,clock,by rw[hb _ hf];exact hh,hsz,fun off hs=>hn off (hS _ off hf hs),fun j e kv he hkv=>?_⟩
   obtain⟨dk,dv,h1,h2,h3⟩:=hr j e kv he hkv
   exact⟨dk,dv,h1,h2.keep hk hm.S,h3.keep hk hm.S⟩
  ·have h1:i<ρ.S.n:=by rw[hst.n];exact(List.getElem?_eq_some_iff.1 hi).1
   have h2:j<ρ.S.n:=by rw[hst.n];exact(List.getElem?_eq_some_iff.1 hj).1
   rw[hm.S.loc i h1,hm.S.loc j h2] at hl
   exact hst.inj i j x y hi hj hx hy hl
  ·obtain⟨hf,hh,hn⟩:=hst.FJ i z hi hz
   have hlt:i<ρ.S.n:=by rw[hst.n];exact(List.getElem?_eq_some_iff.1 hi).1
   rw[hm.S.loc i hlt,hsf]
   exact⟨hf,by rw[hb _ hf];exact hh.to (by rw[CC];exact Nat.le_refl _) hm.S.loc (hm.S.mH i hlt) hlt,fun off hs=>hn off (hS _ off hf hs)⟩

theorem iB.keep {w w':World} {ρ ρ':dJ} {ex:Nat→Prop} {env:List D} {o:Nat} {x:bl} (h:iB w ρ env o x) (hk:bW ρ.S w w') (hm:ρ.vB ρ' ex) (ho:¬ex o) (ha:∀o',ex o'→x.aT o'=true)
  (hb:∀b,bY ρ o x b→w'.heap[b]? = w.heap[b]?) (hS:∀b off,bY ρ o x b→ρ'.S b off→ρ.S b off):iB w' ρ' env o x:=
 h.Bv hk hm.toLe (fun e=>⟨hm.n (e ▸ ho),hm.aJ (e ▸ ho)⟩) ho ha hb hS

theorem Gu {ρ ρ':dJ}{ex:Nat→Prop}(hm:ρ.Le ρ' ex){o:Nat}(hst:o=bN→ρ'.aJ=ρ.aJ)(ho:¬ex o){w:World}{env:List D}{x:bl}(h:iB w ρ env o x):bY ρ' o x=bY ρ o x:=by
 cases x with
 | store ro x=>
  obtain⟨_,_,_,he⟩:=h
  funext b
  simp only[bY,hst he]
 | _=>funext b;simp[bY,hm.aE o ho,hm.val o ho]

theorem fF {ρ ρ':dJ}{ex:Nat→Prop}(hm:ρ.vB ρ' ex){o:Nat}(ho:¬ex o){w:World}{env:List D}{x:bl}(h:iB w ρ env o x):bY ρ' o x=bY ρ o x:=
 Gu hm.toLe (fun e=>hm.aJ (e ▸ ho)) ho h

theorem cu.move {w0:World} {X:kG} {w w':World} {a:Act} {σ:af} {env:List D} {ρ ρ':dJ} (h:cu w0 X w a σ env ρ) (hk:bW ρ.S w w') (hm:ρ.vB ρ' fun _=>False)
  (hb:∀o x b,σ.obj o=some x→bY ρ o x b→w'.heap[b]? = w.heap[b]?) (hS:∀o x b off,σ.obj o=some x→bY ρ o x b→ρ'.S b off→ρ.S b off)
  (hc:∀b o,ρ'.S b o→b<w'.heap.size) (hos:w'.os=w.os) (ht:TL w' w) (hout:w'.output=w.output) (hsz:w.heap.size≤w'.heap.size)
  (hold:∀b,b<w0.heap.size→¬X.may b→w'.heap[b]? = w.heap[b]?) (hnew:∀b o,ρ'.S b o→ρ.S b o∨w0.heap.size≤b):cu w0 X w' a σ env ρ':=by
 refine⟨h.size,fun t=>(h.tmps t).keep hk hm fun _ hf=>hf.elim,fun o x hx=>(h.dO o x hx).keep hk hm id (fun _ hf=>hf.elim) (fun b=>hb o x b hx) (fun b off=>hS o x b off hx),?_,?_,hc,
  hos.trans h.os,ht.trans h.tape,hout.trans h.output,Nat.le_trans h.grown hsz,fun b h1 h2=>(hold b h1 h2).trans (h.old b h1 h2),Sets.le_trans h.sub hm.S,fun b o hs=>(hnew b o hs).elim (h.new b o) fun e=>.inr (.inl e),h.zT,h.hold⟩
 ·intro o o' x x' b h1 h2 h3 h4
  rw[fF hm (fun hf=>hf) (h.dO _ _ h1)] at h3
  rw[fF hm (fun hf=>hf) (h.dO _ _ h2)] at h4
  exact h.inj o o' x x' b h1 h2 h3 h4
 ·intro o x b h1 h2
  rw[fF hm (fun hf=>hf) (h.dO _ _ h1)] at h2
  obtain⟨h3,h4⟩:=h.own o x b h1 h2
  exact⟨h3,Nat.lt_of_lt_of_le h4 hsz⟩

theorem cu.drew {w0:World}{X:kG}{w:World}{a:Act}{σ:af}{env:List D}{ρ:dJ}(h:cu w0 X w a σ env ρ):cu w0 X w.drew a σ env ρ:=
 h.move (bW.refl _ _) (dJ.vB.refl _ _) (fun _ _ _ _ _=>rfl) (fun _ _ _ _ _ _ hs=>hs) h.cells rfl ⟨rfl,Nat.le_succ _⟩ rfl (Nat.le_refl _) (fun _ _ _=>rfl) fun _ _ hs=>.inl hs


def Sets.or (S:Sets)(p:Nat→Nat→Prop):Sets:={ S with mem:=fun b o=>S b o∨p b o }

theorem Sets.rN (S:Sets)(p:Nat→Nat→Prop):S≤S.or p:=⟨fun _ _ h=>.inl h,Nat.le_refl _,fun _ _=>rfl,fun _ _=>rfl,rfl,fun _ _=>rfl⟩

def dJ.F7 (ρ:dJ)(b0:Nat):dJ:={ ρ with S:=ρ.S.or fun b _=>b=b0 }

theorem dJ.CS (ρ:dJ)(b0:Nat)(ex:Nat→Prop):ρ.vB (ρ.F7 b0) ex:=⟨⟨fun _ _=>rfl,fun _ _=>rfl,ρ.S.rN _⟩,fun _=>rfl,fun _=>rfl⟩

theorem bW.alloc {S:Sets}{w:World}(hS:∀b o,S b o→b<w.heap.size)(o:Obj):bW S w (w.alloc o):=fun b i hs=>World.cell?_alloc_lt w o ⟨b,i,none⟩ (hS b i hs)

theorem cu.WM {w0:World}{X:kG}{w:World}{a:Act}{σ:af}{env:List D}{ρ:dJ}(h:cu w0 X w a σ env ρ)(o:Obj):cu w0 X (w.alloc o) a σ env (ρ.F7 w.heap.size):=by
 refine h.move (bW.alloc h.cells o) (ρ.CS _ _) ?_ ?_ ?_ rfl ⟨rfl,Nat.le_refl _⟩ rfl (by simp) ?_ fun b i hs=>hs.elim .inl fun e=>.inr (by have:=h.grown;omega)
 ·intro o' x b h1 h2
  exact Qcx w o b (h.own o' x b h1 h2).2
 ·intro o' x b off h1 h2 h3
  rcases h3 with h3 | h3
  ·exact h3
  ·have:=(h.own o' x b h1 h2).2;omega
 ·intro b i hs
  rcases hs with hs | hs
  ·have:=h.cells b i hs;simp;omega
  ·simp;omega
 ·intro b h1 _
  have:=h.grown
  exact Qcx w o b (by omega)

def dJ.fI (ρ:dJ)(o b:Nat)(v:Value):dJ:={ ρ with aE:=fun x=>if x=o then b else ρ.aE x,val:=fun x=>if x=o then v else ρ.val x }

theorem dJ.xZ (ρ:dJ)(o b:Nat)(v:Value):ρ.vB (ρ.fI o b v) (·=o):=
 ⟨⟨fun x hx=>by simp[dJ.fI,hx],fun x hx=>by simp[dJ.fI,hx],Sets.le_refl _⟩,fun _=>rfl,fun _=>rfl⟩

def af.aT (σ:af)(o:Nat):Prop:=(∀t,(σ.tmp t).aT o=true)∧∀o' x,σ.obj o'=some x→x.aT o=true

theorem cu.fI {w0:World} {X:kG} {w w':World} {a:Act} {σ:af} {env:List D} {ρ:dJ} (h:cu w0 X w a σ env ρ) {o:Nat} (ho:o<σ.mem.length) (hfree:σ.obj o=none) (ox:σ.aT o) {v:Value} {x:bl}
  (hk:bW ρ.S w w') (hb:∀b,b<w.heap.size→w'.heap[b]? = w.heap[b]?) (hos:w'.os=w.os) (ht:TL w' w) (hout:w'.output=w.output) (hsz:w.heap.size<w'.heap.size)
  (hok:iB w' (ρ.fI o w.heap.size v) env o x) (Qhv:∀b,bY (ρ.fI o w.heap.size v) o x b→b=w.heap.size):cu w0 X w' a (σ.setObj o (some x)) env (ρ.fI o w.heap.size v):=by
 have hm:=ρ.xZ o w.heap.size v
 have hne:∀o' y,σ.obj o'=some y→o'≠o:=fun o' y hy e=>by rw[e,hfree] at hy;cases hy
 refine⟨by rw[af.aZ];exact h.size,fun t=>?_,?_,?_,?_,fun b i hs=>Nat.lt_of_lt_of_le (h.cells b i hs) (Nat.le_of_lt hsz),hos.trans h.os,ht.trans h.tape,hout.trans h.output,Nat.le_trans h.grown (Nat.le_of_lt hsz),?_,h.sub,h.new,h.zT,h.hold⟩
 ·rw[af.ga];exact(h.tmps t).keep hk hm fun o' e=>by subst e;exact ox.1 t
 ·intro o' y hy
  rw[af.nh ho] at hy
  by_cases e:o'=o
  ·subst e;simp at hy;subst hy;exact hok
  ·simp[e] at hy
   refine(h.dO o' y hy).keep hk hm e (fun o'' e'=>by subst e';exact ox.2 o' y hy) (fun b hb'=>hb b (h.own o' y b hy hb').2) fun _ _ _ hs=>hs
 ·intro o1 o2 y1 y2 b h1 h2 h3 h4
  rw[af.nh ho] at h1 h2
  by_cases e1:o1=o <;> by_cases e2:o2=o
  ·rw[e1,e2]
  ·subst e1;simp at h1;subst h1
   simp[e2] at h2
   rw[fF hm e2 (h.dO _ _ h2)] at h4
   have:=Qhv b h3
   have:=(h.own o2 y2 b h2 h4).2
   omega
  ·subst e2;simp at h2;subst h2
   simp[e1] at h1
   rw[fF hm e1 (h.dO _ _ h1)] at h3
   have:=Qhv b h4
   have:=(h.own o1 y1 b h1 h3).2
   omega
  ·simp[e1] at h1;simp[e2] at h2
   rw[fF hm e1 (h.dO _ _ h1)] at h3
   rw[fF hm e2 (h.dO _ _ h2)] at h4
   exact h.inj o1 o2 y1 y2 b h1 h2 h3 h4
 ·intro o' y b hy hb'
  rw[af.nh ho] at hy
  by_cases e:o'=o
  ·subst e;simp at hy;subst hy
   have:=Qhv b hb'
   have:=h.grown
   exact⟨.inr (.inl (by omega)),by omega⟩
  ·simp[e] at hy
   rw[fF hm e (h.dO _ _ hy)] at hb'
   obtain⟨h1,h2⟩:=h.own o' y b hy hb'
   exact⟨h1,by omega⟩
 ·intro b h1 h2
  exact(hb b (by have:=h.grown;omega)).trans (h.old b h1 h2)

theorem cu.setBlock {w0:World} {X:kG} {w w':World} {a:Act} {σ:af} {env:List D} {ρ:dJ} (h:cu w0 X w a σ env ρ) {o:Nat} (ho:o=bN∨o<σ.mem.length) {x x':bl} (hx:σ.obj o=some x) {b0:Nat} (hb0:bY ρ o x b0) (hro:x.ro=false) (tM:∀b,bY ρ o x' b→bY ρ o x b)
  (hfree:∀off,¬ρ.S b0 off) (hb:∀b,b≠b0→w'.heap[b]? = w.heap[b]?) (hos:w'.os=w.os) (ht:TL w' w) (hout:w'.output=w.output) (hsz:w'.heap.size=w.heap.size)
  (hok:bW ρ.S w w'→iB w' ρ env o x'):cu w0 X w' a (σ.setObj o (some x')) env ρ:=by
 have hk:bW ρ.S w w':=fun b i hs=>World.cell?_of_block (a:=⟨b,i,none⟩) (hb b fun e=>by subst e;exact hfree i hs)
 have hm:=dJ.vB.refl ρ fun _=>False
 have hown:∀b,bY ρ o x b→(w0.heap.size≤b∨X.may b)∧b<w.heap.size:=fun b hb=>by
  have:=h.own o x b hx hb
  rw[hro] at this
  exact⟨this.1.resolve_left (by simp),this.2⟩
 refine⟨by rw[af.aZ];exact h.size,fun t=>by rw[af.ga];exact(h.tmps t).keep hk hm fun _ hf=>hf.elim,?_,?_,?_,fun b i hs=>by rw[hsz];exact h.cells b i hs,hos.trans h.os,ht.trans h.tape,hout.trans h.output,by rw[hsz];exact h.grown,?_,h.sub,h.new,h.zT,h.hold⟩
 ·intro o' y hy
  rw[af.ff ho] at hy
  by_cases e:o'=o
  ·subst e;simp at hy;subst hy;exact hok hk
  ·simp[e] at hy
   refine(h.dO o' y hy).keep hk hm id (fun _ hf=>hf.elim) (fun b hb'=>hb b fun e'=>e ?_) fun _ _ _ hs=>hs
   subst e'
   exact h.inj o' o y x b hy hx hb' hb0
 ·intro o1 o2 y1 y2 b h1 h2 h3 h4
  rw[af.ff ho] at h1 h2
  by_cases e1:o1=o <;> by_cases e2:o2=o
  ·rw[e1,e2]
  ·subst e1;simp at h1;subst h1
   simp[e2] at h2
   exact h.inj o1 o2 x y2 b hx h2 (tM b h3) h4
  ·subst e2;simp at h2;subst h2
   simp[e1] at h1
   exact h.inj o1 o2 y1 x b h1 hx h3 (tM b h4)
  ·simp[e1] at h1;simp[e2] at h2
   exact h.inj o1 o2 y1 y2 b h1 h2 h3 h4
 ·intro o' y b hy hb'
  rw[af.ff ho] at hy
  rw[hsz]
  by_cases e:o'=o
  ·subst e;simp at hy;subst hy
   exact⟨.inr (hown b (tM b hb')).1,(hown b (tM b hb')).2⟩
  ·simp[e] at hy
   exact h.own o' y b hy hb'
 ·intro b h1 h2
  have hne:b≠b0:=fun e=>by
   subst e
   rcases(hown b hb0).1 with h3 | h3
   ·omega
   ·exact h2 h3
  exact(hb b hne).trans (h.old b h1 h2)

theorem cu.Qew {w0:World} {X:kG} {w w':World} {a:Act} {σ:af} {env:List D} {ρ:dJ} (h:cu w0 X w a σ env ρ) {cf:cz} {x x':E} (hx:σ.obj bN=some (.store cf x)) (hro:cf.ro=false) {S':Sets} {bV:Nat→Prop} {bs':List D} (he:x'.eval env=some (.st bs')) (hst:dF w' S' bV bs')
  (hk:bW ρ.S w w') (hS:ρ.S≤S') (hos:w'.os=w.os) (ht:TL w' w) (hout:w'.output=w.output) (hsz:w.heap.size≤w'.heap.size) (hb:∀b,b<w.heap.size→¬ρ.aJ b→w'.heap[b]? = w.heap[b]?)
  (hf:∀b,bV b→(ρ.aJ b∨w.heap.size≤b)∧b<w'.heap.size) (GU:∀b o,S' b o→ρ.S b o∨ρ.aJ b∨w.heap.size≤b) (IW:∀b o,S' b o→b<w'.heap.size) :
  cu w0 X w' a (σ.setObj bN (some (.store cf x'))) env { ρ with S:=S',aJ:=bV }:=by
 have hle:ρ.Le { ρ with S:=S',aJ:=bV } (fun _=>False):=⟨fun _ _=>rfl,fun _ _=>rfl,hS⟩
 have Vn:∀b,ρ.aJ b→(w0.heap.size≤b∨X.may b)∧b<w.heap.size:=fun b hb=>by
  have:=h.own bN _ b hx hb
  simp only[bl.ro,hro] at this
  exact⟨this.1.resolve_left (by simp),this.2⟩
 have hnf:∀o y b,o≠bN→σ.obj o=some y→bY ρ o y b→¬ρ.aJ b:=fun o y b hne hy hb hf=>hne (h.inj o bN y _ b hy hx hb hf)
 have Qhv:∀o y,o≠bN→σ.obj o=some y→bY { ρ with S:=S',aJ:=bV } o y=bY ρ o y:=fun o y hne hy=>Gu hle (fun e=>absurd e hne) (fun hf=>hf) (h.dO o y hy)
 refine⟨by rw[af.aZ];exact h.size,fun t=>by rw[af.ga];exact(h.tmps t).Bv hk hle fun _ hf=>hf.elim,fun o y hy=>?_,fun o1 o2 y1 y2 b h1 h2 h3 h4=>?_,fun o y b hy hb'=>?_,IW,hos.trans h.os,ht.trans h.tape,hout.trans h.output,Nat.le_trans h.grown hsz,fun b h1 h2=>?_,Sets.le_trans h.sub hS,fun b o hs=>?_,h.zT,h.hold⟩
 ·rw[af.ff (.inl rfl)] at hy
  by_cases e:o=bN
  ·subst e;simp at hy;subst hy;exact⟨bs',he,hst,rfl⟩
  ·simp[e] at hy
   refine(h.dO o y hy).Bv hk hle (fun e'=>absurd e' e) (fun hf=>hf) (fun _ hf=>hf.elim) (fun b hb'=>hb b (h.own o y b hy hb').2 (hnf o y b e hy hb')) fun b off hb' hs=>?_
   rcases GU b off hs with h1 | h1 | h1
   ·exact h1
   ·exact absurd h1 (hnf o y b e hy hb')
   ·have:=(h.own o y b hy hb').2;omega
 ·rw[af.ff (.inl rfl)] at h1 h2
  have BR:∀{o:Nat} {y:bl} {b:Nat},o≠bN→σ.obj o=some y→bY { ρ with S:=S',aJ:=bV } o y b→bV b→False:=by
   intro o y b hne hy hb' hf'
   rw[Qhv o y hne hy] at hb'
   rcases(hf b hf').1 with h5 | h5
   ·exact hnf o y b hne hy hb' h5
   ·have:=(h.own o y b hy hb').2;omega
  by_cases e1:o1=bN <;> by_cases e2:o2=bN
  ·rw[e1,e2]
  ·subst e1;simp at h1;subst h1
   simp[e2] at h2
   exact(BR e2 h2 h4 h3).elim
  ·subst e2;simp at h2;subst h2
   simp[e1] at h1
   exact(BR e1 h1 h3 h4).elim
  ·simp[e1] at h1;simp[e2] at h2
   rw[Qhv o1 y1 e1 h1] at h3
   rw[Qhv o2 y2 e2 h2] at h4
   exact h.inj o1 o2 y1 y2 b h1 h2 h3 h4
 ·rw[af.ff (.inl rfl)] at hy
  by_cases e:o=bN
  ·subst e;simp at hy;subst hy
   obtain⟨h1,h2⟩:=hf b hb'
   refine⟨.inr ?_,h2⟩
   rcases h1 with h1 | h1
   ·exact(Vn b h1).1
   ·exact .inl (Nat.le_trans h.grown h1)
  ·simp[e] at hy
   rw[Qhv o y e hy] at hb'
   obtain⟨h1,h2⟩:=h.own o y b hy hb'
   exact⟨h1,by omega⟩
 ·refine(hb b (by have:=h.grown;omega) fun hf=>?_).trans (h.old b h1 h2)
  rcases(Vn b hf).1 with h3 | h3
  ·omega
  ·exact h2 h3
 ·rcases GU b o hs with h1 | h1 | h1
  ·exact h.new b o h1
  ·rcases(Vn b h1).1 with h3 | h3
   ·exact .inr (.inl h3)
   ·exact .inr (.inr h3)
  ·exact .inr (.inl (Nat.le_trans h.grown h1))

end
end

section
noncomputable section

inductive Out where
 | ret (d:D)
 | fc (d:D)

def Out.ends (w':World)(S':Sets)(v:Value):Out→Ending→Prop
 | .ret d,e=>e=.returned v∧bU w' S' v d
 | .fc d,e=>e=.panicked [{ v,recovered:=false }]∧bU w' S' v d

def nJ (w:World)(S:Sets)(aJ:Nat→Prop):Prop:=∀l rec,S.hold l=some rec→w.heap[l]? = some (.loop rec)∧¬aJ l

theorem cu.mK {w0 w:World}{X:kG}{a:Act}{σ:af}{env:List D}{ρ:dJ}(h:cu w0 X w a σ env ρ){cf:cz}{x:E}(dN:σ.obj bN=some (.store cf x)):nJ w ρ.S ρ.aJ:=by
 intro l rec hl
 have hl':X.S.hold l=some rec:=by rw[←h.sub.hold];exact hl
 obtain⟨h1,h2,h3⟩:=h.hold l rec hl'
 have hlt:l<w0.heap.size:=(Array.getElem?_eq_some_iff.1 h1).1
 refine⟨(h.old l hlt h2).trans h1,fun hf=>?_⟩
 rcases(h.own bN _ l dN hf).1 with g | g | g
 ·exact h3 g.2
 ·omega
 ·exact h2 g

def k8 (P:Program)(f:FuncId)(h:D)(ds:List D)(o:Out):Prop:=
 ∀(w:World) (S:Sets) (aJ:Nat→Prop) (bs:List D) (vs:Array Value),h=.st bs→dF w S aJ bs→nJ w S aJ→(∀b,aJ b→b<w.heap.size)→(∀b o,S b o→b<w.heap.size)→vs.size=ds.length→(∀(i:Nat) (v:Value) (x:D),vs[i]? = some v→ds[i]? = some x→bU w S v x) →
  Calls P f vs w fun e w'=>∃(v:Value) (S':Sets),o.ends w' S' v e∧Blw w.heap.size w w'∧S≤S'∧S'.n=S.n∧(∀b o,S' b o→S b o∨w.heap.size≤b)∧∀b o,S' b o→b<w'.heap.size

abbrev aP (P:Program)(f:FuncId)(h:D)(ds:List D)(d:D):Prop:=k8 P f h ds (.ret d)

theorem k8.DI {P:Program}{f:FuncId}{ds:List D}{o:Out}(h:k8 P f (.st []) ds o)(hds:eG ds=true)(bs:List D):k8 P f (.st bs) ds o:=by
 intro w S aJ rp vs hb hst dP hfl hS hvl hrd
 let S0:Sets:={ mem:=S.mem,loc:=fun _=>0,n:=0,cap:=fun _=>0 }
 have IL:dF w S0 (fun _=>False) []:=⟨rfl,fun i e sz cs hi=>by simp at hi,fun b off hf=>hf.elim,fun i dL hi=>by simp at hi,fun i j x y hi=>by simp at hi,fun i z hi=>by simp at hi⟩
 refine(h w S0 (fun _=>False) [] vs rfl IL (fun l rec hl=>by cases hl) (fun _ hf=>hf.elim) hS hvl fun i v x hv hx=>(hrd i v x hv hx).free (fun _ _ h=>h) (ji hds hx)).mono ?_
 rintro e w' ⟨v,S',gj,hb,hle,CC,hnew,hlt⟩
 refine⟨v,{ S with mem:=S'.mem },?_,hb,⟨hle.mem,Nat.le_refl _,fun _ _=>rfl,fun _ _=>rfl,rfl,fun _ _=>rfl⟩,rfl,hnew,hlt⟩
 have hh:∀l,S'.hold l=none:=fun l=>by rw[hle.hold]
 cases o with
 | ret d=>exact⟨gj.1,gj.2.DI (fun _ _ h=>h) CC hh⟩
 | fc d=>exact⟨gj.1,gj.2.DI (fun _ _ h=>h) CC hh⟩

def eN (P:Program)(f:FuncId)(h:D)(ds:List D)(o:Out)(h':D):Prop:=
 ∀(w:World) (S:Sets) (aJ:Nat→Prop) (bs:List D) (vs:Array Value),h=.st bs→dF w S aJ bs→nJ w S aJ→(∀b,aJ b→b<w.heap.size)→(∀b o,S b o→b<w.heap.size)→vs.size=ds.length→(∀(i:Nat) (v:Value) (x:D),vs[i]? = some v→ds[i]? = some x→bU w S v x) →
  Calls P f vs w fun e w'=>∃(v:Value) (S':Sets) (bV:Nat→Prop) (bs':List D),o.ends w' S' v e∧h'=.st bs'∧dF w' S' bV bs'∧bW S w w'∧S≤S'∧w'.os=w.os∧TL w' w∧w'.output=w.output∧w.heap.size≤w'.heap.size ∧
   (∀b,b<w.heap.size→¬aJ b→w'.heap[b]? = w.heap[b]?)∧(∀b,bV b→(aJ b∨w.heap.size≤b)∧b<w'.heap.size)∧(∀b o,S' b o→S b o∨aJ b∨w.heap.size≤b)∧∀b o,S' b o→b<w'.heap.size

abbrev bk (P:Program)(f:FuncId)(h:D)(ds:List D)(d h':D):Prop:=eN P f h ds (.ret d) h'

def q7 (P:Program)(y:D)(st:D)(ds:List D)(b:Bool)(gO:D):Prop:=
 ∀(w:World) (S:Sets) (aJ:Nat→Prop) (bs:List D) (vs:Array Value) (yv:Value),st=.st bs→dF w S aJ bs→nJ w S aJ→(∀b,aJ b→b<w.heap.size)→(∀b o,S b o→b<w.heap.size)→bU w S yv y→vs.size=ds.length→(∀(i:Nat) (v:Value) (x:D),vs[i]? = some v→ds[i]? = some x→bU w S v x) →
  ∃(l:Nat) (f:FuncId) (tmps:Array Value) (assign body:Code),yv=.func (.yield l) #[] #[]∧(Instr.yield l vs).run P w=.ok (.round l f tmps assign body) w∧RoundIn Fence.wide 0 P l f tmps assign body w fun e w'=>∃(S':Sets) (bV:Nat→Prop) (bs':List D),e=.returned (.bool b)∧gO=.st bs'∧dF w' S' bV bs'∧bW S w w'∧S≤S'∧w'.os=w.os∧TL w' w∧w'.output=w.output∧w.heap.size≤w'.heap.size ∧
   (∀b,b<w.heap.size→¬aJ b→w'.heap[b]? = w.heap[b]?)∧(∀b,bV b→(aJ b∨w.heap.size≤b)∧b<w'.heap.size)∧(∀b o,S' b o→S b o∨aJ b∨w.heap.size≤b)∧∀b o,S' b o→b<w'.heap.size

abbrev Fp (P:Program)(y:D)(st:D)(ds:List D)(gO:D):Prop:=q7 P y st ds true gO

inductive Bind where
 | ev (x:E)
 | call (act:List (E×Bool)) (f:FuncId) (h:E) (args:List E) (rs:List Bool)
 | bQ (act:List (E×Bool)) (f:FuncId) (h:E) (args:List E) (rs:List Bool)
 | fu (act:List (E×Bool)) (x h:E) (args:List E) (rs:List Bool)
 | fC (act:List (E×Bool)) (x h:E) (args:List E) (rs:List Bool)
 deriving Inhabited

def tg:List Bool→List D→Bool
 | [],[]=>true
 | b :: r,d :: s=>(!b||d.one)&&tg r s
 | _,_=>false

def D.fits (rs:List Bool)(d:D):Bool:=
 match rs with
 | [b]=>!b||d.one
 | rs=>match d with
  | .bh ds=>tg rs ds
  | _=>false

abbrev E.iw (x:E):E:=.m4 .eG x .nil .nil .nil

def aM (env:List D):List E→Option (List D)
 | []=>some []
 | x :: r=>(x.eval env).bind fun d=>(aM env r).map (d :: ·)

def bJ (P:Program)(f:FuncId):Bool:=
 match P.funcs[f]? with
 | some fn => !(fn.name == "runtime.NumGoroutine") && fn.body.isSome
 | none=>false

def tQ (P:Program)(xd st:D)(ds:List D)(d h':D):Prop:=
 match xd with
 | .fn f us cs=>bJ P f=true∧bk P f st (us++ds++cs) d h'
 | .yl l rec sl bT=>d=.bool true∧Fp P (.yl l rec sl bT) st ds h'
 | .tW i rec sl bT=>∃b,d=.bool b∧q7 P (.tW i rec sl bT) st ds b h'
 | _=>False

def cn (P:Program)(env:List D)(ix:Nat):Option Bind→Prop
 | none=>True
 | some (.ev x)=>∃d,x.eval env=some d∧env[ix]? = some d
 | some (.call act f h args rs)=>∃d,env[ix]? = some d∧(bI env act→∃st ds,h.eval env=some st∧aM env args=some ds∧aP P f st ds d∧d.fits rs=true)
 | some (.bQ act f h args rs)=>∃st d h',h.eval env=some st∧env[ix]? = some (.bh [d,h'])∧(bI env act→∃ds,aM env args=some ds∧bk P f st ds d h'∧d.fits rs=true)∧(¬bI env act→h'=st)
 | some (.fu act x h args rs)=>∃d,env[ix]? = some d∧(bI env act→∃f us cs st ds,x.eval env=some (.fn f us cs)∧bJ P f=true∧h.eval env=some st∧aM env args=some ds∧aP P f st (us++ds++cs) d∧d.fits rs=true)
 | some (.fC act x h args rs)=>∃st d h',h.eval env=some st∧env[ix]? = some (.bh [d,h'])∧(bI env act→∃xd ds,x.eval env=some xd∧aM env args=some ds∧tQ P xd st ds d h'∧d.fits rs=true)∧(¬bI env act→h'=st)

structure eV where
 val:SV:=.cE
 eM:Option (Nat×bl):=none
 bind:Option Bind:=none
 deriving Inhabited

/-! ## types -/

def lN (P:Program)(t:TypeId):Option Bool:=(P.underlying t).map fun | .struct _=>true | .array _ _=>true | _=>false
def w9 (P:Program)(t:TypeId):Option Nat:=(P.info? t).map (·.size)

theorem Ae {P:Program}{t:TypeId}{b:Bool}(h:lN P t=some b)(w:World):(isAgg t).run P w=.ok b w:=by
 unfold lN at h
 cases hu:P.underlying t with
 | none=>simp[hu] at h
 | some d=>
  simp only[hu,Option.map_some,Option.some.injEq] at h
  unfold isAgg
  rw[Sem.run_bind,run_underlying hu w]
  subst h
  cases d <;> rfl

theorem run_sizeOf {P:Program}{t:TypeId}{n:Nat}(h:w9 P t=some n)(w:World):(sizeOf t).run P w=.ok n w:=by
 unfold w9 at h
 cases hi:P.info? t with
 | none=>simp[hi] at h
 | some i=>simp[hi] at h;simp[sizeOf,typeInfo,hi,h]

theorem iU {P:Program}{t:TypeId}{z:Value}(h:(P.info? t).bind (·.zero)=some z)(w:World):(zeroValue t).run P w=.ok z w:=by
 cases hi:P.info? t with
 | none=>simp[hi] at h
 | some i=>simp[hi] at h;simp[zeroValue,typeInfo,hi,h]

theorem iR (b off j:Nat):(⟨b,off,none⟩:Addr).add j=⟨b,off+j,none⟩:=by
 unfold Addr.add;split <;> simp_all

/-! ## constants -/

def D.mD (nz:Bool):List Value→Option (List D)
 | []=>some []
 | y :: r=>if plain y then(D.mD nz r).map (D.v y :: ·) else match y with
  | .slice none 0 0=>(D.mD nz r).map ((if nz then .cq else .bq []) :: ·)
  | _=>none

def D.wI (y:Value):Option D:=
 match y with
 | .agg cs=>(D.mD false cs.toList).map .agg
 | y=>match D.mD false [y] with
  | some [d]=>some d
  | _=>none

theorem D.ng {w:World}{S:Sets}{nz:Bool}:∀{l:List Value} {ds:List D},D.mD nz l=some ds→l.length=ds.length∧∀(i:Nat) (v:Value) (d:D),l[i]? = some v→ds[i]? = some d→bU w S v d∧d.one=true
 | [],ds,h=>by simp[D.mD] at h;subst h;simp
 | y :: r,ds,h=>by
  simp only[D.mD] at h
  split at h
  ·rename_i hp
   obtain⟨ds',h1,rfl⟩:=Option.map_eq_some_iff.1 h
   obtain⟨hl,hr⟩:=D.ng h1
   refine⟨by simp[hl],fun i u d hu hd=>?_⟩
   cases i with
   | zero=>simp at hu hd;subst hu hd;exact⟨.v hp,rfl⟩
   | succ i=>exact hr i u d (by simpa using hu) (by simpa using hd)
  ·split at h
   ·obtain⟨ds',h1,rfl⟩:=Option.map_eq_some_iff.1 h
    obtain⟨hl,hr⟩:=D.ng h1
    refine⟨by simp[hl],fun i u d hu hd=>?_⟩
    cases i with
    | zero=>
     simp only[List.getElem?_cons_zero,Option.some.injEq] at hu hd
     subst hu hd
     cases nz
     ·exact⟨.nil,rfl⟩
     ·exact⟨.cq,rfl⟩
    | succ i=>exact hr i u d (by simpa using hu) (by simpa using hd)
   ·cases h

theorem D.lE {w:World}{S:Sets}{v:Value}{d:D}(h:D.wI v=some d):bU w S v d:=by
 have one:∀{v:Value} {d:D},(match D.mD false [v] with | some [d]=>some d | _=>none)=some d→bU w S v d:=by
  intro v d h
  split at h
  ·rename_i d' fz
   cases h
   exact((D.ng (w:=w) (S:=S) fz).2 0 v d rfl rfl).1
  ·cases h
 cases v with
 | agg cs=>
  simp only[D.wI] at h
  obtain⟨ds,h1,rfl⟩:=Option.map_eq_some_iff.1 h
  obtain⟨hl,hr⟩:=D.ng (w:=w) (S:=S) h1
  refine .agg (by simpa using hl) (fun i d hd=>?_) (fun i v d hv hd=>(hr i v d (by simpa using hv) hd).1)
  have hi:i<cs.toList.length:=by rw[hl];exact(List.getElem?_eq_some_iff.1 hd).1
  exact(hr i _ d (List.getElem?_eq_getElem hi) hd).2
 | _=>exact one h

def oV (v:Value):SV:=match D.wI v with | some d=>.e (.const d) d.one | none=>.cE

theorem ET {w:World}{ρ:dJ}{env:List D}(v:Value):ef w ρ env v (oV v):=by
 unfold oV
 split
 ·rename_i d hd;exact .e rfl (D.lE hd) id
 ·exact .cE

/-! ## from symbolic values to expressions,and to cells -/

mutual
def SV.jx:SV→Option E
 | .e x _=>some x
 | .own x _=>some x
 | .func (.func f) []=>some (.const (.fn f [] []))
 | .agg cs=>SV.MT cs
 | .bh cs=>SV.JS cs
 | _=>none
def SV.MT:List SV→Option E
 | []=>some .nil
 | s :: r=>match s.jx,SV.MT r with | some x,some y=>some (.cons x y) | _,_=>none
def SV.JS:List SV→Option E
 | []=>some .ax
 | s :: r=>match s.jx,SV.JS r with | some x,some y=>some (.aa x y) | _,_=>none
end

theorem bU.aat {w:World}{S:Sets}{v:Value}{d:D}(h:bU w S v d)(hv:v.oneCell'=true):d.one=true:=by
 cases h <;> first | rfl | simp[Value.oneCell'] at hv

theorem D.Qhz {d:D}(h:d.one=true):d.cells=[d]:=by cases d <;> first | rfl | simp[D.one] at h

theorem D.L5 {d:D}(h:d.one=true)(cs:List D):D.cons d (.agg cs)=some (.agg (d :: cs)):=by
 cases d <;> first | rfl | simp[D.one] at h

mutual
theorem SV.ck {w:World}{ρ:dJ}{env:List D}:∀{sv:SV} {x:E} {v:Value},sv.jx=some x→ef w ρ env v sv→∃d,x.eval env=some d∧bU w ρ.S v d
 | .e x s,y,v,h,hr=>by
  simp[SV.jx] at h;subst h
  cases hr with | e hx hd _=>exact⟨_,hx,hd⟩
 | .own x k,y,v,h,hr=>by
  simp[SV.jx] at h;subst h
  cases hr with | own hx hd _=>exact⟨_,hx,hd⟩
 | .agg cs,y,v,h,hr=>by
  simp only[SV.jx] at h
  cases hr with
  | @agg vs _ hl ho hh=>
   obtain⟨ds,he,cP,hd⟩:=SV.Cj (vs:=vs.toList) h (by simpa using hl) (fun i v hv=>ho i v (by simpa using hv)) (fun i v c hv hc=>hh i v c (by simpa using hv) hc)
   refine⟨_,he,.agg (by simpa using cP) (fun i d fz=>?_) fun i v d hv fz=>(hd i v d (by simpa using hv) fz).1⟩
   have hi:i<vs.toList.length:=by rw[cP];exact(List.getElem?_eq_some_iff.1 fz).1
   exact(hd i _ d (List.getElem?_eq_getElem hi) fz).2
 | .bh cs,y,v,h,hr=>by
  simp only[SV.jx] at h
  cases hr with
  | @bh vs _ hl hh=>
   obtain⟨ds,he,cP,hd⟩:=SV.Hx (vs:=vs.toList) h (by simpa using hl) (fun i v c hv hc=>hh i v c (by simpa using hv) hc)
   exact⟨_,he,.bh (by simpa using cP) fun i v d hv fz=>hd i v d (by simpa using hv) fz⟩
 | .cE,_,_,h,_ | .addr _ _,_,_,h,_ | .aj _ _ _ _,_,_,h,_ | .iV _ _,_,_,h,_ | .oc _,_,_,h,_ | .cond _ _,_,_,h,_=>by simp[SV.jx] at h
 | .func fn cs,y,v,h,hr=>by
  obtain⟨vs,rfl,hl,_⟩:=hr.rV
  cases fn with
  | func f=>
   cases cs with
   | nil=>
    simp only[SV.jx] at h
    cases h
    have:vs=#[]:=by simpa using hl
    subst this
    exact⟨_,rfl,.fn rfl rfl (by simp) (by simp)⟩
   | cons _ _=>simp[SV.jx] at h
  | _=>simp[SV.jx] at h
theorem SV.Cj {w:World}{ρ:dJ}{env:List D}:∀{cs:List SV} {x:E} {vs:List Value},SV.MT cs=some x→vs.length=cs.length→(∀(i:Nat) (v:Value),vs[i]? = some v→v.oneCell'=true) →
  (∀(i:Nat) (v:Value) (c:SV),vs[i]? = some v→cs[i]? = some c→ef w ρ env v c)→∃ds,x.eval env=some (.agg ds)∧vs.length=ds.length∧∀(i:Nat) (v:Value) (d:D),vs[i]? = some v→ds[i]? = some d→bU w ρ.S v d∧d.one=true
 | [],x,vs,h,hl,_,_=>by
  simp[SV.MT] at h;subst h
  have:vs=[]:=List.eq_nil_of_length_eq_zero (by simpa using hl)
  subst this
  exact⟨[],rfl,rfl,by simp⟩
 | s :: r,x,vs,h,hl,ho,hh=>by
  match vs,hl with
  | v :: vs,hl=>
   simp only[SV.MT] at h
   split at h
   ·rename_i y z hy hz
    cases h
    obtain⟨d,hd,hrd⟩:=SV.ck hy (hh 0 v s rfl rfl)
    obtain⟨ds,he,cP,hds⟩:=SV.Cj (vs:=vs) hz (by simpa using hl) (fun i v hv=>ho (i+1) v (by simpa using hv)) (fun i v c hv hc=>hh (i+1) v c (by simpa using hv) (by simpa using hc))
    have h1:=hrd.aat (ho 0 v rfl)
    refine⟨d :: ds,by simp[E.eval,hd,he,D.L5 h1],by simp[cP],fun i v' d' hv fz=>?_⟩
    cases i with
    | zero=>simp at hv fz;subst hv fz;exact⟨hrd,h1⟩
    | succ i=>exact hds i v' d' (by simpa using hv) (by simpa using fz)
   ·cases h
theorem SV.Hx {w:World}{ρ:dJ}{env:List D}:∀{cs:List SV} {x:E} {vs:List Value},SV.JS cs=some x→vs.length=cs.length →
  (∀(i:Nat) (v:Value) (c:SV),vs[i]? = some v→cs[i]? = some c→ef w ρ env v c)→∃ds,x.eval env=some (.bh ds)∧vs.length=ds.length∧∀(i:Nat) (v:Value) (d:D),vs[i]? = some v→ds[i]? = some d→bU w ρ.S v d
 | [],x,vs,h,hl,_=>by
  simp[SV.JS] at h;subst h
  have:vs=[]:=List.eq_nil_of_length_eq_zero (by simpa using hl)
  subst this
  exact⟨[],rfl,rfl,by simp⟩
 | s :: r,x,vs,h,hl,hh=>by
  match vs,hl with
  | v :: vs,hl=>
   simp only[SV.JS] at h
   split at h
   ·rename_i y z hy hz
    cases h
    obtain⟨d,hd,hrd⟩:=SV.ck hy (hh 0 v s rfl rfl)
    obtain⟨ds,he,cP,hds⟩:=SV.Hx (vs:=vs) hz (by simpa using hl) (fun i v c hv hc=>hh (i+1) v c (by simpa using hv) (by simpa using hc))
    refine⟨d :: ds,by simp[E.eval,hd,he,D.aa],by simp[cP],fun i v' d' hv fz=>?_⟩
    cases i with
    | zero=>simp at hv fz;subst hv fz;exact hrd
    | succ i=>exact hds i v' d' (by simpa using hv) (by simpa using fz)
   ·cases h
end

def SV.split (n ix:Nat):SV→Option (List SV×Option Bind)
 | .agg cs=>if cs.length=n then some (cs,none) else none
 | .e (.const (.agg ds)) _=>if ds.length=n∧ds.all (·.one)=true then some (ds.map fun d=>.e (.const d) true,none) else none
 | .e x _=>some ((List.range n).map fun i=>.e (.cell i (.sym ix)) true,some (.ev (.bB n x)))
 | _=>none

theorem SV.TR {P:Program}{w:World}{ρ:dJ}{env:List D}{n ix:Nat}{sv:SV}{cs:List SV}{b:Option Bind}{v:Value}(h:sv.split n ix=some (cs,b))(hb:cn P env ix b)(hr:ef w ρ env v sv) :
  ∃vs:Array Value,v=.agg vs∧vs.size=n∧cs.length=n∧(∀(i:Nat) (v:Value),vs[i]? = some v→v.oneCell'=true)∧∀(i:Nat) (v:Value) (c:SV),vs[i]? = some v→cs[i]? = some c→ef w ρ env v c:=by
 unfold SV.split at h
 split at h
 ·rename_i cs'
  split at h
  ·rename_i hl
   cases h
   cases hr with
   | agg hl' ho hh=>exact⟨_,rfl,by omega,hl,ho,hh⟩
  ·cases h
 ·rename_i ds s
  split at h
  ·rename_i hl
   cases h
   cases hr with
   | e hx hd _=>
    simp[E.eval] at hx
    subst hx
    cases hd with
    | agg hl' ho hh=>
     refine⟨_,rfl,by omega,by simp[hl.1],fun i v hv=>?_,fun i v c hv hc=>?_⟩
     ·have hi:i<ds.length:=by rw[←hl'];exact(Array.getElem?_eq_some_iff.1 hv).1
      exact(hh i v _ hv (List.getElem?_eq_getElem hi)).one (ho i _ (List.getElem?_eq_getElem hi))
     ·simp only[List.getElem?_map,Option.map_eq_some_iff] at hc
      obtain⟨d,hd,rfl⟩:=hc
      exact .e rfl (hh i v d hv hd) fun _=>ho i d hd
  ·cases h
 ·rename_i x s hne
  cases h
  obtain⟨d,hd,he⟩:=hb
  cases hr with
  | e hx hrd _=>
   simp only[E.eval,hx,Option.bind_some] at hd
   cases hrd with
   | @agg vs ds hl' ho hh=>
    simp only[D.bB] at hd
    split at hd
    ·rename_i hl
     cases hd
     refine⟨_,rfl,by omega,by simp,fun i v hv=>?_,fun i v c hv hc=>?_⟩
     ·have hi:i<ds.length:=by rw[←hl'];exact(Array.getElem?_eq_some_iff.1 hv).1
      exact(hh i v _ hv (List.getElem?_eq_getElem hi)).one (ho i _ (List.getElem?_eq_getElem hi))
     ·have hi:i<ds.length:=by rw[←hl'];exact(Array.getElem?_eq_some_iff.1 hv).1
      have zf:c=.e (.cell i (.sym ix)) true:=by
       simp only[List.getElem?_map,Option.map_eq_some_iff] at hc
       obtain⟨j,hj,rfl⟩:=hc
       have:=List.getElem?_eq_some_iff.1 hj
       simp at this
       rw[←this.2]
      subst zf
      exact .e (d:=ds[i]) (by simp[E.eval,he,D.cell,D.cells,hi]) (hh i v _ hv (List.getElem?_eq_getElem hi)) fun _=>ho i _ (List.getElem?_eq_getElem hi)
    ·cases hd
   | _=>simp[D.bB] at hd
 ·cases h

end
end

section
noncomputable section

def gP (P:Program):Nat→List Field→Option (List Nat)
 | _,[]=>some []
 | i, f :: fs => if f.offset = i ∧ f.name ≠ "_" then (match P.underlying f.type with
  | some (.int _)=>(gP P (i+1) fs).map (0 :: ·)
  | some .bool=>(gP P (i+1) fs).map (1 :: ·)
  | some .string=>(gP P (i+1) fs).map (2 :: ·)
  | _=>none) else none

def tf (P:Program)(t:TypeId):Option (List Nat):=
 match P.underlying t with
 | some (.struct fs)=>if P.stoodInHeld t=false∧P.eqGuardType P.depth t=false then gP P 0 fs.toList else none
 | _=>none

def kindOf (P:Program)(t:TypeId):Option Kd:=
 match P.underlying t with
 | some (.int _)=>some .int
 | some .bool=>some .bool
 | some .string=>some .str
 | some (.pointer _)=>some .ptr
 | some (.map _ _)=>some .mp
 | some (.struct _)=>(tf P t).map .agg
 | _=>none

def SV.cellsOf (agg:Bool)(n ix:Nat)(obj:Nat→Option bl)(sv:SV):Option (List SV×Option Bind):=
 if agg then sv.split n ix else match sv with
  | .e x true=>some ([.e x true],none)
  | .e x false=>some ([.e x true],some (.ev (.bt x)))
  | .oc o=>match obj o with
   | some (.row _ _)=>some ([.oc o],none)
   | _=>none
  | .addr o off=>some ([.addr o off],none)
  | .aj o i sz off=>some ([.aj o i sz off],none)
  | .iV x off=>some ([.iV x off],none)
  | .own x k=>some ([.own x k],none)
  | .func fn cs=>some ([.func fn cs],none)
  | _=>none

def Ph (P:Program)(t:TypeId):Option (List SV):=((P.info? t).bind (·.zero)).map fun z=>z.cells.toList.map oV

def hOf (obj:Nat→Option bl):E:=
 match obj bN with
 | some (.store _ h)=>h
 | _=>.const (.st [])

def GB (P:Program)(t:TypeId)(x:SV)(obj:Nat→Option bl)(ix:Nat):Option eV:=
 (lN P t).bind fun agg=>(w9 P t).bind fun n=>
 match x with
 | .addr ob off=>match obj ob with
  | some (.box cs)=>if agg then(if off+n≤cs.length then some { val:=.agg ((cs.drop off).take n) } else none) else(cs[off]?).map fun c=>{ val:=c }
  | _=>none
 | .aj ob i sz off=>match obj ob with
  | some (.row l sz')=>if sz≠sz' then none else if agg then(if off=0∧n=sz then some { val:=.e (.sym ix) false,bind:=some (.ev (.bB n (.idx l i))) } else none)
   else some { val:=.e (.sym ix) true,bind:=some (.ev (.cell off (.idx l i))) }
  | _=>none
 | .iV x off=>if agg then(if off=0 then some { val:=.e (.sym ix) false,bind:=some (.ev (.bB n x)) } else some { val:=.e (.sym ix) false,bind:=some (.ev (.cells off n x)) })
   else some { val:=.e (.sym ix) true,bind:=some (.ev (.cell off x)) }
 | .e p _=>some { val:=.e (.sym ix) (!agg),bind:=some (.ev (.ld agg n (hOf obj) p)) }
 | _=>none

def AA (P:Program)(t:TypeId)(x y:SV)(obj:Nat→Option bl)(ix:Nat):Option eV:=
 (lN P t).bind fun agg=>(w9 P t).bind fun n=>
 match x with
 | .addr ob off=>match obj ob with
  | some (.box cs)=>(y.cellsOf agg n ix obj).bind fun(ys,b)=>if off+ys.length≤cs.length∧ys.length=n then some { eM:=some (ob,.box (cs.take off++ys++cs.drop (off+ys.length))),bind:=b } else none
  | _=>none
 | .aj ob i sz off=>match obj ob with
  | some (.row l sz')=>if sz≠sz' then none else(match agg,y with
   | false,.e y' true=>if n=1 then some { eM:=some (ob,.row (.sym ix) sz'),bind:=some (.ev (.set l i off y')) } else none
   | false,.e y' false=>if n=1 then some { eM:=some (ob,.row (.sym ix) sz'),bind:=some (.ev (.set l i off (.bt y'))) } else none
   | true,y=>y.jx.map fun y'=>{ eM:=some (ob,.row (.sym ix) sz'),bind:=some (.ev (.set l i off (.bB n y'))) }
   | _,_=>none)
  | _=>none
 | .e p _=>match obj bN,y.jx with
  | some (.store cf h),some y'=>if cf.ro then none else some { eM:=some (bN,.store cf (.sym ix)),bind:=some (.ev (.gQ n h p y')) }
  | _,_=>none
 | _=>none

def xu (P:Program)(s:TypeId)(x:SV)(f:Nat):Option eV:=
 match P.underlying s with
 | some (.struct fs)=>(fs[f]?).bind fun fd=>(w9 P fd.type).bind fun n=>if n=0 then none else match x with
  | .addr ob off=>some { val:=.addr ob (off+fd.offset) }
  | .aj ob i sz off=>some { val:=.aj ob i sz (off+fd.offset) }
  | .iV x off=>some { val:=.iV x (off+fd.offset) }
  | _=>none
 | _=>none

def Ik (P:Program)(s:TypeId)(x:SV)(f ix:Nat):Option eV:=
 match P.underlying s,x with
 | some (.struct fs),.e p _=>(fs[f]?).bind fun fd=>(w9 P fd.type).bind fun n=>if n=0 then none else some { val:=.e (.sym ix) true,bind:=some (.ev (.ay fd.offset p)) }
 | _,_=>none

def nv (P:Program)(t:TypeId)(x i:SV)(obj:Nat→Option bl)(ix:Nat):Option eV:=
 match P.underlying t,i.jx with
 | some (.slice e),some i'=>(w9 P e).bind fun n=>match x with
  | .oc ob=>match obj ob with
   | some (.row l sz)=>if sz=n then some { val:=.aj ob i' n 0,bind:=some (.ev (.idx l i')) } else none
   | _=>none
  | x=>x.jx.map fun l=>{ val:=.e (.sym ix) true,bind:=some (.ev (.aj n l i')) }
 | some (.array len e),some i'=>(w9 P e).bind fun n=>x.jx.map fun p=>{ val:=.e (.sym ix) true,bind:=some (.ev (.m4 (.tN len n) p i' .nil .nil)) }
 | _,_=>none

def aaF (x:SV)(ix:Nat):Option eV:=
 match x with
 | .addr o off=>some { val:=.addr o off }
 | .aj o i sz off=>some { val:=.aj o i sz off }
 | .func fn cs=>(match fn with | .method _=>none | _=>some { val:=.func fn cs })
 | .iV x off=>some { val:=.iV x off }
 | .e x _=>some { val:=.e (.sym ix) true,bind:=some (.ev (.nn x)) }
 | _=>none

def IA:SV→Bool
 | .e (.const (.v (.pointer none))) _=>true
 | _=>false

def IC:SV→Bool
 | .addr _ _ | .aj _ _ _ _ | .iV _ _=>true
 | _=>false

def aaJ (P:Program)(op:BinOp)(t:TypeId)(x y:SV)(ix:Nat):Option eV:=
 if kindOf P t=some .ptr∧((IC x=true∧IA y=true)∨(IA x=true∧IC y=true)) then
  (match op with
   | .eql=>some { val:=.e (.const (.v (.bool false))) true }
   | .neq=>some { val:=.e (.const (.v (.bool true))) true }
   | _=>none)
 else match kindOf P t,x.jx,y.jx with
 | some kd,some x',some y'=>some { val:=.e (.sym ix) true,bind:=some (.ev (.bin op kd x' y')) }
 | _,_,_=>none

def lun (op:UnOp)(x:SV)(ix:Nat):Option eV:=x.jx.map fun x'=>{ val:=.e (.sym ix) true,bind:=some (.ev (.un op x')) }

def UA (P:Program)(src dst:TypeId)(x:SV)(ix:Nat):Option eV:=
 match P.underlying src,P.underlying dst with
 | some _,some (.int k)=>x.jx.map fun x'=>{ val:=.e (.sym ix) true,bind:=some (.ev (.conv k x')) }
 | _,_=>none

def D7 (x:SV)(i ix:Nat):Option eV:=
 match x with
 | .bh cs=>(cs[i]?).map fun c=>{ val:=c }
 | .e y _=>some { val:=.e (.sym ix) false,bind:=some (.ev (.Qrx i y)) }
 | _=>none

def Iw (P:Program)(t:TypeId)(dst:Option Tmp):Option eV:=
 match dst,Ph P t with
 | some d,some cs=>some { val:=.addr d 0,eM:=some (d,.box cs) }
 | _,_=>none

def NQ (P:Program)(t:TypeId)(x:SV)(dst:Option Tmp)(obj:Nat→Option bl)(ix:Nat):Option eV:=
 match dst,lN P t,w9 P t with
 | some d,some agg,some n=>(x.cellsOf agg n ix obj).map fun(cs,b)=>{ val:=.addr d 0,eM:=some (d,.box cs),bind:=b }
 | _,_,_=>none

def RD (P:Program)(t:TypeId)(x:SV)(obj:Nat→Option bl)(ix:Nat):Option eV:=
 match P.underlying t with
 | some (.slice _)=>(match x with
  | .oc ob=>match obj ob with
   | some (.row l _)=>some { val:=.e (.sym ix) true,bind:=some (.ev (.aR l)) }
   | _=>none
  | x=>x.jx.map fun l=>{ val:=.e (.sym ix) true,bind:=some (.ev (.aR l)) })
 | some .string=>x.jx.map fun l=>{ val:=.e (.sym ix) true,bind:=some (.ev (.uJ l)) }
 | _=>none


/-! ## soundness -/

def gq (P:Program)(o:Oper)(a:Act)(w:World)(w0:World)(X:kG)(σ':af)(env:List D):Prop:=
 ∀Q,o.uponIn Fence.wide 0 P a (fun a' w'=>∃ρ',cu w0 X w' a' σ' env ρ') Q ((execOp a.eval o).run P w)

def FW (r:Option Nat):Fence:={ Fence.wide with round:=r }

def vP (o:Oper):Bool:=match o.op with | .defer _=>false | _=>true

theorem Jl {r:Option Nat}{n:Nat}{P:Program}{f:FuncId}{args:Array Value}{w:World}{R:Ending→World→Prop}:CallsIn (FW r) n P f args w R↔Calls P f args w R:=callsIn_wide

theorem Tn {P:Program}{o:Oper}{a:Act}{r:Option Nat}{n:Nat}{K K':Act→World→Prop}{Q:Exit→Act→World→Prop}{x:Result Next}(h:o.uponIn Fence.wide 0 P a K Q x)(hK:∀a w,K a w→K' a w):o.uponIn (FW r) n P a K' Q x:=by
 cases x with
 | ok x w'=>
  cases x with
  | value v=>exact hK _ _ h
  | skip=>exact hK _ _ h
  | defer d=>exact hK _ _ h
  | enter f args=>
   refine⟨fun e=>(by cases e),Jl.2 ((callsIn_wide.1 h.2).mono fun e w'' he=>?_)⟩
   cases e <;> first | exact hK _ _ he | exact he
  | row row args=>exact⟨fun e=>(by cases e),fun c cs _=>let ⟨v,w'',g,s⟩:=h.2 c cs (room_wide _);⟨v,w'',hK _ _ g,s⟩⟩
  | round l f tmps assign body=>
   refine⟨fun e=>(by cases e),h.2.1,fun c cs _=>?_⟩
   obtain⟨e,w'',g,s⟩:=h.2.2 c cs (room_wide _)
   refine⟨e,w'',?_,s⟩
   cases e <;> first | exact hK _ _ g | exact g
  | _=>exact h.elim
 | halt x w'=>
  cases x <;> exact h

theorem zV {P:Program}{o:Oper}{a:Act}{K K':Act→World→Prop}{Q:Exit→Act→World→Prop}{x:Result Next}(h:o.uponIn Fence.wide 0 P a K Q x)(hK:∀a w,K a w→K' a w):o.uponIn Fence.wide 0 P a K' Q x:=Tn (r:=none) (n:=0) h hK

theorem iN {P:Program}{o:Oper}{a:Act}{w:World}{r:Option Nat}{n:Nat}{K K':Act→World→Prop}{Q:Exit→Act→World→Prop}(hd:vP o=true)(h:o.uponIn Fence.wide 0 P a K Q ((execOp a.eval o).run P w))(hK:∀a w,K a w→K' a w):o.wpIn (FW r) n P a w K' Q:=by
 refine⟨fun _ _=>trivial,?_⟩
 rw[Oper.semAt_plain (FW r) _ _ (fun c hc=>by rw[vP,hc] at hd;cases hd)]
 exact Tn h hK

theorem c_ {P:Program}{o:Oper}{a:Act}{w w' w0:World}{X:kG}{σ':af}{env:List D}{ρ':dJ}{v:Value}(hr:(execOp a.eval o).run P w=.ok (.value v) w')(h:cu w0 X w' (a.put o.dst v) σ' env ρ'):gq P o a w w0 X σ' env:=by
 intro Q
 rw[hr]
 exact⟨ρ',h⟩

theorem Qdx {P:Program}{o:Oper}{a:Act}{w w' w0:World}{X:kG}{σ':af}{env:List D}{ρ':dJ}(hr:(execOp a.eval o).run P w=.ok .skip w')(h:cu w0 X w' (a.put o.dst undef) σ' env ρ'):gq P o a w w0 X σ' env:=by
 intro Q
 rw[hr]
 exact⟨ρ',h⟩

section
variable {P:Program} {w w0:World} {X:kG} {a:Act} {σ:af} {env:List D} {ρ:dJ}

theorem gD {w:World}{g:Nat}{vs:Array Value}{ty:TypeId}{fr:Nat×Nat}(h:w.heap[g]? = some (.cells vs ty fr))(i:Nat):w.cell? ⟨g,i,none⟩=vs[i]?:=cell_of_row w g i vs ty fr h

theorem sL {t:TypeId}{n b off:Nat}{vs:List Value}(hg:lN P t=some true)(hn:w9 P t=some n)(hl:vs.length=n)(hc:∀(j:Nat) (v:Value),vs[j]? = some v→w.cell? ⟨b,off+j,none⟩=some v) :
  (loadVar t ⟨b,off,none⟩).run P w=.ok (.agg vs.toArray) w:=by
 have h:=run_loadCells_list (P:=P) w ⟨b,off,none⟩ vs fun j v hv=>by rw[iR];exact hc j v hv
 rw[hl] at h
 unfold loadVar
 simp[Sem.run_bind,Ae hg,run_sizeOf hn,h]

theorem Qfq {t:TypeId}{b off:Nat}{v:Value}(hg:lN P t=some false)(hc:w.cell? ⟨b,off,none⟩=some v):(loadVar t ⟨b,off,none⟩).run P w=.ok v w:=by
 unfold loadVar
 simp[Sem.run_bind,Ae hg,hc]

theorem Sa {o:Oper}{t:TypeId}{x:Operand}{b off:Nat}{v:Value}(ho:o.op=.load t x)(hx:a.eval x=.pointer (some ⟨b,off,none⟩))(hr:(loadVar t ⟨b,off,none⟩).run P w=.ok v w) :
  (execOp a.eval o).run P w=.ok (.value v) w:=by
 unfold execOp
 simp only[ho,hx,Instr.loadAt,Instr.sureAddr,Sem.run_bind,Sem.run_pure,Result.andThen_ok,hr]

theorem bU.kK {S:Sets}{v:Value}{cs:List D}(h:bU w S v (.ptr cs)):∃b off,v=.pointer (some ⟨b,off,none⟩)∧∀(j:Nat) (d:D),cs[j]? = some d→d.one=true∧S b (off+j)∧∃u,w.cell? ⟨b,off+j,none⟩=some u∧bU w S u d:=by
 cases h with
 | @ptr b off _ val ho hS hw hr=>exact⟨b,off,rfl,fun j d hj=>⟨ho j d hj,hS j d hj,val j,hw j d hj,hr j d hj⟩⟩

theorem Wr {S:Sets}{b off:Nat}:∀{ds:List D},(∀(j:Nat) (d:D),ds[j]? = some d→d.one=true∧∃u,w.cell? ⟨b,off+j,none⟩=some u∧bU w S u d) →
  ∃vs:List Value,vs.length=ds.length∧(∀(j:Nat) (v:Value),vs[j]? = some v→w.cell? ⟨b,off+j,none⟩=some v)∧∀(j:Nat) (v:Value) (d:D),vs[j]? = some v→ds[j]? = some d→bU w S v d:=by
 intro ds
 induction ds generalizing off with
 | nil=>intro _;exact⟨[],rfl,by simp,by simp⟩
 | cons d r ih=>
  intro h
  obtain⟨_,u,hu,hrd⟩:=h 0 d rfl
  obtain⟨vs,hl,hc,hr⟩:=ih (off:=off+1) fun j d' hj=>by
   have:=h (j+1) d' (by simpa using hj)
   rwa [show off+(j+1)=off+1+j from by omega] at this
  refine⟨u :: vs,by simp[hl],fun j v hv=>?_,fun j v d' hv hd=>?_⟩
  ·cases j with
   | zero=>simp at hv;subst hv;exact hu
   | succ j=>rw[show off+(j+1)=off+1+j from by omega];exact hc j v (by simpa using hv)
  ·cases j with
   | zero=>simp at hv hd;subst hv hd;exact hrd
   | succ j=>exact hr j v d' (by simpa using hv) (by simpa using hd)

theorem lG {S:Sets} {t:TypeId} {b off n:Nat} {ds:List D} (hg:lN P t=some true) (hn:w9 P t=some n) (hl:n≤ds.length)
  (hc:∀(j:Nat) (d:D),ds[j]? = some d→d.one=true∧∃u,w.cell? ⟨b,off+j,none⟩=some u∧bU w S u d):∃v,(loadVar t ⟨b,off,none⟩).run P w=.ok v w∧bU w S v (.agg (ds.take n)):=by
 obtain⟨vs,hvl,hvc,hvr⟩:=Wr hc
 refine⟨_,sL (vs:=vs.take n) hg hn (by simp;omega) (fun j v hv=>?_),.agg (by simp;omega) (fun i d hd=>?_) fun i v d hv hd=>?_⟩
 ·rw[List.getElem?_take] at hv
  split at hv
  ·exact hvc j v hv
  ·cases hv
 ·rw[List.getElem?_take] at hd
  split at hd
  ·exact(hc i d hd).1
  ·cases hd
 ·simp only[List.getElem?_toArray,List.getElem?_take] at hv hd
  split at hv
  ·rename_i hi;rw[if_pos hi] at hd;exact hvr i v d hv hd
  ·cases hv

theorem nK {S:Sets}{t:TypeId}{b off:Nat}{d:D}(hg:lN P t=some false)(hc:∃u,w.cell? ⟨b,off,none⟩=some u∧bU w S u d):∃v,(loadVar t ⟨b,off,none⟩).run P w=.ok v w∧bU w S v d:=by
 obtain⟨u,hu,hr⟩:=hc
 exact⟨u,Qfq hg hu,hr⟩

theorem Q7 {ob:Nat}{l:E}{sz:Nat}(h:iB w ρ env ob (.row l sz)):∃es,l.eval env=some (.bq es)∧∀(m:Nat) (e:D),es[m]? = some e→e.cells.length=sz ∧
  ∀(j:Nat) (d:D),e.cells[j]? = some d→d.one=true∧∃u,w.cell? ⟨ρ.aE ob,m*sz+j,none⟩=some u∧bU w ρ.S u d:=by
 obtain⟨vs,ty,es,hh,hxl,hz,hvl,hr,_,_,_⟩:=h
 refine⟨es,hxl,fun m e he=>⟨hz m e he,fun j d hd=>?_⟩⟩
 obtain⟨h1,v,hv,hrd⟩:=hr m e j d he hd
 exact⟨h1,v,by rw[gD hh];exact hv,hrd⟩

theorem D.E6 {d:D}{n:Nat}(h:d.cells.length=n):d.cells.take n=d.cells:=List.take_of_length_le (by omega)

theorem VH (h:cu w0 X w a σ env ρ){dh:D}(he:(hOf σ.obj).eval env=some dh):∃bs,dh=.st bs∧(bs=[]∨dF w ρ.S ρ.aJ bs):=by
 unfold hOf at he
 split at he
 ·rename_i cf x hx
  obtain⟨bs,h1,h2,_⟩:=h.dO _ _ hx
  rw[h1] at he
  cases he
  exact⟨bs,rfl,.inr h2⟩
 ·simp only[E.eval] at he
  cases he
  exact⟨[],rfl,.inl rfl⟩

theorem oW {bs:List D}{i:Nat}{b:TypeId×Nat×List D}(h:D.gF (.st bs) i=some b):bs[i]? = some (.aE b.1 b.2.1 b.2.2):=by
 simp only[D.gF] at h
 split at h
 ·rename_i e;cases h;exact e
 ·cases h

theorem NN {S:Sets}{aJ:Nat→Prop}{t:TypeId}{n:Nat}{agg:Bool}{v:Value}{bs:List D}{dp d:D}(hg:lN P t=some agg)(hn:w9 P t=some n)(hp:bU w S v dp)(hst:bs=[]∨dF w S aJ bs)(hd:D.ld agg n (.st bs) dp=some d) :
  ∃b off u,v=.pointer (some ⟨b,off,none⟩)∧(loadVar t ⟨b,off,none⟩).run P w=.ok u w∧bU w S u d∧((!agg)=true→d.one=true):=by
 cases dp with
 | ptr cs=>
  obtain⟨b,f,xX,hc⟩:=hp.kK
  have zf:∀(j:Nat) (d:D),cs[j]? = some d→d.one=true∧∃u,w.cell? ⟨b,f+j,none⟩=some u∧bU w S u d:=fun j d hj=>⟨(hc j d hj).1,(hc j d hj).2.2⟩
  cases agg with
  | true=>
   simp only[D.ld,if_true] at hd
   split at hd
   ·rename_i hle
    cases hd
    obtain⟨u,hrun,hrd⟩:=lG hg hn hle zf
    exact⟨b,f,u,xX,hrun,hrd,by simp⟩
   ·cases hd
  | false=>
   simp only[D.ld,Bool.false_eq_true,if_false] at hd
   obtain⟨h1,h2⟩:=zf 0 d hd
   obtain⟨u,hrun,hrd⟩:=nK (P:=P) hg h2
   exact⟨b,f,u,xX,hrun,hrd,fun _=>h1⟩
 | loc i off=>
  cases hp with
  | loc hi=>
  simp only[D.ld,Option.bind_eq_some_iff] at hd
  obtain⟨cells,hb,hd⟩:=hd
  have zf:∀(j:Nat) (d:D),(cells.drop off)[j]? = some d→d.one=true∧∃u,w.cell? ⟨S.loc i,off+j,none⟩=some u∧bU w S u d:=by
   unfold D.Qly at hb
   split at hb
   ·rename_i aE hb0
    cases hb
    have oh:=oW hb0
    rcases hst with rfl | hst
    ·simp at oh
    obtain⟨hf,vs,⟨_,hh,_⟩,hsz,hlen,hone,hr,oa⟩:=hst.cells i _ _ _ oh
    intro j d hj
    rw[List.getElem?_drop] at hj
    have hlt:off+j<vs.size:=Nat.lt_of_lt_of_le (List.getElem?_eq_some_iff.1 hj).1 hlen
    have hrd:=hr (off+j) vs[off+j] d (by simp[hlt]) hj
    exact⟨hone (off+j) d hj,vs[off+j],by rw[gD hh];simp[hlt],hrd⟩
   ·unfold D.asj at hb
    simp only at hb
    split at hb
    ·rename_i g ty vs oh
     cases hb
     rcases hst with rfl | hst
     ·simp at oh
     obtain⟨_,⟨_,hh,BF⟩,_⟩:=hst.FJ i _ oh rfl
     intro j d hj
     rw[List.getElem?_drop,List.getElem?_map] at hj
     obtain⟨v,hv,rfl⟩:=Option.map_eq_some_iff.1 hj
     refine⟨rfl,v,?_,.v (List.all_eq_true.1 BF v (List.mem_of_getElem? hv))⟩
     rw[gD hh]
     simpa using hv
    ·cases hb
  cases agg with
  | true=>
   simp only[if_true] at hd
   split at hd
   ·rename_i hle
    cases hd
    obtain⟨u,hrun,hrd⟩:=lG hg hn (by simp;omega) zf
    exact⟨_,off,u,rfl,hrun,hrd,by simp⟩
   ·cases hd
  | false=>
   simp only[Bool.false_eq_true,if_false] at hd
   obtain⟨h1,h2⟩:=zf 0 d (by simpa using hd)
   obtain⟨u,hrun,hrd⟩:=nK (P:=P) hg h2
   exact⟨_,off,u,rfl,hrun,hrd,fun _=>h1⟩
 | _=>simp[D.ld] at hd

theorem KQ {o:Oper} {t:TypeId} {x:Operand} {sx:SV} {ix:Nat} {r:eV} (ho:o.op=.load t x) (hl:GB P t sx σ.obj ix=some r) (hx:ef w ρ env (a.eval x) sx) (h:cu w0 X w a σ env ρ) (hd:∀d,o.dst=some d→d<σ.tmps.length)
  (hb:cn P env ix r.bind):r.eM=none∧gq P o a w w0 X (σ.put o.dst r.val) env:=by
 unfold GB at hl
 cases hg:lN P t with
 | none=>simp[hg] at hl
 | some agg=>
 cases hn:w9 P t with
 | none=>simp[hg,hn] at hl
 | some n=>
 simp only[hg,hn,Option.bind_some] at hl
 have fin:∀{b off:Nat} {v:Value} {sv:SV},a.eval x=.pointer (some ⟨b,off,none⟩)→(loadVar t ⟨b,off,none⟩).run P w=.ok v w→ef w ρ env v sv→gq P o a w w0 X (σ.put o.dst sv) env:=
  fun hx hr hs=>c_ (Sa ho hx hr) (h.put hd hs)
 split at hl
 ·rename_i ob off
  split at hl
  ·rename_i cs dN
   obtain⟨vs,ty,hh,hlen,hone,hr,_⟩:=h.dO ob _ dN
   have xX:=hx.lP
   cases agg with
   | true=>
    simp only[if_true] at hl
    split at hl
    ·rename_i hle
     cases hl
     refine⟨rfl,fin xX (sL (vs:=(vs.toList.drop off).take n) hg hn (by simp[hlen];omega) fun j v hv=>?_) (.agg (by simp[hlen]) (fun i v hv=>?_) fun i v c hv hc=>?_)⟩
     ·rw[gD hh]
      rw[List.getElem?_take] at hv
      split at hv
      ·simpa using hv
      ·cases hv
     ·simp only[List.getElem?_toArray,List.getElem?_take] at hv
      split at hv
      ·exact hone (off+i) v (by simpa using hv)
      ·cases hv
     ·simp only[List.getElem?_toArray,List.getElem?_take] at hv hc
      split at hv
      ·rename_i hi
       rw[if_pos hi] at hc
       exact hr (off+i) v c (by simpa using hv) (by simpa using hc)
      ·cases hv
    ·cases hl
   | false=>
    simp only[Bool.false_eq_true,if_false,Option.map_eq_some_iff] at hl
    obtain⟨c,hc,rfl⟩:=hl
    have hi:off<vs.size:=by rw[hlen];exact(List.getElem?_eq_some_iff.1 hc).1
    exact⟨rfl,fin xX (Qfq (v:=vs[off]) hg (by rw[gD hh];simp[hi])) (hr off vs[off] c (by simp[hi]) hc)⟩
  ·cases hl
 ·rename_i ob i sz off
  split at hl
  ·rename_i l sz' dN
   obtain⟨es,hxl,nL⟩:=Q7 (h.dO ob _ dN)
   split at hl
   ·cases hl
   rename_i hsz
   simp only[Decidable.not_not] at hsz
   subst hsz
   obtain⟨m,k,hi,xX⟩:=hx.pz
   cases agg with
   | true=>
    simp only[if_true] at hl
    split at hl
    ·rename_i hoff
     cases hl
     obtain⟨rfl,rfl⟩:=hoff
     obtain⟨d,he,cW⟩:=hb
     simp only[E.eval,hxl,hi,Option.bind_some,D.idx] at he
     simp at he
     cases hem:es[m]? with
     | none=>simp[hem] at he
     | some e=>
     simp only[hem,Option.bind_some] at he
     obtain⟨hel,hec⟩:=nL m e hem
     have hle:n≤e.cells.length:=by omega
     obtain⟨v,hrun,hrd⟩:=lG (off:=m*n+0) hg hn hle (fun j d hd=>by simpa using hec j d hd)
     cases e with
     | agg cs=>
      simp only[D.bB] at he
      split at he
      ·rename_i dG
       cases he
       refine⟨rfl,fin xX hrun (.e (d:=.agg cs) (by simp[E.eval,cW]) ?_ (by simp))⟩
       rw[D.E6 hel] at hrd
       exact hrd
      ·cases he
     | _=>simp[D.bB] at he
    ·cases hl
   | false=>
    simp only[Bool.false_eq_true,if_false] at hl
    cases hl
    obtain⟨d,he,cW⟩:=hb
    simp only[E.eval,hxl,hi,Option.bind_some,D.idx] at he
    simp at he
    cases hem:es[m]? with
    | none=>simp[hem] at he
    | some e=>
    simp only[hem,Option.bind_some,D.cell] at he
    obtain⟨hel,hec⟩:=nL m e hem
    obtain⟨h1,h2⟩:=hec off d he
    obtain⟨v,hrun,hrd⟩:=nK (P:=P) hg h2
    exact⟨rfl,fin xX hrun (.e (d:=d) (by simp[E.eval,cW]) hrd fun _=>h1)⟩
  ·cases hl
 ·rename_i y off
  obtain⟨dy,hy,hrd⟩:=hx.uO
  obtain⟨b,f,xX,hc⟩:=hrd.kK
  have zf:∀(j:Nat) (d:D),(dy.cells.drop off)[j]? = some d→d.one=true∧∃u,w.cell? ⟨b,f+j,none⟩=some u∧bU w ρ.S u d:=fun j d hj=>⟨(hc j d hj).1,(hc j d hj).2.2⟩
  cases agg with
  | true=>
   simp only[if_true] at hl
   split at hl
   ·rename_i hoff
    cases hl
    subst hoff
    obtain⟨d,he,cW⟩:=hb
    simp only[E.eval,hy,Option.bind_some] at he
    cases dy with
    | agg cs=>
     simp only[D.bB] at he
     split at he
     ·rename_i dG
      cases he
      have hle:n≤((D.agg cs).cells.drop 0).length:=by simp[D.cells];omega
      obtain⟨v,hrun,hrd⟩:=lG hg hn hle zf
      refine⟨rfl,fin xX hrun (.e (d:=.agg cs) (by simp[E.eval,cW]) ?_ (by simp))⟩
      simpa[D.cells,←dG] using hrd
     ·cases he
    | _=>simp[D.bB] at he
   ·rename_i hoff
    cases hl
    obtain⟨d,he,cW⟩:=hb
    simp only[E.eval,hy,Option.bind_some] at he
    cases dy with
    | agg cs=>
     simp only[D.part] at he
     split at he
     ·rename_i dG
      cases he
      have hle:n≤((D.agg cs).cells.drop off).length:=by simp[D.cells];omega
      obtain⟨v,hrun,hrd⟩:=lG hg hn hle zf
      exact⟨rfl,fin xX hrun (.e (by simp[E.eval,cW];rfl) hrd (by simp))⟩
     ·cases he
    | _=>simp[D.part] at he
  | false=>
   simp only[Bool.false_eq_true,if_false] at hl
   cases hl
   obtain⟨d,he,cW⟩:=hb
   simp only[E.eval,hy,Option.bind_some,D.cell] at he
   obtain⟨h1,h2⟩:=zf 0 d (by simpa using he)
   obtain⟨v,hrun,hrd⟩:=nK (P:=P) hg h2
   exact⟨rfl,fin xX hrun (.e (d:=d) (by simp[E.eval,cW]) hrd fun _=>h1)⟩
 ·rename_i p s
  cases hl
  obtain⟨dp,hp,hrd,_⟩:=hx.kC
  obtain⟨d,he,cW⟩:=hb
  simp only[E.eval,hp,Option.bind_some,Option.bind_eq_some_iff] at he
  obtain⟨dh,hh,he⟩:=he
  obtain⟨bs,rfl,hst⟩:=VH h hh
  obtain⟨b,off,u,hv,hrun,N3,h1⟩:=NN hg hn hrd hst he
  exact⟨rfl,fin hv hrun (.e (d:=d) (by simp[E.eval,cW]) N3 h1)⟩
 ·cases hl

end

end
end

section
noncomputable section
section
variable {P:Program} {w w0:World} {X:kG} {a:Act} {σ:af} {env:List D} {ρ:dJ}

theorem bU.D1 {S:Sets}{v:Value}{es:List D}(h:bU w S v (.bq es)):∃ad n c,v=.slice ad n c∧n=es.length:=by
 cases h with
 | nil=>exact⟨_,_,_,rfl,rfl⟩
 | emp _=>exact⟨_,_,_,rfl,rfl⟩
 | bq hl=>exact⟨_,_,_,rfl,hl⟩

theorem SV.E7 {agg:Bool}{n ix:Nat}{sv:SV}{ys:List SV}{b:Option Bind}{v:Value}(fP:∀o x,σ.obj o=some x→iB w ρ env o x)(h:sv.cellsOf agg n ix σ.obj=some (ys,b))(hb:cn P env ix b)(hr:ef w ρ env v sv) :
  v.cells.size=ys.length∧(∀(i:Nat) (u:Value),v.cells[i]? = some u→u.oneCell'=true)∧∀(i:Nat) (u:Value) (c:SV),v.cells[i]? = some u→ys[i]? = some c→ef w ρ env u c:=by
 unfold SV.cellsOf at h
 cases agg with
 | true=>
  simp only[if_true] at h
  obtain⟨vs,rfl,h1,h2,h3,h4⟩:=SV.TR (P:=P) h hb hr
  exact⟨by simp[Value.cells,h1,h2],h3,h4⟩
 | false=>
  simp only[Bool.false_eq_true,if_false] at h
  have one:∀{sv:SV},v.oneCell'=true→ef w ρ env v sv→v.cells.size=[sv].length∧(∀(i:Nat) (u:Value),v.cells[i]? = some u→u.oneCell'=true)∧∀(i:Nat) (u:Value) (c:SV),v.cells[i]? = some u→[sv][i]? = some c→ef w ρ env u c:=by
   intro sv h1 hs
   have hc:v.cells=#[v]:=by cases v <;> first | rfl | simp[Value.oneCell'] at h1
   rw[hc]
   refine⟨rfl,fun i u hu=>?_,fun i u c hu zf=>?_⟩
   ·cases i with
    | zero=>simp at hu;subst hu;exact h1
    | succ i=>simp at hu
   ·cases i with
    | zero=>simp at hu zf;subst hu zf;exact hs
    | succ i=>simp at hu
  split at h
  ·rename_i x
   cases h
   obtain⟨d,hx,hd,h1⟩:=hr.kC
   exact one (hd.one (h1 rfl)) hr
  ·rename_i x
   cases h
   obtain⟨d,hx,hd,_⟩:=hr.kC
   obtain⟨d',he,_⟩:=hb
   simp only[E.eval,hx,Option.bind_some,D.bt] at he
   split at he
   ·rename_i h1
    exact one (hd.one h1) (.e hx hd fun _=>h1)
   ·cases he
  ·rename_i o
   split at h
   ·rename_i l sz ho
    cases h
    have hv:=hr.sH
    obtain⟨vs,ty,es,_,_,_,_,_,hval,_⟩:=fP o _ ho
    exact one (by rw[hv,hval];rfl) hr
   ·cases h
  ·cases h;exact one (by rw[hr.lP];rfl) hr
  ·cases h;obtain⟨_,_,_,hv⟩:=hr.pz;exact one (by rw[hv];rfl) hr
  ·cases h;obtain⟨_,_,hd⟩:=hr.uO;exact one (hd.one rfl) hr
  ·cases h;obtain⟨_,_,hd,_⟩:=hr.yH;exact one (hd.one rfl) hr
  ·cases h;obtain⟨_,hv,_⟩:=hr.rV;exact one (by rw[hv];rfl) hr
  ·cases h

theorem xI {o:Oper} {t:TypeId} {x y:Operand} {b off n:Nat} {cur:Array Value} {ty:TypeId} (ho:o.op=.store t x y) (hx:a.eval x=.pointer (some ⟨b,off,none⟩)) (hn:w9 P t=some n) (hl:(a.eval y).cells.size=n)
  (hone:∀(i:Nat) (u:Value),(a.eval y).cells[i]? = some u→u.oneCell'=true) (hh:w.heap[b]? = some (.cells cur ty (0,0))) (hfit:off+n≤cur.size) :
  (execOp a.eval o).run P w=.ok .skip (w.setRow b (cur.toList.take off++(a.eval y).cells.toList++cur.toList.drop (off+n)).toArray):=by
 have hst:=run_storeCells_at P b off ty (a.eval y).cells.toList 0 cur w hh (by simp[hl];omega) (fun v hv=>by
  obtain⟨i,hi⟩:=List.getElem?_of_mem hv
  exact hone i v (by simpa using hi))
 simp only[Nat.add_zero,Array.length_toList,hl] at hst
 unfold execOp
 simp only[ho,hx,Instr.storeAt,Instr.sureAddr,storeVar,Sem.run_bind,Sem.run_pure,Result.andThen_ok,run_sizeOf hn]
 simp[hl,hst]

theorem j7 {α:Type}(cs ys:List α)(off:Nat)(h:off+ys.length≤cs.length)(i:Nat):(cs.take off++ys++cs.drop (off+ys.length))[i]? = if i<off then cs[i]? else if i<off+ys.length then ys[i-off]? else cs[i]?:=by
 have h1:(cs.take off).length=off:=by simp;omega
 split
 ·rename_i hi
  rw[List.append_assoc,List.getElem?_append_left (by omega),List.getElem?_take,if_pos hi]
 ·rename_i hi
  split
  ·rename_i hj
   rw[List.append_assoc,List.getElem?_append_right (by omega),h1,List.getElem?_append_left (by omega)]
  ·rename_i hj
   rw[List.getElem?_append_right (by simp;omega),List.getElem?_drop]
   congr 1
   simp
   omega

theorem bU.Mc {S:Sets}{v:Value}{d:D}(h:bU w S v d)(ho:d.cells.all (·.one)=true):v.cells.size=d.cells.length∧(∀(i:Nat) (u:Value),v.cells[i]? = some u→u.oneCell'=true) ∧
  ∀(i:Nat) (u:Value) (c:D),v.cells[i]? = some u→d.cells[i]? = some c→bU w S u c:=by
 have one:d.one=true→d.cells=[d]∧v.cells=#[v]∧v.oneCell'=true:=fun h1=>by
  have h1v:=h.one h1
  exact⟨D.Qhz h1,by cases v <;> first | rfl | simp[Value.oneCell'] at h1v,h1v⟩
 by_cases h1:d.one=true
 ·obtain⟨e1,e2,e3⟩:=one h1
  rw[e1,e2]
  refine⟨rfl,fun j u hu=>?_,fun j u c hu hc=>?_⟩
  ·cases j with
   | zero=>simp at hu;subst hu;exact e3
   | succ j=>simp at hu
  ·cases j with
   | zero=>simp at hu hc;subst hu hc;exact h
   | succ j=>simp at hu
 ·cases h with
  | agg hl ho' hh=>
   refine⟨hl,fun j u hu=>?_,fun j u c hu hc=>hh j u c hu hc⟩
   rename_i vs ds
   have hj:j<ds.length:=by rw[←hl];exact(Array.getElem?_eq_some_iff.1 hu).1
   exact(hh j u _ hu (List.getElem?_eq_getElem hj)).one (ho' j _ (List.getElem?_eq_getElem hj))
  | bh hl hh=>simp[D.cells,D.one] at ho
  | _=>exact absurd rfl h1

theorem Xm {cf:cz} {hx y' px:E} {x y:Operand} {n ix:Nat} {o:Oper} {t:TypeId} {sy:SV} {sp:Bool} (ho:o.op=.store t x y) (hn:w9 P t=some n) (dN:σ.obj bN=some (.store cf hx)) (hro:cf.ro=false) (hp:ef w ρ env (a.eval x) (.e px sp)) (S8:sy.jx=some y') (hy:ef w ρ env (a.eval y) sy)
  (h:cu w0 X w a σ env ρ) (hd:∀d,o.dst=some d→d<σ.tmps.length) (hb:cn P env ix (some (.ev (.gQ n hx px y')))):gq P o a w w0 X ((σ.setObj bN (some (.store cf (.sym ix)))).put o.dst .cE) env:=by
 obtain⟨dp,hpe,afw,_⟩:=hp.kC
 obtain⟨dy,Vp,ak3⟩:=SV.ck S8 hy
 obtain⟨bs,jC,hst,_⟩:=h.dO _ _ dN
 obtain⟨d,he,cW⟩:=hb
 simp only[E.eval,hpe,Vp,jC,Option.bind_some] at he
 cases dp with
 | loc i off=>
  simp only[D.gQ,Option.bind_eq_some_iff] at he
  obtain⟨aE,hcb,he⟩:=he
  split at he
  ·rename_i hc
   cases he
   obtain⟨hc1,FP,hc3⟩:=hc
   have oh:=oW hcb
   obtain⟨hf,vs,⟨_,hh,hty⟩,hsz,hlen,hone,hr,oa⟩:=hst.cells i _ _ _ oh
   obtain⟨hy1,hy2,hy3⟩:=ak3.Mc hc3
   have uT:a.eval x=.pointer (some ⟨ρ.S.loc i,off,none⟩):=by
    generalize a.eval x=v at afw
    cases afw
    rfl
   have hrun:=xI (P:=P) (w:=w) ho uT hn (by omega) hy2 hh (by omega)
   refine Qdx hrun ((h.setBlock (.inl rfl) dN (b0:=ρ.S.loc i) hf (by simpa[bl.ro] using hro) (by intro _ hh;exact hh) oa (fun b hb'=>setRow_other w _ b _ hb') rfl ⟨rfl,Nat.le_refl _⟩ rfl (by simp) fun hk=>?_).put (by rw[af.aZ];exact hd) .cE)
   have xW:(a.eval y).cells.toList.length=dy.cells.length:=by simpa using hy1
   refine⟨_,by simp only[E.eval];exact cW,hst.set hk oh rfl (fun j x _ _ hne=>setRow_other w _ _ _ hne) (fun e sz cs hz=>?_) (fun dL hz=>by cases hz) (fun hz=>by cases hz),rfl⟩
   cases hz
   refine⟨_,⟨_,setRow_heap w _ _ _ _ _ hh,hty⟩,?_,?_,?_,?_⟩
   ·simp only[List.size_toArray,List.length_append,List.length_take,List.length_drop,Array.length_toList,xW]
    omega
   ·simp only[List.size_toArray,List.length_append,List.length_take,List.length_drop,Array.length_toList,xW]
    omega
   ·intro j d fz
    rw[←hc1] at fz
    rw[j7 _ _ _ (by omega)] at fz
    split at fz
    ·exact hone j d fz
    ·split at fz
     ·exact List.all_eq_true.1 hc3 d (List.mem_of_getElem? fz)
     ·exact hone j d fz
   ·intro j v d hv fz
    rw[←hc1] at hv fz
    rw[j7 _ _ _ (by omega)] at fz
    simp only[List.getElem?_toArray] at hv
    rw[←xW] at hv fz
    rw[j7 _ _ _ (by simp;omega)] at hv
    split at hv
    ·rename_i hj
     rw[if_pos hj] at fz
     exact(hr j v d (by simpa using hv) fz).keep hk (Sets.le_refl _)
    ·rename_i hj
     rw[if_neg hj] at fz
     split at hv
     ·rename_i hj2
      rw[if_pos hj2] at fz
      exact(hy3 _ v d (by simpa using hv) fz).keep hk (Sets.le_refl _)
     ·rename_i hj2
      rw[if_neg hj2] at fz
      exact(hr j v d (by simpa using hv) fz).keep hk (Sets.le_refl _)
  ·cases he
 | _=>simp[D.gQ] at he

theorem Ia {o:Oper} {t:TypeId} {x y:Operand} {sx sy:SV} {ix:Nat} {r:eV} (ho:o.op=.store t x y) (hl:AA P t sx sy σ.obj ix=some r) (hx:ef w ρ env (a.eval x) sx) (hy:ef w ρ env (a.eval y) sy) (h:cu w0 X w a σ env ρ)
  (hd:∀d,o.dst=some d→d<σ.tmps.length) (hm:∀ob y,σ.obj ob=some y→ob=bN∨ob<σ.mem.length) (hb:cn P env ix r.bind):∃ob z,r.eM=some (ob,z)∧(σ.obj ob).isSome∧r.val=.cE∧gq P o a w w0 X ((σ.setObj ob (some z)).put o.dst .cE) env:=by
 unfold AA at hl
 cases hg:lN P t with
 | none=>simp[hg] at hl
 | some agg=>
 cases hn:w9 P t with
 | none=>simp[hg,hn] at hl
 | some n=>
 simp only[hg,hn,Option.bind_some] at hl
 split at hl
 ·rename_i ob off
  split at hl
  ·rename_i cs dN
   obtain⟨⟨ys,b⟩,hcs,hl⟩:=Option.bind_eq_some_iff.1 hl
   simp only at hl
   split at hl
   ·rename_i hfit
    obtain⟨hfit,hyn⟩:=hfit
    cases hl
    refine⟨ob,_,rfl,by simp[dN],rfl,?_⟩
    obtain⟨h1,h2,h3⟩:=SV.E7 (P:=P) h.dO hcs hb hy
    obtain⟨vs,ty,hh,hlen,hone,hr,hS⟩:=h.dO ob _ dN
    have hrun:=xI (P:=P) (w:=w) ho hx.lP hn (by omega) h2 hh (by omega)
    refine Qdx hrun ((h.setBlock (hm ob _ dN) dN (b0:=ρ.aE ob) rfl rfl (by intro _ hh;exact hh) hS (fun b hb'=>setRow_other w _ b _ hb') rfl ⟨rfl,Nat.le_refl _⟩ rfl (by simp) fun hk=>?_).put (by rw[af.aZ];exact hd) .cE)
    have xW:(a.eval y).cells.toList.length=ys.length:=by simpa using h1
    refine⟨_,ty,setRow_heap w _ _ _ _ _ hh,?_,?_,?_,hS⟩
    ·simp only[List.size_toArray,List.length_append,List.length_take,List.length_drop,Array.length_toList,h1,hlen]
     omega
    ·intro i v hv
     rw[←hyn,←xW] at hv
     simp only[List.getElem?_toArray] at hv
     rw[j7 _ _ _ (by simp[h1,hlen];omega)] at hv
     split at hv
     ·exact hone i v (by simpa using hv)
     ·split at hv
      ·exact h2 _ v (by simpa using hv)
      ·exact hone i v (by simpa using hv)
    ·intro i v c hv hc
     rw[←hyn,←xW] at hv
     simp only[List.getElem?_toArray] at hv
     rw[j7 _ _ _ (by simp[h1,hlen];omega)] at hv
     rw[j7 _ _ _ hfit] at hc
     rw[xW] at hv
     have hold:∀{v c},vs.toList[i]? = some v→cs[i]? = some c→ef (w.setRow (ρ.aE ob) (vs.toList.take off++(a.eval y).cells.toList++vs.toList.drop (off+n)).toArray) ρ env v c:=
      fun hv hc=>(hr i _ _ (by simpa using hv) hc).keep hk (dJ.vB.refl ρ fun _=>False) fun _ hf=>hf.elim
     split at hv
     ·rename_i hi;rw[if_pos hi] at hc;exact hold hv hc
     ·rename_i hi
      rw[if_neg hi] at hc
      split at hv
      ·rename_i hj;rw[if_pos hj] at hc
       exact(h3 _ v c (by simpa using hv) hc).keep hk (dJ.vB.refl ρ fun _=>False) fun _ hf=>hf.elim
      ·rename_i hj;rw[if_neg hj] at hc;exact hold hv hc
   ·cases hl
  ·cases hl
 ·rename_i ob i sz off
  split at hl
  ·rename_i l sz' dN
   split at hl
   ·cases hl
   rename_i hsz
   simp only[Decidable.not_not] at hsz
   subst hsz
   obtain⟨m,k,hi,xX⟩:=hx.pz
   have fin:∀{y':E} {dy:D},y'.eval env=some dy→bU w ρ.S (a.eval y) dy→dy.cells.length=n→(a.eval y).cells.size=n→(∀(j:Nat) (u:Value),(a.eval y).cells[j]? = some u→u.oneCell'=true) →
     (∀(j:Nat) (u:Value) (d:D),(a.eval y).cells[j]? = some u→dy.cells[j]? = some d→d.one=true∧bU w ρ.S u d)→cn P env ix (some (.ev (.set l i off y'))) →
     gq P o a w w0 X ((σ.setObj ob (some (.row (.sym ix) sz))).put o.dst .cE) env:=by
    intro y' dy Vp hrd cP dG hc1 IU GS
    obtain⟨vs,ty,es,hh,hxl,hz,hvl,hr,hval,MB,hS⟩:=h.dO ob _ dN
    obtain⟨dn,he,cW⟩:=GS
    simp only[E.eval,hxl,hi,Vp,Option.bind_some,D.set] at he
    simp only[Int.natCast_nonneg,if_true,Int.toNat_natCast] at he
    cases hem:es[m]? with
    | none=>simp[hem] at he
    | some e=>
    simp only[hem,Option.bind_some,Option.map_eq_some_iff] at he
    obtain⟨e',hput,rfl⟩:=he
    have hme:m<es.length:=(List.getElem?_eq_some_iff.1 hem).1
    have hel:=hz m e hem
    have hnew:off+n≤sz∧e'.cells=e.cells.take off++dy.cells++e.cells.drop (off+n):=by
     unfold D.putAt at hput
     split at hput
     ·rename_i cs
      split at hput
      ·rename_i hle
       cases hput
       have hel:cs.length=sz:=hel
       show off+n≤sz∧cs.take off++dy.cells++cs.drop (off+dy.cells.length)=cs.take off++dy.cells++cs.drop (off+n)
       rw[cP] at hle ⊢
       exact⟨by omega,rfl⟩
      ·cases hput
     ·rename_i hna
      split at hput
      ·rename_i RR
       cases hput
       obtain⟨rfl,h1⟩:=RR
       have W6:e.cells=[e]:=by cases e <;> first | rfl | exact absurd rfl (hna _)
       have IT:=D.Qhz h1
       rw[W6] at hel
       rw[IT] at cP
       simp at hel cP
       subst cP
       rw[W6,IT]
       exact⟨by omega,by simp⟩
      ·cases hput
    obtain⟨hon,hcells⟩:=hnew
    have aq3:m*sz+sz≤es.length*sz:=by
     have:=Nat.mul_le_mul_right sz (show m+1≤es.length from hme)
     rwa [Nat.add_mul,Nat.one_mul] at this
    have hrun:=xI (P:=P) (w:=w) ho xX hn dG hc1 hh (by omega)
    refine Qdx hrun ((h.setBlock (hm ob _ dN) dN (b0:=ρ.aE ob) rfl rfl (by intro _ hh;exact hh) hS (fun b hb'=>setRow_other w _ b _ hb') rfl ⟨rfl,Nat.le_refl _⟩ rfl (by simp) fun hk=>?_).put (by rw[af.aZ];exact hd) .cE)
    have xW:(a.eval y).cells.toList.length=n:=by simpa using dG
    have alf:∀i,(vs.toList.take (m*sz+off)++(a.eval y).cells.toList++vs.toList.drop (m*sz+off+n))[i]? = if i<m*sz+off then vs[i]? else if i<m*sz+off+n then(a.eval y).cells[i-(m*sz+off)]? else vs[i]?:=by
     intro i
     have:=j7 vs.toList (a.eval y).cells.toList (m*sz+off) (by rw[xW];simp;omega) i
     rw[xW] at this
     simpa using this
    have alV:e'.cells.length=sz:=by
     rw[hcells]
     simp only[List.length_append,List.length_take,List.length_drop,cP,hel]
     omega
    refine⟨_,ty,es.set m e',setRow_heap w _ _ _ _ _ hh,by simp[E.eval,cW],?_,?_,?_,by simpa using hval,by simpa using MB,hS⟩
    ·intro j e2 hj
     by_cases Zu:m=j
     ·subst Zu
      simp[hme] at hj
      subst hj
      exact alV
     ·rw[List.getElem?_set_ne Zu] at hj
      exact hz j e2 hj
    ·simp only[List.size_toArray,List.length_append,List.length_take,List.length_drop,Array.length_toList,dG,hvl,List.length_set]
     omega
    ·intro j e2 c d hj hd2
     have arq:c<sz:=by
      have rT:=(List.getElem?_eq_some_iff.1 hd2).1
      by_cases Zu:m=j
      ·subst Zu
       simp[hme] at hj
       subst hj
       omega
      ·rw[List.getElem?_set_ne Zu] at hj
       have:=hz j e2 hj;omega
     have hlt:∀{j},j<m→j*sz+sz≤m*sz:=fun {j} hjm=>by
      have:=Nat.mul_le_mul_right sz (show j+1≤m from hjm)
      rwa [Nat.add_mul,Nat.one_mul] at this
     have hgt:∀{j},m<j→m*sz+sz≤j*sz:=fun {j} hjm=>by
      have:=Nat.mul_le_mul_right sz (show m+1≤j from hjm)
      rwa [Nat.add_mul,Nat.one_mul] at this
     simp only[List.getElem?_toArray,alf]
     have P_:∀{u:Value} {d:D},bU w ρ.S u d→bU (w.setRow (ρ.aE ob) (vs.toList.take (m*sz+off)++(a.eval y).cells.toList++vs.toList.drop (m*sz+off+n)).toArray) ρ.S u d:=fun hu=>hu.keep hk (Sets.le_refl _)
     by_cases Zu:m=j
     ·subst Zu
      simp[hme] at hj
      subst hj
      rw[hcells,show off+n=off+dy.cells.length from by omega,j7 _ _ _ (by omega)] at hd2
      split at hd2
      ·rename_i hc
       obtain⟨h1,v,hv,oP⟩:=hr m e c d hem hd2
       exact⟨h1,v,by rw[if_pos (by omega)];exact hv,P_ oP⟩
      ·split at hd2
       ·rename_i hc FP
        have GO:c-off<(a.eval y).cells.size:=by omega
        obtain⟨h1,h2⟩:=IU (c-off) _ d (Array.getElem?_eq_getElem GO) hd2
        refine⟨h1,(a.eval y).cells[c-off],?_,P_ h2⟩
        rw[if_neg (by omega),if_pos (by omega),show m*sz+c-(m*sz+off)=c-off from by omega]
        exact Array.getElem?_eq_getElem GO
       ·rename_i hc FP
        obtain⟨h1,v,hv,oP⟩:=hr m e c d hem hd2
        exact⟨h1,v,by rw[if_neg (by omega),if_neg (by omega)];exact hv,P_ oP⟩
     ·rw[List.getElem?_set_ne Zu] at hj
      obtain⟨h1,v,hv,oP⟩:=hr j e2 c d hj hd2
      refine⟨h1,v,?_,P_ oP⟩
      rcases Nat.lt_or_ge j m with hjm | hjm
      ·have:=hlt hjm
       rw[if_pos (by omega)];exact hv
      ·have:=hgt (show m<j from by omega)
       rw[if_neg (by omega),if_neg (by omega)];exact hv
   have one:∀{dy:D},dy.one=true→bU w ρ.S (a.eval y) dy→(a.eval y).cells.size=1∧(∀(j:Nat) (u:Value),(a.eval y).cells[j]? = some u→u.oneCell'=true) ∧
     ∀(j:Nat) (u:Value) (d:D),(a.eval y).cells[j]? = some u→dy.cells[j]? = some d→d.one=true∧bU w ρ.S u d:=by
    intro dy h1 hrd
    have h1v:=hrd.one h1
    have hc:(a.eval y).cells=#[a.eval y]:=by cases hv:a.eval y <;> first | rfl | (rw[hv] at h1v;simp[Value.oneCell'] at h1v)
    rw[hc,D.Qhz h1]
    refine⟨rfl,fun j u hu=>?_,fun j u d hu fz=>?_⟩
    ·cases j with
     | zero=>simp at hu;subst hu;exact h1v
     | succ j=>simp at hu
    ·cases j with
     | zero=>simp at hu fz;subst hu fz;exact⟨h1,hrd⟩
     | succ j=>simp at hu
   split at hl
   ·rename_i y'
    split at hl
    ·rename_i hn1
     cases hl
     refine⟨ob,_,rfl,by simp[dN],rfl,?_⟩
     obtain⟨dy,Vp,hrd,h1⟩:=hy.kC
     obtain⟨ha,hb',hc⟩:=one (h1 rfl) hrd
     exact fin Vp hrd (by rw[D.Qhz (h1 rfl)];simp[hn1]) (by omega) hb' hc hb
    ·cases hl
   ·rename_i y'
    split at hl
    ·rename_i hn1
     cases hl
     refine⟨ob,_,rfl,by simp[dN],rfl,?_⟩
     obtain⟨dy,Vp,hrd,_⟩:=hy.kC
     have h1:dy.one=true:=by
      obtain⟨d,he,_⟩:=hb
      simp only[E.eval,Vp,Option.bind_some,D.bt] at he
      cases hl':l.eval env with
      | none=>simp[hl'] at he
      | some dl=>
       cases hi':i.eval env with
       | none=>simp[hl',hi'] at he
       | some di=>
        by_cases h1:dy.one=true
        ·exact h1
        ·simp[hl',hi',h1] at he
     obtain⟨ha,hb',hc⟩:=one h1 hrd
     exact fin (y':=.bt y') (by simp[E.eval,Vp,D.bt,h1]) hrd (by rw[D.Qhz h1];simp[hn1]) (by omega) hb' hc hb
    ·cases hl
   ·rename_i y
    obtain⟨y',S8,rfl⟩:=Option.map_eq_some_iff.1 hl
    refine⟨ob,_,rfl,by simp[dN],rfl,?_⟩
    obtain⟨dy,Vp,hrd⟩:=SV.ck S8 hy
    have hag:∃cs,dy=.agg cs∧cs.length=n:=by
     obtain⟨d,he,_⟩:=hb
     simp only[E.eval,Vp,Option.bind_some] at he
     cases hl':l.eval env with
     | none=>simp[hl'] at he
     | some dl=>
      cases hi':i.eval env with
      | none=>simp[hl',hi'] at he
      | some di=>
       cases dy with
       | agg cs=>
        by_cases dG:cs.length=n
        ·exact⟨cs,rfl,dG⟩
        ·simp[hl',hi',D.bB,dG] at he
       | _=>simp[hl',hi',D.bB] at he
    obtain⟨cs,rfl,dG⟩:=hag
    obtain⟨vs,hve,hvl,MA,hh⟩:=hrd.lV
    refine fin (y':=.bB n y') (dy:=.agg cs) (by simp[E.eval,Vp,D.bB,dG]) hrd dG (by rw[hve];simp[Value.cells];omega) (fun j u hu=>?_) (fun j u d hu fz=>?_) hb
    ·rw[hve] at hu
     have hj:j<cs.length:=by rw[←hvl];exact(Array.getElem?_eq_some_iff.1 hu).1
     exact(hh j u _ hu (List.getElem?_eq_getElem hj)).one (MA j _ (List.getElem?_eq_getElem hj))
    ·rw[hve] at hu
     exact⟨MA j d fz,hh j u d hu fz⟩
   ·cases hl
  ·cases hl
 ·rename_i p s
  split at hl
  ·rename_i cf hx' y' dN S8
   split at hl
   ·cases hl
   ·rename_i hro
    cases hl
    exact⟨bN,_,rfl,by simp[dN],rfl,Xm ho hn dN (by simpa using hro) hx S8 hy h hd hb⟩
  ·cases hl
 ·cases hl

end
end
end

section
noncomputable section
section
variable {P:Program} {w w0:World} {X:kG} {a:Act} {σ:af} {env:List D} {ρ:dJ}

theorem bS {o:Oper}{v:Value}{sv:SV}(h:cu w0 X w a σ env ρ)(hd:∀d,o.dst=some d→d<σ.tmps.length)(hr:(execOp a.eval o).run P w=.ok (.value v) w)(hs:ef w ρ env v sv):gq P o a w w0 X (σ.put o.dst sv) env:=
 c_ hr (h.put hd hs)

theorem Bu {o:Oper}{x:Operand}{sx:SV}(ho:o.op=.move x∨o.op=.assign x)(hx:ef w ρ env (a.eval x) sx)(h:cu w0 X w a σ env ρ)(hd:∀d,o.dst=some d→d<σ.tmps.length):gq P o a w w0 X (σ.put o.dst sx) env:=
 bS h hd (by rcases ho with ho | ho <;> (unfold execOp;simp only[ho];rfl)) hx

theorem bU.KN {S:Sets}{v:Value}{i off:Nat}(h:bU w S v (.loc i off)):∃ad,v=.pointer (some ad):=by
 cases h;exact⟨_,rfl⟩

theorem bU.v_eq {S:Sets}{v x:Value}(h:bU w S v (.v x)):v=x:=h.Pk.1

theorem GD {t:TypeId}(h:kindOf P t=some .mp):∃k e,P.underlying t=some (.map k e):=by
 unfold kindOf at h
 split at h <;> simp at h
 exact⟨_,_,by assumption⟩

theorem bU.XW {w:World}{S:Sets}{v:Value}{i:Nat}(h:bU w S v (.mp i)):∃r,v=.map (some r):=by
 cases h;exact⟨_,rfl⟩

theorem nx {t:TypeId}(h:kindOf P t=some .ptr):∃e,P.underlying t=some (.pointer e):=by
 unfold kindOf at h
 split at h <;> simp at h
 exact⟨_,by assumption⟩

theorem K6 {t:TypeId}(h:kindOf P t=some .bool):P.underlying t=some .bool:=by
 unfold kindOf at h
 split at h <;> simp at h
 assumption

theorem zl (d:Nat)(t e:TypeId)(p:Option Addr)(h:P.underlying t=some (.pointer e)):(Op.equalIn (d+1) t (.pointer p) (.pointer none)).run P w=.ok p.isNone w:=by
 simp only[Op.equalIn,Sem.run_bind,run_underlying h,Result.andThen_ok]
 cases p <;> rfl
theorem zk (d:Nat)(t e:TypeId)(p:Option Addr)(h:P.underlying t=some (.pointer e)):(Op.equalIn (d+1) t (.pointer none) (.pointer p)).run P w=.ok p.isNone w:=by
 simp only[Op.equalIn,Sem.run_bind,run_underlying h,Result.andThen_ok]
 rfl
theorem zm (t e:TypeId)(p:Option Addr)(h:P.underlying t=some (.pointer e)):(binOp .eql t (.pointer p) (.pointer none)).run P w=.ok (.bool p.isNone) w:=by
 have h1:(Op.equal t (.pointer p) (.pointer none)).run P w=.ok p.isNone w:=zl 9999 t e p h
 simp only[binOp,Sem.run_bind,h1,Result.andThen_ok,Sem.run_pure]
theorem yO (t e:TypeId)(p:Option Addr)(h:P.underlying t=some (.pointer e)):(binOp .neq t (.pointer p) (.pointer none)).run P w=.ok (.bool (!p.isNone)) w:=by
 have h1:(Op.equal t (.pointer p) (.pointer none)).run P w=.ok p.isNone w:=zl 9999 t e p h
 simp only[binOp,Sem.run_bind,h1,Result.andThen_ok,Sem.run_pure]
theorem EL (t e:TypeId)(p:Option Addr)(h:P.underlying t=some (.pointer e)):(binOp .eql t (.pointer none) (.pointer p)).run P w=.ok (.bool p.isNone) w:=by
 have h1:(Op.equal t (.pointer none) (.pointer p)).run P w=.ok p.isNone w:=zk 9999 t e p h
 simp only[binOp,Sem.run_bind,h1,Result.andThen_ok,Sem.run_pure]
theorem DQ (t e:TypeId)(p:Option Addr)(h:P.underlying t=some (.pointer e)):(binOp .neq t (.pointer none) (.pointer p)).run P w=.ok (.bool (!p.isNone)) w:=by
 have h1:(Op.equal t (.pointer none) (.pointer p)).run P w=.ok p.isNone w:=zk 9999 t e p h
 simp only[binOp,Sem.run_bind,h1,Result.andThen_ok,Sem.run_pure]

theorem sJ {t:TypeId}{xs:Array Value}{i:Nat}{v:Value}(hg:lN P t=some false)(hv:xs[i]? = some v):(part t xs i).run P w=.ok v w:=by
 simp[part,Ae hg,hv]

theorem sM {d:Nat}{xs ys:Array Value}{dx dy:List D}{S:Sets}(hxl:xs.size=dx.length)(xW:ys.size=dy.length)(hx:∀(i:Nat) (v:Value) (c:D),xs[i]? = some v→dx[i]? = some c→bU w S v c)(hy:∀(i:Nat) (v:Value) (c:D),ys[i]? = some v→dy[i]? = some c→bU w S v c) :
  ∀(fs:List Field) (i:Nat) (ks:List Nat) (b:Bool),gP P i fs=some ks→D.eqs ks (dx.drop i) (dy.drop i)=some b→(Op.eqFields (d+1) xs ys fs).run P w=.ok b w
 | [],i,ks,b,hf,he=>by
  simp only[gP] at hf
  cases hf
  cases h1:dx.drop i <;> cases h2:dy.drop i <;> rw[h1,h2] at he <;> simp[D.eqs] at he
  subst he
  simp[Op.eqFields]
 | f :: fs,i,ks,b,hf,he=>by
  simp only[gP] at hf
  split at hf
  ·rename_i hc
   obtain⟨hoff,hname⟩:=hc
   have key:∀{ks':List Nat} {cx cy:D} {rx ry:List D} {r b':Bool},dx.drop i=cx :: rx→dy.drop i=cy :: ry→gP P (i+1) fs=some ks'→lN P f.type=some false →
     (∀{u v:Value},bU w S u cx→bU w S v cy→(Op.equalIn (d+1) f.type u v).run P w=.ok r w)→D.eqs ks' rx ry=some b'→b=(r&&b')→(Op.eqFields (d+1) xs ys (f :: fs)).run P w=.ok b w:=by
    intro ks' cx cy rx ry r b' h1 h2 hks ic hr hb' hbb
    have mU:i<dx.length:=by
     rcases Nat.lt_or_ge i dx.length with h | h
     ·exact h
     ·rw[List.drop_of_length_le h] at h1;cases h1
    have Yk:i<dy.length:=by
     rcases Nat.lt_or_ge i dy.length with h | h
     ·exact h
     ·rw[List.drop_of_length_le h] at h2;cases h2
    rw[List.drop_eq_getElem_cons mU] at h1
    rw[List.drop_eq_getElem_cons Yk] at h2
    cases h1;cases h2
    have hpx:(part f.type xs f.offset).run P w=.ok xs[i] w:=sJ ic (by rw[hoff];simp[hxl,mU])
    have hpy:(part f.type ys f.offset).run P w=.ok ys[i] w:=sJ ic (by rw[hoff];simp[xW,Yk])
    have hrr:=hr (hx i xs[i] dx[i] (by simp[hxl,mU]) (by simp[mU])) (hy i ys[i] dy[i] (by simp[xW,Yk]) (by simp[Yk]))
    have RG:=sM (d:=d) hxl xW hx hy fs (i+1) ks' b' hks hb'
    simp only[Op.eqFields,hname,ne_eq,not_false_eq_true,if_true,Sem.run_bind,hpx,hpy,hrr,Result.andThen_ok]
    cases r with
    | false=>simp[hbb]
    | true=>simp[hbb,RG]
   split at hf
   ·rename_i k hu
    obtain⟨ks',hks,rfl⟩:=Option.map_eq_some_iff.1 hf
    unfold D.eqs at he
    split at he <;> first | (rename_i e _ _;cases e;done) | skip
    ·rename_i e1 e2 e3
     cases e1
     split at he
     ·rename_i hk
      subst hk
      obtain⟨b',h1,rfl⟩:=Option.map_eq_some_iff.1 he
      exact key e2 e3 hks (by unfold lN;rw[hu];rfl) (fun JF hv1=>by rw[JF.v_eq,hv1.v_eq];exact run_equalIn_int w d f.type _ k _ _ hu) h1 rfl
     ·cases he
    ·cases he
   ·rename_i hu
    obtain⟨ks',hks,rfl⟩:=Option.map_eq_some_iff.1 hf
    unfold D.eqs at he
    split at he <;> first | (rename_i e _ _;cases e;done) | skip
    ·rename_i e1 e2 e3
     cases e1
     obtain⟨b',h1,rfl⟩:=Option.map_eq_some_iff.1 he
     exact key e2 e3 hks (by unfold lN;rw[hu];rfl) (fun JF hv1=>by rw[JF.v_eq,hv1.v_eq];exact run_equalIn_bool' w d f.type _ _ hu) h1 rfl
    ·cases he
   ·rename_i hu
    obtain⟨ks',hks,rfl⟩:=Option.map_eq_some_iff.1 hf
    unfold D.eqs at he
    split at he <;> first | (rename_i e _ _;cases e;done) | skip
    ·rename_i e1 e2 e3
     cases e1
     obtain⟨b',h1,rfl⟩:=Option.map_eq_some_iff.1 he
     exact key e2 e3 hks (by unfold lN;rw[hu];rfl) (fun JF hv1=>by rw[JF.v_eq,hv1.v_eq];exact run_equalIn_string w d f.type _ _ hu) h1 rfl
    ·cases he
   ·cases hf
  ·cases hf

theorem XH {op:BinOp}{t:TypeId}{x y:Operand}{v u:Value}{kd:Kd}{dx dy dz:D}{S:Sets}(hk:kindOf P t=some kd)(hz:D.bin op kd dx dy=some dz)(hx:bU w S v dx)(hy:bU w S u dy) :
  ∃r,(do eqGuard op t x y v u;binOp op t v u:Sem Value).run P w=.ok r w∧bU w S r dz∧dz.one=true:=by
 unfold D.bin at hz
 split at hz
 ·rename_i k a k' b
  obtain rfl:=hx.v_eq
  obtain rfl:=hy.v_eq
  simp only[eqGuard_at_int,Sem.run_bind,Sem.run_pure,Result.andThen_ok]
  clear hk
  cases op
  case shl=>simp[shI] at hz;obtain⟨n,⟨hb,rfl⟩,rfl⟩:=hz;exact⟨_,by simp[binOp,Op.shift,show¬b<0 by omega],.v rfl,rfl⟩
  case shr=>simp[shI] at hz;obtain⟨n,⟨hb,rfl⟩,rfl⟩:=hz;exact⟨_,by simp[binOp,Op.shift,show¬b<0 by omega],.v rfl,rfl⟩
  case quo=>simp[mq,O7] at hz;obtain⟨rfl,n,⟨hb,rfl⟩,rfl⟩:=hz;exact⟨_,by simp[binOp,Op.intDiv,hb],.v rfl,rfl⟩
  case rem=>simp[mq,O7] at hz;obtain⟨rfl,n,⟨hb,rfl⟩,rfl⟩:=hz;exact⟨_,by simp[binOp,Op.intDiv,hb],.v rfl,rfl⟩
  all_goals (simp only[mq,O7,Option.map_some] at hz;by_cases hkk:k=k' <;> simp only[hkk,if_true,if_false,Option.some.injEq] at hz <;> first | (cases hz;done) | skip)
  all_goals (subst hkk;subst hz;exact⟨_,by simp[binOp,Op.intCmp,Op.intArith,Op.intBits],.v rfl,rfl⟩)
 ·rename_i b b'
  obtain rfl:=hx.v_eq
  obtain rfl:=hy.v_eq
  have ht:=K6 hk
  simp only[eqGuard_at_bool,Sem.run_bind,Sem.run_pure,Result.andThen_ok]
  split at hz <;> first | (cases hz;done) | skip
  ·cases hz;exact⟨_,run_eql_bool w t b b' ht,.v rfl,rfl⟩
  ·cases hz;exact⟨_,run_neq_bool w t b b' ht,.v rfl,rfl⟩
 ·rename_i s s'
  obtain rfl:=hx.v_eq
  obtain rfl:=hy.v_eq
  simp only[eqGuard_at_string,Sem.run_bind,Sem.run_pure,Result.andThen_ok]
  split at hz <;> first | (cases hz;done) | skip
  ·split at hz
   ·cases hz
   ·rename_i hsz
    cases hz
    exact⟨_,by simp only[binOp,Op.stringOp];rw[if_neg hsz];rfl,.v rfl,rfl⟩
  all_goals (cases hz;exact⟨_,by simp only[binOp,Op.stringOp];rfl,.v rfl,rfl⟩)
 ·obtain rfl:=hx.v_eq
  obtain rfl:=hy.v_eq
  obtain⟨e,ht⟩:=nx hk
  simp only[eqGuard_at_pointer,Sem.run_bind,Sem.run_pure,Result.andThen_ok]
  split at hz <;> first | (cases hz;done) | skip
  ·cases hz;exact⟨_,zm t e none ht,.v rfl,rfl⟩
  ·cases hz;exact⟨_,yO t e none ht,.v rfl,rfl⟩
 ·obtain⟨ad,rfl⟩:=hx.KN
  obtain rfl:=hy.v_eq
  obtain⟨e,ht⟩:=nx hk
  simp only[eqGuard_at_pointer,Sem.run_bind,Sem.run_pure,Result.andThen_ok]
  split at hz <;> first | (cases hz;done) | skip
  ·cases hz;exact⟨_,zm t e _ ht,.v rfl,rfl⟩
  ·cases hz;exact⟨_,yO t e _ ht,.v rfl,rfl⟩
 ·obtain rfl:=hx.v_eq
  obtain⟨ad,rfl⟩:=hy.KN
  obtain⟨e,ht⟩:=nx hk
  simp only[eqGuard_at_pointer,Sem.run_bind,Sem.run_pure,Result.andThen_ok]
  split at hz <;> first | (cases hz;done) | skip
  ·cases hz;exact⟨_,EL t e _ ht,.v rfl,rfl⟩
  ·cases hz;exact⟨_,DQ t e _ ht,.v rfl,rfl⟩
 ·obtain⟨b,f,rfl,_⟩:=hx.kK
  obtain rfl:=hy.v_eq
  obtain⟨e,ht⟩:=nx hk
  simp only[eqGuard_at_pointer,Sem.run_bind,Sem.run_pure,Result.andThen_ok]
  split at hz <;> first | (cases hz;done) | skip
  ·cases hz;exact⟨_,zm t e _ ht,.v rfl,rfl⟩
  ·cases hz;exact⟨_,yO t e _ ht,.v rfl,rfl⟩
 ·obtain rfl:=hx.v_eq
  obtain⟨b,f,rfl,_⟩:=hy.kK
  obtain⟨e,ht⟩:=nx hk
  simp only[eqGuard_at_pointer,Sem.run_bind,Sem.run_pure,Result.andThen_ok]
  split at hz <;> first | (cases hz;done) | skip
  ·cases hz;exact⟨_,EL t e _ ht,.v rfl,rfl⟩
  ·cases hz;exact⟨_,DQ t e _ ht,.v rfl,rfl⟩
 ·obtain⟨r,rfl⟩:=hx.XW
  obtain rfl:=hy.v_eq
  obtain⟨k,e,ht⟩:=GD hk
  have hg:(eqGuard op t x y (.map (some r)) (.map none)).run P w=.ok () w:=by cases op <;> simp[eqGuard]
  simp only[Sem.run_bind,hg,Result.andThen_ok]
  split at hz <;> first | (cases hz;done) | skip
  ·cases hz;exact⟨_,run_eql_map_nil w t k e _ ht,.v rfl,rfl⟩
  ·cases hz;exact⟨_,run_neq_map_nil w t k e _ ht,.v rfl,rfl⟩
 ·obtain rfl:=hx.v_eq
  obtain rfl:=hy.v_eq
  obtain⟨k,e,ht⟩:=GD hk
  have hg:(eqGuard op t x y (.map none) (.map none)).run P w=.ok () w:=by cases op <;> simp[eqGuard]
  simp only[Sem.run_bind,hg,Result.andThen_ok]
  split at hz <;> first | (cases hz;done) | skip
  ·cases hz;exact⟨_,run_eql_map_nil w t k e none ht,.v rfl,rfl⟩
  ·cases hz;exact⟨_,run_neq_map_nil w t k e none ht,.v rfl,rfl⟩
 ·rename_i ks dx dy
  obtain⟨xs,rfl,hxl,_,Qg⟩:=hx.lV
  obtain⟨ys,rfl,xW,_,hyr⟩:=hy.lV
  have hfl:∃fs:Array Field,P.underlying t=some (.struct fs)∧tf P t=some ks:=by
   unfold kindOf at hk
   split at hk <;> simp at hk
   exact⟨_,by assumption,hk⟩
  obtain⟨fs,hu,hfl⟩:=hfl
  unfold tf at hfl
  rw[hu] at hfl
  simp only at hfl
  split at hfl
  ·rename_i hc
   have hfo:P.fieldsOf t=fs:=by simp[Program.fieldsOf,hu]
   have heq:∀{b:Bool},D.eqs ks dx dy=some b→(Op.equalIn 10000 t (.agg xs) (.agg ys)).run P w=.ok b w:=by
    intro b hb
    rw[run_equalIn_agg w 9999 t xs ys (by rw[hfo];exact hu) hc.1,hfo]
    exact sM (d:=9998) hxl xW Qg hyr fs.toList 0 ks b hfl (by simpa using hb)
   have hg:=run_eqGuard_agg (P:=P) w op t x y xs ys hc.2
   simp only[Sem.run_bind,hg,Result.andThen_ok]
   split at hz
   ·obtain⟨b,hb,rfl⟩:=Option.map_eq_some_iff.1 hz
    exact⟨.bool b,by rw[run_eql_struct,heq hb];rfl,.v rfl,rfl⟩
   ·obtain⟨b,hb,rfl⟩:=Option.map_eq_some_iff.1 hz
    exact⟨.bool (!b),by rw[run_neq_struct,heq hb];rfl,.v rfl,rfl⟩
   ·cases hz
  ·cases hfl
 ·cases hz

theorem By {v:Value}{sv:SV}(h:ef w ρ env v sv)(ha:IC sv=true):∃ad,v=.pointer (some ad):=by
 cases sv <;> simp[IC] at ha
 ·exact⟨_,h.lP⟩
 ·obtain⟨_,_,_,hv⟩:=h.pz;exact⟨_,hv⟩
 ·obtain⟨_,_,hd⟩:=h.uO;obtain⟨b,f,hv,_⟩:=hd.kK;exact⟨_,hv⟩

theorem Bx {v:Value}{sv:SV}(h:ef w ρ env v sv)(ha:IA sv=true):v=.pointer none:=by
 unfold IA at ha
 split at ha
 ·obtain⟨d,hx,hd,_⟩:=h.kC
  simp[E.eval] at hx
  subst hx
  exact hd.v_eq
 ·simp at ha

theorem NR {o:Oper} {op:BinOp} {t yt:TypeId} {x y:Operand} {sx sy:SV} {ix:Nat} {r:eV} (ho:o.op=.binOp op t x y yt) (hl:aaJ P op t sx sy ix=some r) (hx:ef w ρ env (a.eval x) sx) (hy:ef w ρ env (a.eval y) sy) (h:cu w0 X w a σ env ρ)
  (hd:∀d,o.dst=some d→d<σ.tmps.length) (hb:cn P env ix r.bind):r.eM=none∧gq P o a w w0 X (σ.put o.dst r.val) env:=by
 unfold aaJ at hl
 have fH:∀{v:Value},(do eqGuard op t x y (a.eval x) (a.eval y);binOp op t (a.eval x) (a.eval y):Sem Value).run P w=.ok v w→(execOp a.eval o).run P w=.ok (.value v) w:=by
  intro v hv
  unfold execOp
  simp only[ho,Sem.run_bind]
  simp only[Sem.run_bind] at hv
  cases hg:(eqGuard op t x y (a.eval x) (a.eval y)).run P w with
  | halt _ _=>rw[hg] at hv;simp at hv
  | ok _ w1=>
   rw[hg] at hv
   simp only[Result.andThen_ok] at hv ⊢
   rw[hv]
   rfl
 split at hl
 ·rename_i hc
  obtain⟨hk,hc⟩:=hc
  obtain⟨e,ht⟩:=nx hk
  have hrun:∀b,(op=.eql∧b=false∨op=.neq∧b=true)→(do eqGuard op t x y (a.eval x) (a.eval y);binOp op t (a.eval x) (a.eval y):Sem Value).run P w=.ok (.bool b) w:=by
   intro b dN
   rcases hc with⟨h1,h2⟩ | ⟨h1,h2⟩
   ·obtain⟨ad,hv⟩:=By hx h1
    have hu:=Bx hy h2
    rw[hv,hu]
    simp only[eqGuard_at_pointer,Sem.run_bind,Sem.run_pure,Result.andThen_ok]
    rcases dN with⟨rfl,rfl⟩ | ⟨rfl,rfl⟩
    ·exact zm t e _ ht
    ·exact yO t e _ ht
   ·obtain⟨ad,hu⟩:=By hy h2
    have hv:=Bx hx h1
    rw[hv,hu]
    simp only[eqGuard_at_pointer,Sem.run_bind,Sem.run_pure,Result.andThen_ok]
    rcases dN with⟨rfl,rfl⟩ | ⟨rfl,rfl⟩
    ·exact EL t e _ ht
    ·exact DQ t e _ ht
  split at hl
  ·cases hl;exact⟨rfl,bS h hd (fH (hrun false (.inl ⟨rfl,rfl⟩))) (.e rfl (.v rfl) fun _=>rfl)⟩
  ·cases hl;exact⟨rfl,bS h hd (fH (hrun true (.inr ⟨rfl,rfl⟩))) (.e rfl (.v rfl) fun _=>rfl)⟩
  ·cases hl
 ·split at hl
  ·rename_i kd x' y' hk hx' hy'
   cases hl
   obtain⟨dx,pY,mT⟩:=SV.ck hx' hx
   obtain⟨dy,S4,hry⟩:=SV.ck hy' hy
   obtain⟨dz,he,cW⟩:=hb
   simp only[E.eval,pY,S4,Option.bind_some] at he
   obtain⟨r,hrun,hr,h1⟩:=XH (P:=P) (x:=x) (y:=y) hk he mT hry
   exact⟨rfl,bS h hd (fH hrun) (.e (d:=dz) (by simp[E.eval,cW]) hr fun _=>h1)⟩
  ·cases hl

theorem Rz {o:Oper} {op:UnOp} {t:TypeId} {x:Operand} {sx:SV} {ix:Nat} {r:eV} (ho:o.op=.unOp op t x) (hl:lun op sx ix=some r) (hx:ef w ρ env (a.eval x) sx) (h:cu w0 X w a σ env ρ)
  (hd:∀d,o.dst=some d→d<σ.tmps.length) (hb:cn P env ix r.bind):r.eM=none∧gq P o a w w0 X (σ.put o.dst r.val) env:=by
 obtain⟨x',hx',rfl⟩:=Option.map_eq_some_iff.1 hl
 obtain⟨dx,pY,mT⟩:=SV.ck hx' hx
 obtain⟨dz,he,cW⟩:=hb
 simp only[E.eval,pY,Option.bind_some] at he
 unfold D.un at he
 split at he
 ·rename_i b
  cases he
  have hv:=mT.v_eq
  exact⟨rfl,bS h hd (v:=.bool (!b)) (by unfold execOp;simp[ho,hv,Op.unary]) (.e (by simp only[E.eval,cW]) (.v rfl) fun _=>rfl)⟩
 ·rename_i k n
  cases he
  have hv:=mT.v_eq
  exact⟨rfl,bS h hd (v:=.int k (k.wrap (0-n))) (by unfold execOp;simp[ho,hv,Op.unary,Op.intArith]) (.e (by simp only[E.eval,cW]) (.v rfl) fun _=>rfl)⟩
 ·cases he

theorem KY {o:Oper} {src dst:TypeId} {x:Operand} {sx:SV} {ix:Nat} {r:eV} (ho:o.op=.convert src dst x) (hl:UA P src dst sx ix=some r) (hx:ef w ρ env (a.eval x) sx) (h:cu w0 X w a σ env ρ)
  (hd:∀d,o.dst=some d→d<σ.tmps.length) (hb:cn P env ix r.bind):r.eM=none∧gq P o a w w0 X (σ.put o.dst r.val) env:=by
 unfold UA at hl
 split at hl
 ·rename_i ds k hs ig
  obtain⟨x',hx',rfl⟩:=Option.map_eq_some_iff.1 hl
  obtain⟨dx,pY,mT⟩:=SV.ck hx' hx
  obtain⟨dz,he,cW⟩:=hb
  simp only[E.eval,pY,Option.bind_some] at he
  unfold D.conv at he
  split at he
  ·rename_i k' n
   cases he
   have hv:=mT.v_eq
   exact⟨rfl,bS h hd (v:=.int k (k.wrap n)) (by unfold execOp;simp[ho,hv,convert,run_underlying hs,run_underlying ig,Conv.intToInt]) (.e (by simp only[E.eval,cW]) (.v rfl) fun _=>rfl)⟩
  ·cases he
 ·cases hl

theorem D6 {o:Oper} {x:Operand} {sx:SV} {i ix:Nat} {r:eV} (ho:o.op=.extract x i) (hl:D7 sx i ix=some r) (hx:ef w ρ env (a.eval x) sx) (h:cu w0 X w a σ env ρ)
  (hd:∀d,o.dst=some d→d<σ.tmps.length) (hb:cn P env ix r.bind):r.eM=none∧gq P o a w w0 X (σ.put o.dst r.val) env:=by
 have fH:∀{vs:Array Value} {v:Value},a.eval x=.tuple vs→vs[i]? = some v→(execOp a.eval o).run P w=.ok (.value v) w:=by
  intro vs v hv hi
  unfold execOp
  simp[ho,hv,Instr.extract,hi]
 unfold D7 at hl
 split at hl
 ·rename_i cs
  obtain⟨c,hc,rfl⟩:=Option.map_eq_some_iff.1 hl
  obtain⟨vs,hv,hlen,hr⟩:=hx.Ci
  have hi:i<vs.size:=by rw[hlen];exact(List.getElem?_eq_some_iff.1 hc).1
  exact⟨rfl,bS h hd (fH hv (Array.getElem?_eq_getElem hi)) (hr i _ c (Array.getElem?_eq_getElem hi) hc)⟩
 ·rename_i y s
  cases hl
  obtain⟨d,fz,hrd,_⟩:=hx.kC
  obtain⟨dz,he,cW⟩:=hb
  simp only[E.eval,fz,Option.bind_some] at he
  unfold D.Qrx at he
  split at he
  ·obtain⟨vs,hv,hlen,hr⟩:=hrd.Ci
   have hi:i<vs.size:=by rw[hlen];exact(List.getElem?_eq_some_iff.1 he).1
   exact⟨rfl,bS h hd (fH hv (Array.getElem?_eq_getElem hi)) (.e (d:=dz) (by simp[E.eval,cW]) (hr i _ dz (Array.getElem?_eq_getElem hi) he) (by simp))⟩
  ·cases he
 ·cases hl

theorem AG {o:Oper} {s:TypeId} {x:Operand} {f:Nat} {sx:SV} {r:eV} (ho:o.op=.fieldAddr s x f) (hl:xu P s sx f=some r) (hx:ef w ρ env (a.eval x) sx) (h:cu w0 X w a σ env ρ)
  (hd:∀d,o.dst=some d→d<σ.tmps.length):r.eM=none∧r.bind=none∧gq P o a w w0 X (σ.put o.dst r.val) env:=by
 unfold xu at hl
 split at hl
 ·rename_i fs hs
  cases hf:fs[f]? with
  | none=>simp[hf] at hl
  | some fd=>
  cases hn:w9 P fd.type with
  | none=>simp[hf,hn] at hl
  | some n=>
  simp only[hf,hn,Option.bind_some] at hl
  split at hl
  ·cases hl
  ·rename_i hn0
   have fH:∀{b off:Nat},a.eval x=.pointer (some ⟨b,off,none⟩)→(execOp a.eval o).run P w=.ok (.value (.pointer (some ⟨b,off+fd.offset,none⟩))) w:=by
    intro b off hv
    unfold execOp
    simp[ho,hv,Instr.fieldAt,run_underlying hs,hf,Instr.sureAddr,fieldPlace,run_sizeOf hn,hn0,iR]
   split at hl
   ·cases hl
    exact⟨rfl,rfl,bS h hd (fH hx.lP) .addr⟩
   ·cases hl
    obtain⟨m,k,hi,hv⟩:=hx.pz
    exact⟨rfl,rfl,bS h hd (fH hv) (by rw[Nat.add_assoc];exact .aj hi)⟩
   ·rename_i y0 aew
    cases hl
    obtain⟨d,fz,hrd⟩:=hx.uO
    obtain⟨b,off,hv,hc⟩:=hrd.kK
    refine⟨rfl,rfl,bS h hd (fH hv) (.iV fz ?_)⟩
    have FP:∀(j:Nat) (e:D),(d.cells.drop (aew+fd.offset))[j]? = some e→(d.cells.drop aew)[fd.offset+j]? = some e:=fun j e hj=>by
     rw[List.getElem?_drop] at hj ⊢
     rwa [Nat.add_assoc] at hj
    refine .ptr (val:=fun j=>((w.cell? ⟨b,off+fd.offset+j,none⟩).getD undef)) (fun j e hj=>(hc _ e (FP j e hj)).1) (fun j e hj=>?_) (fun j e hj=>?_) fun j e hj=>?_
    ·have:=(hc _ e (FP j e hj)).2.1
     rwa [←Nat.add_assoc] at this
    ·obtain⟨u,hu,_⟩:=(hc _ e (FP j e hj)).2.2
     rw[←Nat.add_assoc] at hu
     rw[hu];rfl
    ·obtain⟨u,hu,hr⟩:=(hc _ e (FP j e hj)).2.2
     rw[←Nat.add_assoc] at hu
     rw[hu];exact hr
   ·cases hl
 ·cases hl

theorem PW {S:Sets}{v:Value}{dp d:D}{k:Nat}(h:bU w S v dp)(hd:D.ay k dp=some d):∃b off,v=.pointer (some ⟨b,off,none⟩)∧bU w S (.pointer (some ⟨b,off+k,none⟩)) d∧d.one=true:=by
 cases dp with
 | ptr cs=>
  simp only[D.ay] at hd
  cases hd
  obtain⟨b,off,hv,hc⟩:=h.kK
  refine⟨b,off,hv,?_,rfl⟩
  have FP:∀(j:Nat) (e:D),(cs.drop k)[j]? = some e→cs[k+j]? = some e:=fun j e hj=>by
   rw[List.getElem?_drop] at hj
   exact hj
  refine .ptr (val:=fun j=>((w.cell? ⟨b,off+k+j,none⟩).getD undef)) (fun j e hj=>(hc _ e (FP j e hj)).1) (fun j e hj=>?_) (fun j e hj=>?_) fun j e hj=>?_
  ·have:=(hc _ e (FP j e hj)).2.1
   rwa [←Nat.add_assoc] at this
  ·obtain⟨u,hu,_⟩:=(hc _ e (FP j e hj)).2.2
   rw[←Nat.add_assoc] at hu
   rw[hu];rfl
  ·obtain⟨u,hu,hr⟩:=(hc _ e (FP j e hj)).2.2
   rw[←Nat.add_assoc] at hu
   rw[hu];exact hr
 | loc i off=>
  simp only[D.ay] at hd
  cases hd
  cases h with
  | loc hi=>exact⟨_,off,rfl,.loc hi,rfl⟩
 | _=>simp[D.ay] at hd

theorem FD {o:Oper} {s:TypeId} {x:Operand} {f ix:Nat} {sx:SV} {r:eV} (ho:o.op=.fieldAddr s x f) (hl:Ik P s sx f ix=some r) (hx:ef w ρ env (a.eval x) sx) (h:cu w0 X w a σ env ρ)
  (hd:∀d,o.dst=some d→d<σ.tmps.length) (hb:cn P env ix r.bind):r.eM=none∧gq P o a w w0 X (σ.put o.dst r.val) env:=by
 unfold Ik at hl
 split at hl
 ·rename_i fs p s1 hs
  cases hf:fs[f]? with
  | none=>simp[hf] at hl
  | some fd=>
  cases hn:w9 P fd.type with
  | none=>simp[hf,hn] at hl
  | some n=>
  simp only[hf,hn,Option.bind_some] at hl
  split at hl
  ·cases hl
  ·rename_i hn0
   cases hl
   obtain⟨dp,hpe,hrd,_⟩:=hx.kC
   obtain⟨d,he,cW⟩:=hb
   simp only[E.eval,hpe,Option.bind_some] at he
   obtain⟨b,off,hv,N3,h1⟩:=PW hrd he
   refine⟨rfl,bS h hd (v:=.pointer (some ⟨b,off+fd.offset,none⟩)) ?_ (.e (d:=d) (by simp[E.eval,cW]) N3 fun _=>h1)⟩
   unfold execOp
   simp[ho,hv,Instr.fieldAt,run_underlying hs,hf,Instr.sureAddr,fieldPlace,run_sizeOf hn,hn0,iR]
 ·cases hl

end
end
end

section
noncomputable section

def pG:List SV→Option (List E)
 | []=>some []
 | s :: r=>match s.jx,pG r with | some x,some y=>some (x :: y) | _,_=>none

def scalars (P:Program):List TypeId→Option (List Bool)
 | []=>some []
 | t :: r=>match lN P t,scalars P r with | some b,some l=>some ((!b) :: l) | _,_=>none

def qh (x:E):Nat→List Bool→List SV
 | _,[]=>[]
 | i,b :: r=>.e (.Qrx i x) b :: qh x (i+1) r

def Qdz (x:E):List Bool→SV
 | [b]=>.e x b
 | rs=>.bh (qh x 0 rs)

def K0 (P:Program)(f:FuncId)(args:List SV)(obj:Nat→Option bl)(ix:Nat):Option eV:=
 match P.funcs[f]? with
 | some fn => if (fn.name == "runtime.NumGoroutine") = true ∨ fn.body.isNone = true then none else
  match scalars P fn.resultTypes.toList,pG args,obj bN with
  | some rs,some xs,some (.store cf h)=>if cf.aeA.contains f then some { val:=Qdz (.sym ix) rs,bind:=some (.call [] f (.const (.st [])) (xs.map E.iw) rs) } else if cf.wr.contains f then(if cf.ro then none else some { val:=Qdz (.Qrx 0 (.sym ix)) rs,eM:=some (bN,.store cf (.Qrx 1 (.sym ix))),bind:=some (.bQ [] f h xs rs) })
   else some { val:=Qdz (.sym ix) rs,bind:=some (.call [] f h xs rs) }
  | _,_,_=>none
 | none=>none

def Kb (P:Program)(t:TypeId):Option (List Bool):=
 match P.underlying t with
 | some (.tuple ts)=>scalars P ts.toList
 | some _=>scalars P [t]
 | none=>none

def Ip (P:Program)(x:E)(args:List SV)(o:Oper)(obj:Nat→Option bl)(ix:Nat):Option eV:=
 match Kb P o.type,pG args,obj bN with
 | some rs,some xs,some (.store cf h)=>if cf.wr.contains (1000000+o.dst.getD 999999) then(if cf.ro then none else some { val:=Qdz (.Qrx 0 (.sym ix)) rs,eM:=some (bN,.store cf (.Qrx 1 (.sym ix))),bind:=some (.fC [] x h xs rs) })
   else some { val:=Qdz (.sym ix) rs,bind:=some (.fu [] x h xs rs) }
 | _,_,_=>none

def Uw (fn:Fn)(first bT:List SV)(ix:Nat):Option eV:=
 match fn,SV.JS first,SV.JS bT with
 | .func f,some x,some y=>some { val:=.e (.sym ix) true,bind:=some (.ev (.gV f x y)) }
 | _,_,_=>none

section
variable {P:Program} {w w0:World} {X:kG} {a:Act} {σ:af} {env:List D} {ρ:dJ}

theorem AE {o:Oper} {t:TypeId} {x i:Operand} {sx si:SV} {ix:Nat} {r:eV} (ho:o.op=.indexAddr t x i) (hl:nv P t sx si σ.obj ix=some r) (hx:ef w ρ env (a.eval x) sx) (hi:ef w ρ env (a.eval i) si) (h:cu w0 X w a σ env ρ)
  (hd:∀d,o.dst=some d→d<σ.tmps.length) (hb:cn P env ix r.bind):r.eM=none∧gq P o a w w0 X (σ.put o.dst r.val) env:=by
 unfold nv at hl
 split at hl
 ·rename_i e i' ht hi'
  cases hn:w9 P e with
  | none=>simp[hn] at hl
  | some n=>
  simp only[hn,Option.bind_some] at hl
  have he:P.elem t=e:=by simp[Program.elem,ht]
  obtain⟨di,hdi,hri⟩:=SV.ck hi' hi
  have fH:∀{b off len cap:Nat} {k:IntKind} {m:Nat},a.eval x=.slice (some ⟨b,off,none⟩) len cap→a.eval i=.int k m→m<len→(execOp a.eval o).run P w=.ok (.value (.pointer (some ⟨b,off+m*n,none⟩))) w:=by
   intro b off len cap k m hv hiv hm
   have hr:=run_indexAt_slice (P:=P) w t ⟨b,off,none⟩ len cap k m (by rw[he];exact ht)
   rw[if_pos ⟨by omega,by omega⟩,he,run_sizeOf hn] at hr
   simp only[Result.andThen_ok,Int.toNat_natCast,iR] at hr
   unfold execOp
   simp only[ho,hv,hiv,Sem.run_bind,hr,Result.andThen_ok,Sem.run_pure]
  split at hl
  ·rename_i ob
   split at hl
   ·rename_i l sz dN
    split at hl
    ·rename_i hsz
     cases hl
     obtain⟨vs,ty,es,hh,hxl,hz,hvl,hr,hval,MB,hS⟩:=h.dO ob _ dN
     obtain⟨d,cV,cW⟩:=hb
     simp only[E.eval,hxl,hdi,Option.bind_some] at cV
     unfold D.idx at cV
     split at cV
     ·rename_i es' k m nL
      cases nL
      split at cV
      ·rename_i hm0
       have hml:m.toNat<es.length:=(List.getElem?_eq_some_iff.1 cV).1
       have S_:m=((m.toNat:Nat):Int):=by omega
       have hv:a.eval x=.slice (some ⟨ρ.aE ob,0,none⟩) es.length es.length:=hx.sH.trans hval
       have hiv:a.eval i=.int k (m.toNat:Nat):=by rw[←S_];exact hri.v_eq
       have hp:ef w ρ env (.pointer (some ⟨ρ.aE ob,m.toNat*n+0,none⟩)) (.aj ob i' n 0):=.aj (k:=k) (by rw[hdi,←S_])
       refine⟨rfl,bS h hd (fH hv hiv hml) ?_⟩
       simpa[Nat.add_comm] using hp
      ·cases cV
     ·cases cV
    ·cases hl
   ·cases hl
  ·rename_i oa
   obtain⟨l,hl',rfl⟩:=Option.map_eq_some_iff.1 hl
   obtain⟨dl,cP,hrl⟩:=SV.ck hl' hx
   obtain⟨d,cV,cW⟩:=hb
   simp only[E.eval,cP,hdi,Option.bind_some] at cV
   unfold D.aj at cV
   split at cV
   ·rename_i es k m
    split at cV
    ·rename_i hm0
     obtain⟨el,hel,cV⟩:=Option.bind_eq_some_iff.1 cV
     split at cV
     ·rename_i dG
      cases cV
      have hml:m.toNat<es.length:=(List.getElem?_eq_some_iff.1 hel).1
      have S_:m=((m.toNat:Nat):Int):=by omega
      have hiv:a.eval i=.int k (m.toNat:Nat):=by rw[←S_];exact hri.v_eq
      generalize hv:a.eval x=v at hrl
      cases hrl with
      | nil=>simp at hel
      | emp _=>simp at hel
      | @bq b off len cap size _ val hlen hc hm hz MA hS hw hr=>
       have CC:size=n:=by rw[←hz _ _ hel];exact dG
       subst CC
       refine⟨rfl,bS h hd (fH hv hiv (by omega)) (.e (d:=.ptr el.cells) (by simp[E.eval,cW]) ?_ fun _=>rfl)⟩
       exact .ptr (val:=val m.toNat) (fun j e hj=>MA _ _ j e hel (by simpa using hj)) (fun j e hj=>hS _ _ j e hel (by simpa using hj)) (fun j e hj=>hw _ _ j e hel (by simpa using hj)) fun j e hj=>hr _ _ j e hel (by simpa using hj)
     ·cases cV
    ·cases cV
   ·rename_i j off len k m
    split at cV
    ·rename_i hm0
     cases cV
     have S_:m=((m.toNat:Nat):Int):=by omega
     have hiv:a.eval i=.int k (m.toNat:Nat):=by rw[←S_];exact hri.v_eq
     generalize hv:a.eval x=v at hrl
     cases hrl with
     | sl hj hle hc h0=>exact⟨rfl,bS h hd (fH hv hiv (by omega)) (.e (d:=.loc j (off+m.toNat*n)) (by simp[E.eval,cW]) (.loc hj) fun _=>rfl)⟩
    ·cases cV
   ·cases cV
 ·rename_i len e i' ht hi'
  obtain⟨n,hn,hl⟩:=Option.bind_eq_some_iff.1 hl
  obtain⟨p,hp,rfl⟩:=Option.map_eq_some_iff.1 hl
  have he:P.elem t=e:=by simp[Program.elem,ht]
  have hlen:P.arrayLen t=len:=by simp[Program.arrayLen,ht]
  obtain⟨di,hdi,hri⟩:=SV.ck hi' hi
  obtain⟨dp,hdp,Ye⟩:=SV.ck hp hx
  obtain⟨d,cV,cW⟩:=hb
  simp only[E.eval,hdp,hdi,Option.bind_some,D.m4,D.tN] at cV
  split at cV
  ·rename_i k m
   split at cV
   ·rename_i hm0
    have S_:m=((m.toNat:Nat):Int):=by omega
    have hiv:a.eval i=.int k (m.toNat:Nat):=by rw[←S_];exact hri.v_eq
    obtain⟨b,off,hv,hrd,h1⟩:=PW Ye cV
    have hrun:(execOp a.eval o).run P w=.ok (.value (.pointer (some ⟨b,off+m.toNat*n,none⟩))) w:=by
     have hr:=run_indexAt_array (P:=P) w t ⟨b,off,none⟩ k (m.toNat:Nat) (by rw[he,hlen];exact ht)
     rw[hlen,if_pos ⟨by omega,by omega⟩,he,run_sizeOf hn] at hr
     simp only[Result.andThen_ok,Int.toNat_natCast,iR] at hr
     unfold execOp
     simp only[ho,hv,hiv,Sem.run_bind,hr,Result.andThen_ok,Sem.run_pure]
    exact⟨rfl,bS h hd hrun (.e (by simp[E.eval,cW]) hrd fun _=>h1)⟩
   ·cases cV
  ·cases cV
 ·cases hl

theorem NB {o:Oper} {x:Operand} {sx:SV} {ix:Nat} {r:eV} (ho:o.op=.nilCheck x) (hl:aaF sx ix=some r) (hx:ef w ρ env (a.eval x) sx) (h:cu w0 X w a σ env ρ)
  (hd:∀d,o.dst=some d→d<σ.tmps.length) (hb:cn P env ix r.bind):r.eM=none∧gq P o a w w0 X (σ.put o.dst r.val) env:=by
 have fH:∀{ad:Addr},a.eval x=.pointer (some ad)→(execOp a.eval o).run P w=.ok (.value (.pointer (some ad))) w:=by
  intro ad hv
  unfold execOp
  simp only[ho,hv]
  rfl
 unfold aaF at hl
 split at hl
 ·cases hl;have hv:=hx.lP;exact⟨rfl,bS h hd (fH hv) (hv ▸ hx)⟩
 ·cases hl;obtain⟨m,k,_,hv⟩:=hx.pz;exact⟨rfl,bS h hd (fH hv) (hv ▸ hx)⟩
 ·rename_i fn cs
  obtain⟨vs,hv,_⟩:=hx.rV
  split at hl
  ·cases hl
  ·rename_i hne
   cases hl
   refine⟨rfl,bS h hd (v:=.func fn #[] vs) ?_ (hv ▸ hx)⟩
   unfold execOp
   simp only[ho,hv]
   cases fn <;> first | rfl | exact absurd rfl (hne _)
 ·cases hl
  obtain⟨d,_,hrd⟩:=hx.uO
  obtain⟨b,off,hv,_⟩:=hrd.kK
  exact⟨rfl,bS h hd (fH hv) (hv ▸ hx)⟩
 ·cases hl
  obtain⟨d,fz,hrd,_⟩:=hx.kC
  obtain⟨dz,he,cW⟩:=hb
  simp only[E.eval,fz,Option.bind_some] at he
  unfold D.nn at he
  split at he
  ·cases he
   obtain⟨b,off,hv,_⟩:=hrd.kK
   exact⟨rfl,bS h hd (fH hv) (.e (d:=_) (show(E.sym ix).eval env=_ from cW) (by rw[←hv];exact hrd) fun _=>rfl)⟩
  ·cases he
   generalize hv:a.eval x=v at hrd
   cases hrd with
   | loc hi=>exact⟨rfl,bS h hd (fH hv) (.e (by simp only[E.eval,cW]) (.loc hi) fun _=>rfl)⟩
  ·cases he
   have hk:=hrd
   generalize hv:a.eval x=v at hrd
   cases hrd with
   | fn h1 h2 h3 h4=>
    refine⟨rfl,bS h hd (v:=a.eval x) ?_ (.e (by simp only[E.eval,cW]) hk fun _=>rfl)⟩
    unfold execOp
    simp only[ho,hv]
    rfl
  ·cases he
 ·cases hl

theorem EK {o:Oper}{t:TypeId}{x:Operand}{v:Value}(ho:o.op=.call { callee:=.builtin .len,args:=#[x],argTypes:=#[t] })(hr:(Builtin.len_ #[t] o.type #[a.eval x]).run P w=.ok v w):(execOp a.eval o).run P w=.ok (.value v) w:=by
 unfold execOp
 simp only[ho,resolve,invoke,builtin,Sem.run_bind,Sem.run_pure,Result.andThen_ok,List.map_toArray,List.map_cons,List.map_nil,hr]

theorem NH {o:Oper} {t:TypeId} {x:Operand} {sx:SV} {ix:Nat} {r:eV} (ho:o.op=.call { callee:=.builtin .len,args:=#[x],argTypes:=#[t] }) (hl:RD P t sx σ.obj ix=some r) (hx:ef w ρ env (a.eval x) sx) (h:cu w0 X w a σ env ρ)
  (hd:∀d,o.dst=some d→d<σ.tmps.length) (hb:cn P env ix r.bind):r.eM=none∧gq P o a w w0 X (σ.put o.dst r.val) env:=by
 unfold RD at hl
 split at hl
 ·rename_i e ht
  have he:P.elem t=e:=by simp[Program.elem,ht]
  have fH:∀{ad:Option Addr} {n c:Nat},a.eval x=.slice ad n c→(execOp a.eval o).run P w=.ok (.value (.int .i64 n)) w:=by
   intro ad n c hv
   refine EK ho ?_
   rw[hv]
   exact run_len_slice (P:=P) w t o.type ad n c (by rw[he];exact ht)
  have fin:∀{ad:Option Addr} {n c:Nat} {es:List D},a.eval x=.slice ad n c→n=es.length→env[ix]? = some (.v (.int .i64 es.length))→gq P o a w w0 X (σ.put o.dst (.e (.sym ix) true)) env:=by
   intro ad n c es hv hn cW
   exact bS h hd (fH hv) (.e (d:=.v (.int .i64 n)) (by rw[E.eval,cW,hn]) (.v rfl) fun _=>rfl)
  split at hl
  ·rename_i ob
   split at hl
   ·rename_i l sz dN
    cases hl
    obtain⟨vs,ty,es,hh,hxl,hz,hvl,hr,hval,MB,hS⟩:=h.dO ob _ dN
    obtain⟨d,cV,cW⟩:=hb
    simp only[E.eval,hxl,Option.bind_some,D.aR] at cV
    cases cV
    exact⟨rfl,fin (hx.sH.trans hval) rfl cW⟩
   ·cases hl
  ·obtain⟨l,hl',rfl⟩:=Option.map_eq_some_iff.1 hl
   obtain⟨dl,cP,hrl⟩:=SV.ck hl' hx
   obtain⟨d,cV,cW⟩:=hb
   simp only[E.eval,cP,Option.bind_some] at cV
   unfold D.aR at cV
   split at cV
   ·cases cV
    obtain⟨ad,n,c,hv,hn⟩:=hrl.D1
    exact⟨rfl,fin hv hn cW⟩
   ·cases cV
    generalize hv:a.eval x=v at hrl
    cases hrl with
    | sl hi hle hc h0=>exact⟨rfl,bS h hd (fH hv) (.e (by simp only[E.eval,cW]) (.v rfl) fun _=>rfl)⟩
   ·cases cV
    generalize hv:a.eval x=v at hrl
    cases hrl with
    | cq=>exact⟨rfl,bS h hd (fH hv) (.e (by simp only[E.eval,cW];rfl) (.v rfl) fun _=>rfl)⟩
   ·cases cV
 ·rename_i ht
  obtain⟨l,hl',rfl⟩:=Option.map_eq_some_iff.1 hl
  obtain⟨dl,cP,hrl⟩:=SV.ck hl' hx
  obtain⟨d,cV,cW⟩:=hb
  simp only[E.eval,cP,Option.bind_some] at cV
  unfold D.uJ at cV
  split at cV
  ·rename_i s
   cases cV
   have hv:=hrl.v_eq
   exact⟨rfl,bS h hd (EK ho (v:=.int .i64 s.size) (by rw[hv];simp[Builtin.len_,run_underlying ht,goInt])) (.e (by simp only[E.eval,cW]) (.v rfl) fun _=>rfl)⟩
  ·cases cV
 ·cases hl

theorem Uj {o:Oper} {d:Nat} {vs:Array Value} {cs:List SV} {ty:TypeId} (h:cu w0 X w a σ env ρ) (ig:o.dst=some d) (hd:d<σ.tmps.length) (FO:d<σ.mem.length) (hfree:σ.obj d=none) (ox:σ.aT d)
  (hl:vs.size=cs.length) (hone:∀(i:Nat) (v:Value),vs[i]? = some v→v.oneCell'=true) (hr:∀(i:Nat) (v:Value) (c:SV),vs[i]? = some v→cs[i]? = some c→ef w ρ env v c) (al1:SV.ee d cs=true)
  (hrun:(execOp a.eval o).run P w=.ok (.value (.pointer (some ⟨w.heap.size,0,none⟩))) (w.alloc (.cells vs ty))):gq P o a w w0 X ((σ.setObj d (some (.box cs))).put o.dst (.addr d 0)) env:=by
 have hk:bW ρ.S w (w.alloc (.cells vs ty)):=bW.alloc h.cells _
 have bn:=h.fI (o:=d) (x:=.box cs) (v:=undef) FO hfree ox hk (fun b hb=>Qcx w _ b hb) rfl ⟨rfl,Nat.le_refl _⟩ rfl (by simp) ?_ ?_
 ·refine c_ hrun (bn.put (by rw[ig];intro d' e;cases e;rw[af.aZ];exact hd) ?_)
  have hbk:(ρ.fI d w.heap.size undef).aE d=w.heap.size:=by simp[dJ.fI]
  have hp:ef (w.alloc (.cells vs ty)) (ρ.fI d w.heap.size undef) env (.pointer (some ⟨(ρ.fI d w.heap.size undef).aE d,0,none⟩)) (.addr d 0):=.addr
  rwa [hbk] at hp
 ·refine⟨vs,ty,?_,hl,hone,fun i v c hv hc=>(hr i v c hv hc).keep hk (ρ.xZ _ _ _) fun o' e=>by subst e;exact SV.fw al1 hc,fun off hs=>?_⟩
  ·simp only[dJ.fI,if_true]
   exact heap_alloc_new w _
  ·have:=h.cells _ off hs
   simp[dJ.fI] at this
 ·intro b hb
  simpa[bY,dJ.fI] using hb.symm

theorem EU (d:Nat)(v:Value):(oV v).aT d=true:=by unfold oV;split <;> rfl

theorem A_ (d:Nat):∀(l:List Value),SV.ee d (l.map oV)=true
 | []=>rfl
 | v :: r=>by simp[SV.ee,EU,A_ d r]

def CQ (P:Program)(t:TypeId):Bool:=match(P.info? t).bind (·.zero) with | some z=>z.cells.toList.all (·.oneCell') | none=>false

theorem Iv {o:Oper} {t:TypeId} {r:eV} (ho:o.op=.alloc t) (GK:CQ P t=true) (hl:Iw P t o.dst=some r) (h:cu w0 X w a σ env ρ) (hd:∀d,o.dst=some d→d<σ.tmps.length) (hm:σ.mem.length=σ.tmps.length)
  (hfree:∀d,o.dst=some d→σ.obj d=none∧σ.aT d):∃d x,o.dst=some d∧r.eM=some (d,x)∧r.bind=none∧gq P o a w w0 X ((σ.setObj d (some x)).put o.dst r.val) env:=by
 unfold Iw at hl
 split at hl
 ·rename_i d cs ig hz
  cases hl
  unfold Ph at hz
  obtain⟨z,xV,rfl⟩:=Option.map_eq_some_iff.1 hz
  refine⟨d,_,ig,rfl,rfl,?_⟩
  have fz:=hd d ig
  obtain⟨hf,ox⟩:=hfree d ig
  have hrun:(execOp a.eval o).run P w=.ok (.value (.pointer (some ⟨w.heap.size,0,none⟩))) (w.alloc (.cells z.cells t)):=by
   unfold execOp
   simp only[ho,Instr.alloc,Sem.run_bind,iU xV,Result.andThen_ok,newVar,newRow,Sem.run_pure,run_newObj]
   rfl
  refine Uj (vs:=z.cells) (cs:=z.cells.toList.map oV) h ig fz (Nat.lt_of_lt_of_eq fz hm.symm) hf ox (by simp) (fun i v hv=>?_) (fun i v c hv hc=>?_) (A_ d _) hrun
  ·unfold CQ at GK
   rw[xV] at GK
   simp only[List.all_eq_true] at GK
   exact GK v (List.mem_of_getElem? (by simpa using hv))
  ·simp only[List.getElem?_map] at hc
   have Qcz:z.cells.toList[i]? = some v:=by simpa using hv
   rw[Qcz] at hc
   cases hc
   exact ET v
 ·cases hl

theorem SV.HK {n ix:Nat}{sv:SV}{cs:List SV}{b:Option Bind}{d:Nat}(h:sv.split n ix=some (cs,b))(ha:sv.aT d=true):SV.ee d cs=true:=by
 have all:∀(l:List SV),(∀c,c∈l→c.aT d=true)→SV.ee d l=true:=by
  intro l
  induction l with
  | nil=>intro _;rfl
  | cons c r ih=>intro hh;simp only[SV.ee,Bool.and_eq_true];exact⟨hh c (by simp),ih fun x hx=>hh x (by simp[hx])⟩
 unfold SV.split at h
 split at h
 ·split at h
  ·cases h;simpa[SV.aT] using ha
  ·cases h
 ·split at h
  ·cases h
   refine all _ fun c hc=>?_
   simp only[List.mem_map] at hc
   obtain⟨_,_,rfl⟩:=hc
   rfl
  ·cases h
 ·cases h
  refine all _ fun c hc=>?_
  simp only[List.mem_map] at hc
  obtain⟨_,_,rfl⟩:=hc
  rfl
 ·cases h

theorem SV.E8 {agg : Bool} {n ix : Nat} {obj : Nat → Option bl} {sv : SV} {cs : List SV} {b : Option Bind} {d : Nat} (h : sv.cellsOf agg n ix obj = some (cs, b)) (ha : sv.aT d = true) : SV.ee d cs = true := by
  unfold SV.cellsOf at h
  cases agg with
  | true => simp only [if_true] at h; exact SV.HK h ha
  | false =>
    simp only [Bool.false_eq_true, if_false] at h
    split at h <;> first
      | (cases h; simp only [SV.ee, Bool.and_true]; first | exact ha | rfl)
      | (split at h
         · cases h; simpa [SV.ee] using ha
         · cases h)
      | cases h

theorem NO {o:Oper} {t:TypeId} {x:Operand} {sx:SV} {ix:Nat} {r:eV} (ho:o.op=.box t x) (hl:NQ P t sx o.dst σ.obj ix=some r) (hx:ef w ρ env (a.eval x) sx) (h:cu w0 X w a σ env ρ) (hd:∀d,o.dst=some d→d<σ.tmps.length) (hm:σ.mem.length=σ.tmps.length)
  (hfree:∀d,o.dst=some d→σ.obj d=none∧σ.aT d∧sx.aT d=true) (hb:cn P env ix r.bind):∃d x,o.dst=some d∧r.eM=some (d,x)∧gq P o a w w0 X ((σ.setObj d (some x)).put o.dst r.val) env:=by
 unfold NQ at hl
 split at hl
 ·rename_i d agg n ig hg hn
  obtain⟨⟨cs,b⟩,hcs,rfl⟩:=Option.map_eq_some_iff.1 hl
  refine⟨d,_,ig,rfl,?_⟩
  have fz:=hd d ig
  obtain⟨hf,ox,ak7⟩:=hfree d ig
  obtain⟨h1,h2,h3⟩:=SV.E7 (P:=P) h.dO hcs hb hx
  have hrun:(execOp a.eval o).run P w=.ok (.value (.pointer (some ⟨w.heap.size,0,none⟩))) (w.alloc (.cells (a.eval x).cells t)):=by
   unfold execOp
   simp only[ho,Instr.box,Sem.run_bind,Result.andThen_ok,newVar,newRow,Sem.run_pure,run_newObj]
   rfl
  exact Uj h ig fz (Nat.lt_of_lt_of_eq fz hm.symm) hf ox h1 h2 h3 (SV.E8 hcs ak7) hrun
 ·cases hl

theorem mZ:∀{wD:List SV} {xs:List E} {vs:List Value},pG wD=some xs→vs.length=wD.length→(∀(i:Nat) (v:Value) (c:SV),vs[i]? = some v→wD[i]? = some c→ef w ρ env v c) →
  ∃ds,aM env xs=some ds∧vs.length=ds.length∧∀(i:Nat) (v:Value) (d:D),vs[i]? = some v→ds[i]? = some d→bU w ρ.S v d
 | [],xs,vs,h,hl,_=>by
  simp[pG] at h;subst h
  have:vs=[]:=List.eq_nil_of_length_eq_zero (by simpa using hl)
  subst this
  exact⟨[],rfl,rfl,by simp⟩
 | s :: r,xs,vs,h,hl,hh=>by
  match vs,hl with
  | v :: vs,hl=>
   simp only[pG] at h
   split at h
   ·rename_i y z hy hz
    cases h
    obtain⟨d,hd,hrd⟩:=SV.ck hy (hh 0 v s rfl rfl)
    obtain⟨ds,he,cP,hds⟩:=mZ (vs:=vs) hz (by simpa using hl) fun i v c hv hc=>hh (i+1) v c (by simpa using hv) (by simpa using hc)
    refine⟨d :: ds,by simp[aM,hd,he],by simp[cP],fun i v' d' hv fz=>?_⟩
    cases i with
    | zero=>simp at hv fz;subst hv fz;exact hrd
    | succ i=>exact hds i v' d' (by simpa using hv) (by simpa using fz)
   ·cases h

theorem Bf (x:E):∀(rs:List Bool) (k i:Nat) (c:SV),(qh x k rs)[i]? = some c→∃b,rs[i]? = some b∧c=.e (.Qrx (k+i) x) b
 | [],_,_,_,h=>by simp[qh] at h
 | b :: r,k,0,c,h=>by simp[qh] at h;exact⟨b,rfl,h.symm⟩
 | b :: r,k,i+1,c,h=>by
  obtain⟨b',h1,h2⟩:=Bf x r (k+1) i c (by simpa[qh] using h)
  exact⟨b',by simpa using h1,by rw[h2,show k+1+i=k+(i+1) from by omega]⟩

theorem tZ (x:E):∀(rs:List Bool) (k:Nat),(qh x k rs).length=rs.length
 | [],_=>rfl
 | _ :: r,k=>by simp[qh,tZ x r]

theorem BI:∀{rs:List Bool} {ds:List D},tg rs ds=true→rs.length=ds.length∧∀(i:Nat) (b:Bool) (d:D),rs[i]? = some b→ds[i]? = some d→b=true→d.one=true
 | [],[],_=>⟨rfl,by simp⟩
 | [],_ :: _,h=>by simp[tg] at h
 | _ :: _,[],h=>by simp[tg] at h
 | b :: r,d :: s,h=>by
  simp only[tg,Bool.and_eq_true,Bool.or_eq_true,Bool.not_eq_true'] at h
  obtain⟨h1,h2⟩:=BI h.2
  refine⟨by simp[h1],fun i b' d' hb hd ht=>?_⟩
  cases i with
  | zero=>simp at hb hd;subst hb hd;exact h.1.resolve_left (by simp[ht])
  | succ i=>exact h2 i b' d' (by simpa using hb) (by simpa using hd) ht

theorem lD {x:E}{rs:List Bool}{v:Value}{d:D}(hx:x.eval env=some d)(hr:bU w ρ.S v d)(hfit:d.fits rs=true):ef w ρ env v (Qdz x rs):=by
 unfold Qdz
 split
 ·rename_i b
  simp only[D.fits,Bool.or_eq_true,Bool.not_eq_true'] at hfit
  exact .e hx hr fun Yu=>hfit.resolve_left (by simp[Yu])
 ·rename_i hne
  have afW:∃ds,d=.bh ds∧tg rs ds=true:=by
   unfold D.fits at hfit
   split at hfit
   ·exact(hne _ rfl).elim
   ·split at hfit
    ·exact⟨_,rfl,hfit⟩
    ·cases hfit
  obtain⟨ds,rfl,hfa⟩:=afW
  obtain⟨hfl,hfo⟩:=BI hfa
  obtain⟨vs,rfl,hvl,hvr⟩:=hr.Ci
  refine .bh (by rw[tZ,hvl,hfl]) fun i v c hv zf=>?_
  obtain⟨b,hb',rfl⟩:=Bf x rs 0 i c zf
  have hi:i<ds.length:=by rw[←hfl];exact(List.getElem?_eq_some_iff.1 hb').1
  exact .e (d:=ds[i]) (by simp[E.eval,hx,D.Qrx,hi]) (hvr i v _ hv (List.getElem?_eq_getElem hi)) fun Yu=>hfo i b _ hb' (List.getElem?_eq_getElem hi) Yu

theorem cu.behind {w':World}{S':Sets}(h:cu w0 X w a σ env ρ)(hb:Blw w.heap.size w w')(h1:ρ.S≤S')(hn:S'.n=ρ.S.n)(h2:∀b o,S' b o→ρ.S b o∨w.heap.size≤b)(h3:∀b o,S' b o→b<w'.heap.size):cu w0 X w' a σ env { ρ with S:=S' }:=by
 refine h.move (fun b o hs=>hb.cell (p:=⟨b,o,none⟩) (h.cells b o hs)) ⟨⟨fun _ _=>rfl,fun _ _=>rfl,h1⟩,fun _=>hn,fun _=>rfl⟩ (fun o x b ho hx=>hb.block b (h.own o x b ho hx).2) (fun o x b off ho hx hs=>?_) h3 hb.os hb.tl hb.output hb.size (fun b hlt _=>hb.block b (Nat.lt_of_lt_of_le hlt h.grown)) (fun b o hs=>(h2 b o hs).elim .inl fun e=>.inr (Nat.le_trans h.grown e))
 rcases h2 b off hs with h4 | h4
 ·exact h4
 ·have:=(h.own o x b ho hx).2;omega

theorem gZ (h:cu w0 X w a σ env ρ){cf:cz}{x:E}(hx:σ.obj bN=some (.store cf x)):∀b,ρ.aJ b→b<w.heap.size:=fun b hb=>(h.own bN _ b hx hb).2

theorem zj {env:List D}:∀{xs:List E} {ds:List D},aM env (xs.map E.iw)=some ds→aM env xs=some ds∧eG ds=true
 | [],ds,h=>by
  simp only[List.map_nil,aM,Option.some.injEq] at h
  subst h
  exact⟨rfl,rfl⟩
 | x :: r,ds,h=>by
  simp only[List.map_cons,aM,Option.bind_eq_some_iff,Option.map_eq_some_iff] at h
  obtain⟨d,h1,ds',h2,rfl⟩:=h
  obtain⟨g1,g2⟩:=zj h2
  simp only[E.eval,Option.bind_eq_some_iff] at h1
  obtain⟨d0,k1,_,_,_,_,_,_,k2⟩:=h1
  simp only[D.m4] at k2
  split at k2
  ·rename_i hn
   cases k2
   exact⟨by simp[aM,k1,g1],by simp[eG,hn,g2]⟩
  ·cases k2

theorem Qmw {o : Oper} {f : FuncId} {vals : Array Value} {wD : List SV} {ix : Nat} {r : eV} (hrun : ∀ fn, P.funcs[f]? = some fn → (fn.name == "runtime.NumGoroutine") = false → fn.body.isNone = false → (execOp a.eval o).run P w = .ok (.enter f vals) w)
  (hl:K0 P f wD σ.obj ix=some r) (hlen:vals.size=wD.length) (hx:∀(i:Nat) (x:Value) (s:SV),vals[i]? = some x→wD[i]? = some s→ef w ρ env x s) (h:cu w0 X w a σ env ρ) (hd:∀d,o.dst=some d→d<σ.tmps.length)
  (hb:cn P env ix r.bind):(r.eM=none∧gq P o a w w0 X (σ.put o.dst r.val) env)∨∃ob z,r.eM=some (ob,z)∧gq P o a w w0 X ((σ.setObj ob (some z)).put o.dst r.val) env:=by
 unfold K0 at hl
 split at hl
 ·rename_i fn hf
  split at hl
  ·cases hl
  ·rename_i hnb
   simp only[not_or,Bool.not_eq_true] at hnb
   replace hrun:=hrun fn hf hnb.1 hnb.2
   split at hl
   ·rename_i rs xs cf hE tI hxs dN
    obtain⟨bs,jC,hst,_⟩:=h.dO _ _ dN
    obtain⟨ds',oQ,cP,hrd⟩:=mZ (vs:=vals.toList) hxs (by simpa using hlen) (fun i v s hv hs=>hx i v s (by simpa using hv) hs)
    split at hl
    ·cases hl
     refine .inl ⟨rfl,fun Q=>?_⟩
     obtain⟨d,cW,GS⟩:=hb
     obtain⟨st,ds,uV,cV,hspec,hfit⟩:=GS (by intro p hp;cases hp)
     cases uV
     obtain⟨cV,hno⟩:=zj cV
     rw[cV] at oQ
     cases oQ
     rw[hrun]
     refine⟨fun e=>(by cases e),callsIn_wide.2 ?_⟩
     refine(k8.DI hspec hno bs w ρ.S ρ.aJ bs vals rfl hst (h.mK dN) (gZ h dN) h.cells (by simpa using cP) (fun i v x hv hx'=>hrd i v x (by simpa using hv) hx')).mono ?_
     rintro e w' ⟨v,S',⟨rfl,hr⟩,xD,hs1,CC,fX,JG⟩
     exact⟨_,(h.behind xD hs1 CC fX JG).put hd (lD (by simp only[E.eval,cW]) hr hfit)⟩
    split at hl
    ·split at hl
     ·cases hl
     ·rename_i hro
      cases hl
      refine .inr ⟨bN,_,rfl,fun Q=>?_⟩
      obtain⟨st,d,h',uV,cW,GS,_⟩:=hb
      obtain⟨ds,cV,hspec,hfit⟩:=GS (by intro p hp;cases hp)
      rw[jC] at uV
      cases uV
      rw[cV] at oQ
      cases oQ
      rw[hrun]
      refine⟨fun e=>(by cases e),callsIn_wide.2 ?_⟩
      refine(hspec w ρ.S ρ.aJ bs vals rfl hst (h.mK dN) (gZ h dN) h.cells (by simpa using cP) (fun i v x hv hx'=>hrd i v x (by simpa using hv) hx')).mono ?_
      rintro e w' ⟨v,S',bV,bs',⟨rfl,hr⟩,rfl,fp,hk,hS,hos,ht,hout,hsz,q_,hf',GU,IW⟩
      have bn:=h.Qew (x':=.Qrx 1 (.sym ix)) dN (by simpa using hro) (by simp only[E.eval,cW];rfl) fp hk hS hos ht hout hsz q_ hf' GU IW
      exact⟨_,bn.put (by rw[af.aZ];exact hd) (lD (by simp only[E.eval,cW];rfl) hr hfit)⟩
    ·cases hl
     refine .inl ⟨rfl,fun Q=>?_⟩
     obtain⟨d,cW,GS⟩:=hb
     obtain⟨st,ds,uV,cV,hspec,hfit⟩:=GS (by intro p hp;cases hp)
     rw[jC] at uV
     cases uV
     rw[cV] at oQ
     cases oQ
     rw[hrun]
     refine⟨fun e=>(by cases e),callsIn_wide.2 ?_⟩
     refine(hspec w ρ.S ρ.aJ bs vals rfl hst (h.mK dN) (gZ h dN) h.cells (by simpa using cP) (fun i v x hv hx'=>hrd i v x (by simpa using hv) hx')).mono ?_
     rintro e w' ⟨v,S',⟨rfl,hr⟩,xD,hs1,CC,fX,JG⟩
     exact⟨_,(h.behind xD hs1 CC fX JG).put hd (lD (by simp only[E.eval,cW]) hr hfit)⟩
   ·cases hl
 ·cases hl

theorem KZ {o:Oper} {f:FuncId} {c:Operand} {args:Array Operand} {ts:Array TypeId} {wD:List SV} {ix:Nat} {r:eV} (ho:o.op=.call { callee:=.value c,args:=args,argTypes:=ts }) (hc:a.eval c=.func (.func f) #[] #[])
  (hl:K0 P f wD σ.obj ix=some r) (hlen:args.size=wD.length) (hx:∀(i:Nat) (x:Operand) (s:SV),args[i]? = some x→wD[i]? = some s→ef w ρ env (a.eval x) s) (h:cu w0 X w a σ env ρ) (hd:∀d,o.dst=some d→d<σ.tmps.length)
  (hb:cn P env ix r.bind):(r.eM=none∧gq P o a w w0 X (σ.put o.dst r.val) env)∨∃ob z,r.eM=some (ob,z)∧gq P o a w w0 X ((σ.setObj ob (some z)).put o.dst r.val) env:=by
 refine Qmw (vals:=args.map a.eval) (fun fn hf h1 h2=>?_) hl (by simpa using hlen) (fun i v s hv hs=>?_) h hd hb
 ·unfold execOp
  simp only[ho,resolve,hc,Deferred.ofValue,invoke,Sem.run_bind,Sem.run_pure,Result.andThen_ok,callFunc,run_program,hf,h1,h2,Bool.false_eq_true,if_false]
  simp
 ·simp only[Array.getElem?_map,Option.map_eq_some_iff] at hv
  obtain⟨x,hx',rfl⟩:=hv
  exact hx i x s hx' hs

def aiT (P:Program)(t:TypeId)(name:String):Option FuncId:=
 match P.info? t,P.underlying t with
 | some i,some (.pointer _)=>(match i.methods.find? (·.name==name) with
  | some m=>if m.path.isEmpty=true then(match m.func with
   | some (f,true)=>some f
   | _=>none) else none
  | none=>none)
 | _,_=>none

def linv (P:Program)(o:Oper)(rv:SV)(name:String)(args:List SV)(obj:Nat→Option bl)(ix:Nat):Option eV:=
 match obj bN,o.dst,rv.jx with
 | some (.store cf _),some d,some r'=>(cf.avL.lookup d).bind fun t=>(aiT P t name).bind fun f=>K0 P f (.e (.m4 (.m0 t) r' .nil .nil .nil) false :: args) obj ix
 | _,_,_=>none

theorem anO {t:TypeId}{f:FuncId}{v:Value}{name:String}(h:aiT P t name=some f)(n:Nat):(method (n+1) t v name).run P w=.ok (f,v) w:=by
 unfold aiT at h
 split at h
 ·rename_i i e hi hu
  split at h
  ·rename_i m hm
   split at h
   ·rename_i hp
    split at h
    ·rename_i hf
     cases h
     have hp':m.path=#[]:=by simpa using hp
     simp[method,typeInfo,hi,hm,hp',follow,hf,receiverAt,run_underlying hu,Place.get]
    ·cases h
   ·cases h
  ·cases h
 ·cases h

theorem al4 {f:FuncId}{wD:List SV}{obj:Nat→Option bl}{ix:Nat}{r:eV}(hl:K0 P f wD obj ix=some r)(hb:cn P env ix r.bind):∃xs ds,pG wD=some xs∧aM env xs=some ds:=by
 have nil:bI env []:=by intro p hp;cases hp
 unfold K0 at hl
 split at hl
 ·split at hl
  ·cases hl
  ·split at hl
   ·rename_i rs xs cf hE tI hxs dN
    refine⟨xs,?_⟩
    split at hl
    ·cases hl
     obtain⟨d,_,GS⟩:=hb
     obtain⟨st,ds,_,cV,_⟩:=GS nil
     exact⟨ds,hxs,(zj cV).1⟩
    ·split at hl
     ·split at hl
      ·cases hl
      ·cases hl
       obtain⟨st,d,h',_,_,GS,_⟩:=hb
       obtain⟨ds,cV,_⟩:=GS nil
       exact⟨ds,hxs,cV⟩
     ·cases hl
      obtain⟨d,_,GS⟩:=hb
      obtain⟨st,ds,_,cV,_⟩:=GS nil
      exact⟨ds,hxs,cV⟩
   ·cases hl
 ·cases hl

theorem anZ {o:Oper} {rc:Operand} {name:String} {args:Array Operand} {ts:Array TypeId} {ct:Operand→SV} {ix:Nat} {r:eV} (ho:o.op=.call { callee:=.invoke rc name,args:=args,argTypes:=ts }) (hv:∀x,ef w ρ env (a.eval x) (ct x))
  (hl:linv P o (ct rc) name (args.toList.map ct) σ.obj ix=some r) (h:cu w0 X w a σ env ρ) (hd:∀d,o.dst=some d→d<σ.tmps.length) (hb:cn P env ix r.bind) :
  (r.eM=none∧gq P o a w w0 X (σ.put o.dst r.val) env)∨∃ob z,r.eM=some (ob,z)∧gq P o a w w0 X ((σ.setObj ob (some z)).put o.dst r.val) env:=by
 unfold linv at hl
 split at hl
 ·rename_i cf hh d r' dN ig hr'
  obtain⟨t,ht,hl⟩:=Option.bind_eq_some_iff.1 hl
  obtain⟨f,hf,hl⟩:=Option.bind_eq_some_iff.1 hl
  obtain⟨dr,hdr,hrr⟩:=SV.ck hr' (hv rc)
  have hun:∃d0,D.m0 t dr=some d0:=by
   obtain⟨xs,ds,hxs,cV⟩:=al4 hl hb
   obtain⟨ys,rfl⟩:∃ys,xs=.m4 (.m0 t) r' .nil .nil .nil :: ys:=by
    simp only[pG,SV.jx] at hxs
    split at hxs
    ·rename_i h1 h2
     cases h1
     cases hxs
     exact⟨_,rfl⟩
    ·cases hxs
   simp only[aM,E.eval,hdr,Option.bind_some,D.m4] at cV
   obtain⟨d0,h1,_⟩:=Option.bind_eq_some_iff.1 cV
   exact⟨d0,h1⟩
  obtain⟨d0,hd0⟩:=hun
  have azk:dr=.oO t d0:=by
   unfold D.m0 at hd0
   split at hd0
   ·split at hd0
    ·rename_i e
     cases hd0
     rw[e]
    ·cases hd0
   ·cases hd0
  subst azk
  obtain⟨v,hve,hvr⟩:∃v,a.eval rc=.iface t v∧bU w ρ.S v d0:=by
   generalize a.eval rc=u at hrr
   cases hrr
   exact⟨_,rfl,by assumption⟩
  refine Qmw (vals:=#[v]++args.map a.eval) (fun fn hfn h1 h2=>?_) hl (by simp;omega) (fun i u s hu hs=>?_) h hd hb
  ·obtain⟨n,hn⟩:∃n,P.types.size+Made.depth=n+1:=⟨P.types.size+Made.depth-1,by simp[Made.depth]⟩
   have hm:=anO (w:=w) (v:=v) hf n
   have Od:(#[Value.iface t v]++args.map a.eval).extract 1 (#[Value.iface t v]++args.map a.eval).size=args.map a.eval:=by simp
   have h0:(#[Value.iface t v]++args.map a.eval)[0]? = some (.iface t v):=by rw[Array.getElem?_append_left (by simp)];rfl
   unfold execOp
   simp only[ho,resolve,invoke,Sem.run_bind,Sem.run_pure,Result.andThen_ok,hve,h0,callMethod,Od,run_program,hn,hm,callFunc,hfn,h1,h2,Bool.false_eq_true,if_false]
  ·cases i with
   | zero=>
    rw[Array.getElem?_append_left (by simp)] at hu
    simp at hu hs
    subst hu hs
    exact .e (by simp only[E.eval,hdr,Option.bind_some,D.m4,hd0]) hvr (by simp)
   | succ i=>
    rw[Array.getElem?_append_right (by simp)] at hu
    simp only[List.size_toArray,List.length_cons,List.length_nil,Nat.zero_add,Nat.add_sub_cancel,Array.getElem?_map,Option.map_eq_some_iff,List.getElem?_cons_succ,List.getElem?_map] at hu hs
    obtain⟨x,hx,rfl⟩:=hu
    obtain⟨y,hy,rfl⟩:=hs
    rw[Array.getElem?_toList,hx] at hy
    cases hy
    exact hv x
 ·cases hl

theorem VP {α:Type}{us vs ws:List α}{β:Type}{as bs cs:List β}{R:α→β→Prop}(h1:us.length=as.length)(h2:vs.length=bs.length)(g1:∀(i:Nat) u a,us[i]? = some u→as[i]? = some a→R u a)(g2:∀(i:Nat) u a,vs[i]? = some u→bs[i]? = some a→R u a)(g3:∀(i:Nat) u a,ws[i]? = some u→cs[i]? = some a→R u a) :
  ∀(i:Nat) u a,(us++vs++ws)[i]? = some u→(as++bs++cs)[i]? = some a→R u a:=by
 intro i u a hu ha
 rw[List.append_assoc] at hu ha
 rcases Nat.lt_or_ge i us.length with h | h
 ·rw[List.getElem?_append_left h] at hu
  rw[List.getElem?_append_left (by omega)] at ha
  exact g1 i u a hu ha
 ·rw[List.getElem?_append_right h] at hu
  rw[List.getElem?_append_right (by omega)] at ha
  rw[←h1] at ha
  rcases Nat.lt_or_ge (i-us.length) vs.length with h' | h'
  ·rw[List.getElem?_append_left h'] at hu
   rw[List.getElem?_append_left (by omega)] at ha
   exact g2 _ u a hu ha
  ·rw[List.getElem?_append_right h'] at hu
   rw[List.getElem?_append_right (by omega)] at ha
   rw[←h2] at ha
   exact g3 _ u a hu ha

theorem Io {o:Oper} {c:Operand} {xe:E} {sb:Bool} {args:Array Operand} {ts:Array TypeId} {wD:List SV} {ix:Nat} {r:eV} (ho:o.op=.call { callee:=.value c,args:=args,argTypes:=ts }) (hc:ef w ρ env (a.eval c) (.e xe sb))
  (hl:Ip P xe wD o σ.obj ix=some r) (hlen:args.size=wD.length) (hx:∀(i:Nat) (x:Operand) (s:SV),args[i]? = some x→wD[i]? = some s→ef w ρ env (a.eval x) s) (h:cu w0 X w a σ env ρ) (hd:∀d,o.dst=some d→d<σ.tmps.length)
  (hb:cn P env ix r.bind):(r.eM=none∧gq P o a w w0 X (σ.put o.dst r.val) env)∨∃ob z,r.eM=some (ob,z)∧gq P o a w w0 X ((σ.setObj ob (some z)).put o.dst r.val) env:=by
 unfold Ip at hl
 split at hl
 ·rename_i rs xs cf hE tI hxs dN
  obtain⟨bs,jC,hst,_⟩:=h.dO _ _ dN
  obtain⟨dc,hdc,hrc,_⟩:=hc.kC
  obtain⟨ds',oQ,cP,hrd⟩:=mZ (vs:=(args.map a.eval).toList) hxs (by simpa using hlen) (fun i v s hv hs=>by
   simp only[Array.toList_map,List.getElem?_map,Option.map_eq_some_iff] at hv
   obtain⟨x,hx',rfl⟩:=hv
   exact hx i x s (by simpa using hx') hs)
  have enter:∀{f:FuncId} {us cs:List D},dc=.fn f us cs→bJ P f=true→∃uv cv:Array Value,(execOp a.eval o).run P w=.ok (.enter f (uv++args.map a.eval++cv)) w∧uv.size=us.length∧cv.size=cs.length ∧
    (∀(i:Nat) (v:Value) (d:D),uv[i]? = some v→us[i]? = some d→bU w ρ.S v d)∧∀(i:Nat) (v:Value) (d:D),cv[i]? = some v→cs[i]? = some d→bU w ρ.S v d:=by
   intro f us cs he dG
   subst he
   generalize hv:a.eval c=v at hrc
   cases hrc with
   | @fn _ uv cv _ _ h1 h2 h3 h4=>
    refine⟨uv,cv,?_,h1,h2,h3,h4⟩
    unfold bJ at dG
    split at dG
    ·rename_i fn hf
     simp only[Bool.and_eq_true,Bool.not_eq_true',Option.isSome_iff_ne_none] at dG
     have VA:fn.body.isNone=false:=by
      cases hb:fn.body with
      | none=>exact absurd hb dG.2
      | some _=>rfl
     unfold execOp
     simp only[ho,resolve,hv,Deferred.ofValue,invoke,Sem.run_bind,Sem.run_pure,Result.andThen_ok,callFunc,run_program,hf,dG.1,VA,Bool.false_eq_true,if_false]
    ·cases dG
  split at hl
  ·split at hl
   ·cases hl
   ·rename_i hro
    cases hl
    refine .inr ⟨bN,_,rfl,fun Q=>?_⟩
    obtain⟨st,d,h',uV,cW,GS,_⟩:=hb
    obtain⟨xd,ds,uT,cV,nY,hfit⟩:=GS (by intro p hp;cases hp)
    rw[hdc] at uT
    cases uT
    rw[jC] at uV
    cases uV
    rw[cV] at oQ
    cases oQ
    unfold tQ at nY
    split at nY
    ·rename_i f us cs
     obtain⟨dG,hspec⟩:=nY
     obtain⟨uv,cv,hrun,FK,Vw,RK,IU⟩:=enter rfl dG
     rw[hrun]
     refine⟨fun e=>(by cases e),callsIn_wide.2 ?_⟩
     refine(hspec w ρ.S ρ.aJ bs _ rfl hst (h.mK dN) (gZ h dN) h.cells (by simp at cP;simp[FK,Vw,cP]) (fun i v x hv hx'=>VP (us:=uv.toList) (vs:=(args.map a.eval).toList) (ws:=cv.toList) (R:=fun v x=>bU w ρ.S v x) (by simpa using FK) cP (fun i u x hu hx=>RK i u x (by simpa using hu) hx) hrd (fun i u x hu hx=>IU i u x (by simpa using hu) hx) i v x (by rw[←Array.toList_append,←Array.toList_append,Array.getElem?_toList];exact hv) hx')).mono ?_
     rintro e w' ⟨v,S',bV,bs',⟨rfl,hr⟩,rfl,fp,hk,hS,hos,ht,hout,hsz,q_,hf',GU,IW⟩
     have bn:=h.Qew (x':=.Qrx 1 (.sym ix)) dN (by simpa using hro) (by simp only[E.eval,cW];rfl) fp hk hS hos ht hout hsz q_ hf' GU IW
     exact⟨_,bn.put (by rw[af.aZ];exact hd) (lD (by simp only[E.eval,cW];rfl) hr hfit)⟩
    ·rename_i l rec sl bT
     obtain⟨rfl,hspec⟩:=nY
     obtain⟨l',f,tmps,assign,body,US,hrun,xC⟩:=hspec w ρ.S ρ.aJ bs (args.map a.eval) (a.eval c) rfl hst (h.mK dN) (gZ h dN) h.cells hrc (by simpa using cP) (fun i v x hv hx'=>hrd i v x (by simpa using hv) hx')
     have U1:(execOp a.eval o).run P w=.ok (.round l' f tmps assign body) w:=by
      unfold execOp
      simp only[ho,resolve,US,Deferred.ofValue,invoke,Sem.run_bind,Sem.run_pure,Result.andThen_ok]
      simpa using hrun
     rw[U1]
     refine⟨fun e=>(by cases e),xC.mono ?_⟩
     rintro e w' ⟨S',bV,bs',rfl,rfl,fp,hk,hS,hos,ht,hout,hsz,q_,hf',GU,IW⟩
     have bn:=h.Qew (x':=.Qrx 1 (.sym ix)) dN (by simpa using hro) (by simp only[E.eval,cW];rfl) fp hk hS hos ht hout hsz q_ hf' GU IW
     exact⟨_,bn.put (by rw[af.aZ];exact hd) (lD (by simp only[E.eval,cW];rfl) (.v rfl) hfit)⟩
    ·rename_i l rec sl bT
     obtain⟨b,rfl,hspec⟩:=nY
     obtain⟨l',f,tmps,assign,body,US,hrun,xC⟩:=hspec w ρ.S ρ.aJ bs (args.map a.eval) (a.eval c) rfl hst (h.mK dN) (gZ h dN) h.cells hrc (by simpa using cP) (fun i v x hv hx'=>hrd i v x (by simpa using hv) hx')
     have U1:(execOp a.eval o).run P w=.ok (.round l' f tmps assign body) w:=by
      unfold execOp
      simp only[ho,resolve,US,Deferred.ofValue,invoke,Sem.run_bind,Sem.run_pure,Result.andThen_ok]
      simpa using hrun
     rw[U1]
     refine⟨fun e=>(by cases e),xC.mono ?_⟩
     rintro e w' ⟨S',bV,bs',rfl,rfl,fp,hk,hS,hos,ht,hout,hsz,q_,hf',GU,IW⟩
     have bn:=h.Qew (x':=.Qrx 1 (.sym ix)) dN (by simpa using hro) (by simp only[E.eval,cW];rfl) fp hk hS hos ht hout hsz q_ hf' GU IW
     exact⟨_,bn.put (by rw[af.aZ];exact hd) (lD (by simp only[E.eval,cW];rfl) (.v rfl) hfit)⟩
    ·exact nY.elim
  ·cases hl
   refine .inl ⟨rfl,fun Q=>?_⟩
   obtain⟨d,cW,GS⟩:=hb
   obtain⟨f,us,cs,st,ds,uT,dG,uV,cV,hspec,hfit⟩:=GS (by intro p hp;cases hp)
   rw[hdc] at uT
   cases uT
   obtain⟨uv,cv,hrun,FK,Vw,RK,IU⟩:=enter rfl dG
   rw[jC] at uV
   cases uV
   rw[cV] at oQ
   cases oQ
   rw[hrun]
   refine⟨fun e=>(by cases e),callsIn_wide.2 ?_⟩
   refine(hspec w ρ.S ρ.aJ bs _ rfl hst (h.mK dN) (gZ h dN) h.cells (by simp at cP;simp[FK,Vw,cP]) (fun i v x hv hx'=>VP (us:=uv.toList) (vs:=(args.map a.eval).toList) (ws:=cv.toList) (R:=fun v x=>bU w ρ.S v x) (by simpa using FK) cP (fun i u x hu hx=>RK i u x (by simpa using hu) hx) hrd (fun i u x hu hx=>IU i u x (by simpa using hu) hx) i v x (by rw[←Array.toList_append,←Array.toList_append,Array.getElem?_toList];exact hv) hx')).mono ?_
   rintro e w' ⟨v,S',⟨rfl,hr⟩,xD,hs1,CC,fX,JG⟩
   exact⟨_,(h.behind xD hs1 CC fX JG).put hd (lD (by simp only[E.eval,cW]) hr hfit)⟩
 ·cases hl

theorem KO {o:Oper} {fn:Fn} {first bT:Array Operand} {fs cs:List SV} {ix:Nat} {r:eV} (ho:o.op=.makeFunc fn first bT) (hl:Uw fn fs cs ix=some r) (hfl:first.size=fs.length) (dG:bT.size=cs.length)
  (hf:∀(i:Nat) (x:Operand) (s:SV),first[i]? = some x→fs[i]? = some s→ef w ρ env (a.eval x) s) (hc:∀(i:Nat) (x:Operand) (s:SV),bT[i]? = some x→cs[i]? = some s→ef w ρ env (a.eval x) s)
  (h:cu w0 X w a σ env ρ) (hd:∀d,o.dst=some d→d<σ.tmps.length) (hb:cn P env ix r.bind):r.eM=none∧gq P o a w w0 X (σ.put o.dst r.val) env:=by
 unfold Uw at hl
 split at hl
 ·rename_i f x y hx hy
  cases hl
  have go:∀{os:Array Operand} {ss:List SV} {x:E},SV.JS ss=some x→os.size=ss.length→(∀(i:Nat) (x:Operand) (s:SV),os[i]? = some x→ss[i]? = some s→ef w ρ env (a.eval x) s) →
    ∃ds,x.eval env=some (.bh ds)∧(os.map a.eval).size=ds.length∧∀(i:Nat) (v:Value) (d:D),(os.map a.eval)[i]? = some v→ds[i]? = some d→bU w ρ.S v d:=by
   intro os ss x hx hl hh
   obtain⟨ds,h1,h2,h3⟩:=SV.Hx (w:=w) (ρ:=ρ) (env:=env) (vs:=(os.map a.eval).toList) hx (by simpa using hl) (fun i v c hv hc=>by
    simp only[Array.toList_map,List.getElem?_map,Option.map_eq_some_iff] at hv
    obtain⟨z,hz,rfl⟩:=hv
    exact hh i z c (by simpa using hz) hc)
   exact⟨ds,h1,by simpa using h2,fun i v d hv hd=>h3 i v d (by simpa using hv) hd⟩
  obtain⟨us,h1,h2,h3⟩:=go hx hfl hf
  obtain⟨es,h4,h5,h6⟩:=go hy dG hc
  obtain⟨d,he,cW⟩:=hb
  simp only[E.eval,h1,h4,Option.bind_some,D.gV] at he
  cases he
  refine⟨rfl,bS h hd (v:=.func (.func f) (first.map a.eval) (bT.map a.eval)) ?_ (.e (d:=.fn f us es) (by simp[E.eval,cW]) (.fn h2 h5 h3 h6) fun _=>rfl)⟩
  unfold execOp
  simp[ho,Instr.makeFunc]
 ·cases hl

end
end
end

section
noncomputable section

def WK (p q:Nat×Nat):Bool:=decide (p.1+p.2≤q.1)||decide (q.1+q.2≤p.1)

def JE (place:Nat→Option (Nat×Nat))(p:Nat×Value)(k:Nat):Prop:=∃off size,place p.1=some (off,size)∧off≤k∧k<off+size

theorem I4 {place : Nat → Option (Nat × Nat)} : ∀ (parts : List (Nat × Value)) (cells : Array Value), (∀ p, p ∈ parts → ∃ off, place p.1 = some (off, p.2.cells.size) ∧ off + p.2.cells.size ≤ cells.size) →
  ∃ r, Instr.fill place cells parts = some r ∧ r.size = cells.size ∧ ∀ k, k < cells.size →
   ((∀ p, p ∈ parts → ¬ JE place p k) → r[k]? = cells[k]?) ∧
   (∀ p off, p ∈ parts → place p.1 = some (off, p.2.cells.size) → off ≤ k → k < off + p.2.cells.size → (∀ q, q ∈ parts → q ≠ p → ¬ JE place q k) → r[k]? = p.2.cells[k - off]?)
 | [], cells, _ => ⟨cells, rfl, rfl, fun k _ => ⟨fun _ => rfl, fun p off hp => by cases hp⟩⟩
 | (i, v) :: parts, cells, h => by
  obtain ⟨off, BF, hle⟩ := h (i, v) (by simp)
  obtain ⟨g1, g2⟩ := Great.foldl_set off v.cells.toList 0 cells
  obtain ⟨r, hr, hsz, hk⟩ := I4 (place := place) parts ((v.cells.toList.zipIdx 0).foldl (fun cs (x : Value × Nat) => cs.setIfInBounds (off + x.2) x.1) cells) (fun p hp => by
   obtain ⟨o, h1, h2⟩ := h p (by simp [hp])
   exact ⟨o, h1, by rw [g1]; exact h2⟩)
  refine ⟨r, ?_, by rw [hsz, g1], fun k hkc => ?_⟩
  ·unfold Instr.fill
   simp only [BF]
   simp only at hle
   rw [if_neg (by simp; omega)]
   rw [← hr]
   congr 1
   rw [← Array.foldl_toList, Array.toList_zipIdx]
  ·obtain ⟨hk1, hk2⟩ := hk k (by rw [g1]; exact hkc)
   have hg := g2 k
   simp only [Nat.add_zero, Array.length_toList] at hg
   refine ⟨fun hnc => ?_, fun p o hp hpo h1 h2 hne => ?_⟩
   ·rw [hk1 fun p hp => hnc p (by simp [hp]), hg, if_neg fun hc => hnc (i, v) (by simp) ⟨off, _, BF, hc.1, hc.2.1⟩]
   ·rcases List.mem_cons.1 hp with rfl | hp'
    ·by_cases hin : (i, v) ∈ parts
     ·exact hk2 (i, v) o hin hpo h1 h2 fun q hq hqp => hne q (by simp [hq]) hqp
     ·rw [hk1 fun q hq => hne q (by simp [hq]) fun e => hin (e ▸ hq), hg]
      simp only at hpo BF h2
      rw [BF] at hpo
      cases hpo
      rw [if_pos ⟨h1, h2, hkc⟩]
      simp
    ·exact hk2 p o hp' hpo h1 h2 fun q hq hqp => hne q (by simp [hq]) hqp

theorem rJ {α:Type}:∀{l:List (Nat×α)} {p q:Nat×α},(l.map (·.1)).Nodup→p∈l→q∈l→p.1=q.1→p=q
 | [],p,q,_,h,_,_=>by cases h
 | a :: l,p,q,hn,hp,hq,he=>by
  simp only[List.map_cons,List.nodup_cons] at hn
  rcases List.mem_cons.1 hp with rfl | hp' <;> rcases List.mem_cons.1 hq with rfl | Yf
  ·rfl
  ·exact(hn.1 (List.mem_map.2 ⟨q,Yf,he.symm⟩)).elim
  ·exact(hn.1 (List.mem_map.2 ⟨p,hp',he⟩)).elim
  ·exact rJ hn.2 hp' Yf he

/-! ## literals of parts of one cell each -/

def Bq (obj:Nat→Option bl):SV→Option SV
 | .e x true=>some (.e x true)
 | .oc o=>(match obj o with | some (.row _ _)=>some (.oc o) | _=>none)
 | .addr o f=>some (.addr o f)
 | .func (.func f) cs=>some (.func (.func f) cs)
 | _=>none

def Qbw (z:Value)(parts:List (Nat×Option SV))(i:Nat):Option SV:=
 match parts.find? (fun p=>p.1==i) with
 | some p=>p.2
 | none=>(z.cells[i]?).bind fun v=>(D.wI v).bind fun d=>if d.one=true then some (.e (.const d) true) else none

def DG (z:Value)(parts:List (Nat×Option SV)):Nat→Option (List SV)
 | 0=>some []
 | n+1=>(DG z parts n).bind fun l=>(Qbw z parts n).map fun s=>l++[s]

def ZK (P:Program)(t:TypeId)(n:Nat):Bool:=
 match P.underlying t with
 | some (.struct fields)=>decide (fields.toList.mapM (fun f=>(P.info? f.type).map fun i=>(f.offset,i.size))=some ((List.range n).map fun i=>(i,1)))
 | some (.array _ e)=>(match P.info? e with | some ie=>decide (ie.size=1) | none=>false)
 | _=>false

def Cy (P:Program)(t:TypeId)(parts:List (Nat×Operand))(ct:Operand→SV)(obj:Nat→Option bl):Option eV:=
 match P.info? t with
 | some it=>(match it.zero with
  | some z=>if ZK P t z.cells.size=true∧(parts.map (·.1)).Nodup∧parts.all (fun p=>decide (p.1<z.cells.size))=true then(DG z (parts.map fun p=>(p.1,Bq obj (ct p.2))) z.cells.size).map fun l=>{ val:=.agg l } else none
  | none=>none)
 | none=>none

section
variable {P:Program} {w w0:World} {X:kG} {a:Act} {σ:af} {env:List D} {ρ:dJ}

theorem DF {z:Value}{parts:List (Nat×Option SV)}:∀{n:Nat} {l:List SV},DG z parts n=some l→l.length=n∧∀i,i<n→∃s,l[i]? = some s∧Qbw z parts i=some s
 | 0,l,h=>by
  simp only[DG,Option.some.injEq] at h
  subst h
  exact⟨rfl,fun i hi=>by omega⟩
 | n+1,l,h=>by
  simp only[DG,Option.bind_eq_some_iff,Option.map_eq_some_iff] at h
  obtain⟨l',h1,s,h2,rfl⟩:=h
  obtain⟨g1,g2⟩:=DF h1
  refine⟨by simp[g1],fun i hi=>?_⟩
  by_cases hin:i<n
  ·obtain⟨s',k1,k2⟩:=g2 i hin
   exact⟨s',by rw[List.getElem?_append_left (by omega)];exact k1,k2⟩
  ·obtain rfl:i=n:=by omega
   exact⟨s,by rw[List.getElem?_append_right (by omega),g1];simp,h2⟩

theorem Uf {sv s:SV}{v:Value}(h:Bq σ.obj sv=some s)(hr:ef w ρ env v sv)(fP:∀o y,σ.obj o=some y→iB w ρ env o y):ef w ρ env v s∧v.oneCell'=true:=by
 unfold Bq at h
 split at h
 ·cases h
  obtain⟨d,_,h2,h3⟩:=hr.kC
  exact⟨hr,h2.one (h3 rfl)⟩
 ·rename_i o
  split at h
  ·rename_i x sz ho
   cases h
   obtain⟨vs,ty,es,_,_,_,_,_,hval,_⟩:=fP o _ ho
   refine⟨hr,?_⟩
   rw[hr.sH,hval]
   rfl
  ·cases h
 ·cases h
  refine⟨hr,?_⟩
  rw[hr.lP]
  rfl
 ·cases h
  obtain⟨vs,hv,_⟩:=hr.rV
  refine⟨hr,?_⟩
  rw[hv]
  rfl
 ·cases h

theorem FF {o:Oper} {t:TypeId} {parts:Array (Nat×Operand)} {ct:Operand→SV} {r:eV} (ho:o.op=.build t parts) (hv:∀x,ef w ρ env (a.eval x) (ct x)) (hl:Cy P t parts.toList ct σ.obj=some r) (h:cu w0 X w a σ env ρ)
  (hd:∀d,o.dst=some d→d<σ.tmps.length):r.eM=none∧gq P o a w w0 X (σ.put o.dst r.val) env:=by
 unfold Cy at hl
 split at hl
 ·rename_i it hit
  split at hl
  ·rename_i z hz
   split at hl
   ·rename_i hc
    obtain⟨zb,hnd,hin⟩:=hc
    obtain⟨l,hl',rfl⟩:=Option.map_eq_some_iff.1 hl
    refine⟨rfl,?_⟩
    obtain⟨Zw,mM⟩:=DF hl'
    have hlt:∀p,p∈parts.toList→p.1<z.cells.size:=fun p hp=>by simpa using List.all_eq_true.1 hin p hp
    have hpart:∀p,p∈parts.toList→∃s,Qbw z (parts.toList.map fun p=>(p.1,Bq σ.obj (ct p.2))) p.1=some s∧ef w ρ env (a.eval p.2) s∧(a.eval p.2).oneCell'=true:=by
     intro p hp
     obtain⟨s,_,hs⟩:=mM p.1 (hlt p hp)
     refine⟨s,hs,?_⟩
     unfold Qbw at hs
     split at hs
     ·rename_i q hq
      have hmem:=List.mem_of_find?_eq_some hq
      have hqi:=List.find?_some hq
      simp only[beq_iff_eq] at hqi
      obtain⟨p0,hp0,rfl⟩:=List.mem_map.1 hmem
      have:=rJ hnd hp0 hp hqi
      subst this
      exact Uf hs (hv _) h.dO
     ·rename_i hnone
      have:=List.find?_eq_none.1 hnone (p.1,Bq σ.obj (ct p.2)) (List.mem_map.2 ⟨p,hp,rfl⟩)
      simp at this
    have ze:∀p,p∈parts.toList→(a.eval p.2).cells=#[a.eval p.2]:=fun p hp=>by
     have:=(hpart p hp).choose_spec.2.2
     cases hv:a.eval p.2 <;> first | rfl | (rw[hv] at this;simp[Value.oneCell'] at this)
    obtain⟨place,N5,Oi⟩:∃place:Nat→Option (Nat×Nat),(∀i,i<z.cells.size→place i=some (i,1))∧∀vs,P.built t vs=Instr.fill place z.cells vs:=by
     unfold ZK at zb
     split at zb
     ·rename_i fields hu
      simp only[decide_eq_true_eq] at zb
      refine⟨fun i=>((List.range z.cells.size).map fun i=>(i,1)).toArray[i]?,fun i hi=>by simp[hi],fun vs=>?_⟩
      unfold Program.built
      simp only[hit,hu,hz,zb]
     ·rename_i n e hu
      split at zb
      ·rename_i ie hie
       simp only[decide_eq_true_eq] at zb
       refine⟨fun i=>some (i*ie.size,ie.size),fun i hi=>by simp[zb],fun vs=>?_⟩
       unfold Program.built
       simp only[hit,hu,hz,hie]
      ·cases zb
     ·cases zb
    obtain⟨r,hr,tI,Fs⟩:=I4 (place:=place) (parts.toList.map fun p=>(p.1,a.eval p.2)) z.cells (fun p hp=>by
     obtain⟨q,hq,rfl⟩:=List.mem_map.1 hp
     refine⟨q.1,?_,?_⟩
     ·rw[N5 _ (hlt q hq),ze q hq];rfl
     ·have:=hlt q hq
      rw[ze q hq]
      simp
      omega)
    have Yq:∀p,p∈parts.toList→∀k,JE place (p.1,a.eval p.2) k→k=p.1:=by
     rintro p hp k ⟨off,size,h9,h10,h11⟩
     simp only[N5 _ (hlt p hp),Option.some.injEq,Prod.mk.injEq] at h9
     obtain⟨rfl,rfl⟩:=h9
     omega
    have hcell:∀k,k<z.cells.size→∃v s,r[k]? = some v∧l[k]? = some s∧ef w ρ env v s∧v.oneCell'=true:=by
     intro k hk
     obtain⟨s,hs1,fX⟩:=mM k hk
     by_cases hp:∃p,p∈parts.toList∧p.1=k
     ·obtain⟨p,hp,rfl⟩:=hp
      obtain⟨s',h1,h2,h3⟩:=hpart p hp
      rw[fX] at h1
      cases h1
      refine⟨a.eval p.2,s,?_,hs1,h2,h3⟩
      have:=(Fs p.1 hk).2 (p.1,a.eval p.2) p.1 (List.mem_map.2 ⟨p,hp,rfl⟩) (by rw[N5 _ hk,ze p hp];rfl) (Nat.le_refl _) (by rw[ze p hp];simp) fun q hq hne GP=>by
       obtain⟨p',hp',rfl⟩:=List.mem_map.1 hq
       have:=Yq p' hp' _ GP
       exact hne (by rw[rJ hnd hp' hp this.symm])
      rw[this,ze p hp]
      simp
     ·have hno:∀p,p∈parts.toList→p.1≠k:=fun p hpm e=>hp ⟨p,hpm,e⟩
      have:=(Fs k hk).1 fun q hq GP=>by
       obtain⟨p',hp',rfl⟩:=List.mem_map.1 hq
       exact hno p' hp' (Yq p' hp' _ GP).symm
      unfold Qbw at fX
      split at fX
      ·rename_i q hq
       have hmem:=List.mem_of_find?_eq_some hq
       have hqi:=List.find?_some hq
       simp only[beq_iff_eq] at hqi
       obtain⟨p0,hp0,rfl⟩:=List.mem_map.1 hmem
       exact absurd hqi (hno p0 hp0)
      ·obtain⟨v,hv1,fX⟩:=Option.bind_eq_some_iff.1 fX
       obtain⟨d,IT,fX⟩:=Option.bind_eq_some_iff.1 fX
       split at fX
       ·rename_i hone
        cases fX
        have hrd:bU w ρ.S v d:=D.lE IT
        exact⟨v,_,this.trans hv1,hs1,.e rfl hrd fun _=>hone,hrd.one hone⟩
       ·cases fX
    have tK:P.built t (parts.map fun(x:Nat×Operand)=>(x.1,a.eval x.2)).toList=some r:=by rw[Oi,Array.toList_map];exact hr
    have hrun:(execOp a.eval o).run P w=.ok (.value (.agg r)) w:=by
     unfold execOp
     simp only[ho,Sem.run_bind,run_build w t _ r tK,Result.andThen_ok,Sem.run_pure]
    refine bS h hd hrun (.agg (by rw[tI,Zw]) (fun k v Qcz=>?_) fun k v c Qcz hc=>?_)
    ·obtain⟨v',s,h1,_,_,h4⟩:=hcell k (by rw[←tI];exact(Array.getElem?_eq_some_iff.1 Qcz).1)
     rw[Qcz] at h1
     cases h1
     exact h4
    ·obtain⟨v',s,h1,h2,h3,_⟩:=hcell k (by rw[←tI];exact(Array.getElem?_eq_some_iff.1 Qcz).1)
     rw[Qcz] at h1
     rw[hc] at h2
     cases h1
     cases h2
     exact h3
   ·cases hl
  ·cases hl
 ·cases hl

end
end
end

section
noncomputable section


def E.same:E→E→Bool
 | .sym a,.sym b=>decide (a=b)
 | .const a,.const b=>D.same a b
 | .bin o k a b,.bin o' k' a' b'=>decide (o=o')&&decide (k=k')&&a.same a'&&b.same b'
 | .un o a,.un o' a'=>decide (o=o')&&a.same a'
 | .conv k a,.conv k' a'=>decide (k=k')&&a.same a'
 | .aR a,.aR a'=>a.same a'
 | .uJ a,.uJ a'=>a.same a'
 | .bt a,.bt a'=>a.same a'
 | .cell i a,.cell i' a'=>decide (i=i')&&a.same a'
 | .cells i n a,.cells i' n' a'=>decide (i=i')&&decide (n=n')&&a.same a'
 | .bB n a,.bB n' a'=>decide (n=n')&&a.same a'
 | .idx a b,.idx a' b'=>a.same a'&&b.same b'
 | .uS n a b,.uS n' a' b'=>decide (n=n')&&a.same a'&&b.same b'
 | .nil,.nil=>true
 | .cons a b,.cons a' b'=>a.same a'&&b.same b'
 | .one a,.one a'=>a.same a'
 | .app n m a b,.app n' m' a' b'=>decide (n=n')&&decide (m=m')&&a.same a'&&b.same b'
 | .bz a b,.bz a' b'=>a.same a'&&b.same b'
 | .gE a,.gE a'=>a.same a'
 | .gV f a b,.gV f' a' b'=>decide (f=f')&&a.same a'&&b.same b'
 | .sub n a b c,.sub n' a' b' c'=>decide (n=n')&&a.same a'&&b.same b'&&c.same c'
 | .set a b n c,.set a' b' n' c'=>a.same a'&&b.same b'&&decide (n=n')&&c.same c'
 | .ite a b c,.ite a' b' c'=>a.same a'&&b.same b'&&c.same c'
 | .guard a w b,.guard a' w' b'=>a.same a'&&decide (w=w')&&b.same b'
 | .ax,.ax=>true
 | .aa a b,.aa a' b'=>a.same a'&&b.same b'
 | .Qrx i a,.Qrx i' a'=>decide (i=i')&&a.same a'
 | .rep n a d,.rep n' a' d'=>decide (n=n')&&a.same a'&&D.same d d'
 | .deref a,.deref a'=>a.same a'
 | .oO t a,.oO t' a'=>decide (t=t')&&a.same a'
 | .mm m a b,.mm m' a' b'=>decide (m=m')&&a.same a'&&b.same b'
 | .ay k a,.ay k' a'=>decide (k=k')&&a.same a'
 | .nn a,.nn a'=>a.same a'
 | .aj n a b,.aj n' a' b'=>decide (n=n')&&a.same a'&&b.same b'
 | .ld g n a b,.ld g' n' a' b'=>decide (g=g')&&decide (n=n')&&a.same a'&&b.same b'
 | .gQ n a b c,.gQ n' a' b' c'=>decide (n=n')&&a.same a'&&b.same b'&&c.same c'
 | .cI e n a b,.cI e' n' a' b'=>decide (e=e')&&decide (n=n')&&a.same a'&&b.same b'
 | .aU a,.aU a'=>a.same a'
 | .a_ e n a b,.a_ e' n' a' b'=>decide (e=e')&&decide (n=n')&&a.same a'&&b.same b'
 | .bO a b,.bO a' b'=>a.same a'&&b.same b'
 | .fU e n m a b c,.fU e' n' m' a' b' c'=>decide (e=e')&&decide (n=n')&&decide (m=m')&&a.same a'&&b.same b'&&c.same c'
 | .apps a b c,.apps a' b' c'=>a.same a'&&b.same b'&&c.same c'
 | .ve g a b,.ve g' a' b'=>decide (g=g')&&a.same a'&&b.same b'
 | .vf a b,.vf a' b'=>a.same a'&&b.same b'
 | .m4 o a b c d,.m4 o' a' b' c' d'=>decide (o=o')&&a.same a'&&b.same b'&&c.same c'&&d.same d'
 | _,_=>false

theorem E.dU : ∀ {a b : E}, E.same a b = true → a = b := by
 intro a
 induction a <;> intro b h <;> cases b <;> simp only [E.same, Bool.and_eq_true, decide_eq_true_eq, Bool.false_eq_true] at h <;> first
  | rfl
  | (subst h; rfl)
  | (rw [D.dU h])
  | (rename_i ih _; rw [ih h])
  | (rename_i ih _ _; obtain ⟨rfl, h2⟩ := h; rw [ih h2])
  | (rename_i ih _ _ _; obtain ⟨⟨rfl, rfl⟩, h2⟩ := h; rw [ih h2])
  | (rename_i ih1 ih2 _ _; rw [ih1 h.1, ih2 h.2])
  | (rename_i ih1 ih2 _ _ _; obtain ⟨⟨rfl, h1⟩, h2⟩ := h; rw [ih1 h1, ih2 h2])
  | (rename_i ih1 ih2 _ _ _ _; obtain ⟨⟨⟨rfl, rfl⟩, h1⟩, h2⟩ := h; rw [ih1 h1, ih2 h2])
  | (rename_i ih1 ih2 ih3 _ _ _; rw [ih1 h.1.1, ih2 h.1.2, ih3 h.2])
  | (rename_i ih1 ih2 ih3 _ _ _ _; obtain ⟨⟨⟨rfl, h1⟩, h2⟩, h3⟩ := h; rw [ih1 h1, ih2 h2, ih3 h3])
  | (rename_i ih1 ih2 ih3 _ _ _ _; obtain ⟨⟨⟨h1, h2⟩, rfl⟩, h3⟩ := h; rw [ih1 h1, ih2 h2, ih3 h3])
  | (rename_i ih1 ih2 ih3 _ _ _ _ _ _; obtain ⟨⟨⟨⟨⟨rfl, rfl⟩, rfl⟩, h1⟩, h2⟩, h3⟩ := h; rw [ih1 h1, ih2 h2, ih3 h3])
  | (rename_i ih1 ih2 _ _ _; obtain ⟨⟨h1, rfl⟩, h2⟩ := h; rw [ih1 h1, ih2 h2])
  | (rename_i ih _ _ _; obtain ⟨⟨rfl, h1⟩, h2⟩ := h; rw [ih h1, D.dU h2])
  | (rename_i ih1 ih2 ih3 ih4 _ _ _ _ _; obtain ⟨⟨⟨⟨rfl, h1⟩, h2⟩, h3⟩, h4⟩ := h; rw [ih1 h1, ih2 h2, ih3 h3, ih4 h4])

def Fo:List (E×Bool)→List (E×Bool)→Bool
 | [],_=>true
 | p :: r,q :: s=>p.1.same q.1&&decide (p.2=q.2)&&Fo r s
 | _ :: _,[]=>false

theorem Fm:∀{a b:List (E×Bool)},Fo a b=true→∀p,p∈a→p∈b
 | [],_,_,p,hp=>by cases hp
 | x :: r,y :: s,h,p,hp=>by
  simp only[Fo,Bool.and_eq_true,decide_eq_true_eq] at h
  obtain⟨⟨h1,h2⟩,h3⟩:=h
  have hxy:x=y:=Prod.ext (E.dU h1) h2
  subst hxy
  cases hp with
  | head=>simp
  | tail _ hp=>simp[Fm h3 p hp]
 | _ :: _,[],h,_,_=>by simp[Fo] at h

def SV.strip (act:List (E×Bool)):SV→SV
 | .cond a sv=>if Fo a act then sv else .cE
 | sv=>sv

theorem SV.TC {w:World}{ρ:dJ}{env:List D}{v:Value}{sv:SV}{act:List (E×Bool)}(h:ef w ρ env v sv)(ha:bI env act):ef w ρ env v (sv.strip act):=by
 unfold SV.strip
 split
 ·split
  ·rename_i hp
   exact h.L7.2.1 fun p hq=>ha p (Fm hp p hq)
  ·exact .cE
 ·exact h

mutual
def SV.same:SV→SV→Bool
 | .cE,.cE=>true
 | .e x s,.e y t=>x.same y&&decide (s=t)
 | .agg a,.agg b=>SV.jJ a b
 | .bh a,.bh b=>SV.jJ a b
 | .addr o f,.addr o' f'=>decide (o=o')&&decide (f=f')
 | .aj o x s f,.aj o' x' s' f'=>decide (o=o')&&x.same x'&&decide (s=s')&&decide (f=f')
 | .iV x f,.iV x' f'=>x.same x'&&decide (f=f')
 | .own x k,.own x' k'=>x.same x'&&decide (k=k')
 | .oc o,.oc o'=>decide (o=o')
 | .func fn a,.func fn' b=>decide (fn=fn')&&SV.jJ a b
 | _,_=>false
def SV.jJ:List SV→List SV→Bool
 | [],[]=>true
 | a :: r,b :: s=>a.same b&&SV.jJ r s
 | _,_=>false
end

mutual
theorem SV.dU:∀{a b:SV},SV.same a b=true→a=b
 | .cE,b,h=>by cases b <;> first | rfl | simp[SV.same] at h
 | .e x s,b,h=>by cases b <;> first | (simp only[SV.same,Bool.and_eq_true,decide_eq_true_eq] at h;rw[E.dU h.1,h.2]) | simp[SV.same] at h
 | .agg a,b,h=>by cases b <;> first | (simp only[SV.same] at h;rw[SV.gb h]) | simp[SV.same] at h
 | .bh a,b,h=>by cases b <;> first | (simp only[SV.same] at h;rw[SV.gb h]) | simp[SV.same] at h
 | .addr o f,b,h=>by cases b <;> first | (simp only[SV.same,Bool.and_eq_true,decide_eq_true_eq] at h;rw[h.1,h.2]) | simp[SV.same] at h
 | .aj o x s f,b,h=>by cases b <;> first | (simp only[SV.same,Bool.and_eq_true,decide_eq_true_eq] at h;rw[h.1.1.1,E.dU h.1.1.2,h.1.2,h.2]) | simp[SV.same] at h
 | .iV x f,b,h=>by cases b <;> first | (simp only[SV.same,Bool.and_eq_true,decide_eq_true_eq] at h;rw[E.dU h.1,h.2]) | simp[SV.same] at h
 | .own x k,b,h=>by cases b <;> first | (simp only[SV.same,Bool.and_eq_true,decide_eq_true_eq] at h;rw[E.dU h.1,h.2]) | simp[SV.same] at h
 | .oc o,b,h=>by cases b <;> first | (simp only[SV.same,decide_eq_true_eq] at h;rw[h]) | simp[SV.same] at h
 | .func fn a,b,h=>by cases b <;> first | (simp only[SV.same,Bool.and_eq_true,decide_eq_true_eq] at h;rw[h.1,SV.gb h.2]) | simp[SV.same] at h
 | .cond act sv,b,h=>by cases b <;> simp[SV.same] at h
theorem SV.gb:∀{a b:List SV},SV.jJ a b=true→a=b
 | [],[],_=>rfl
 | a :: r,b :: s,h=>by
  simp only[SV.jJ,Bool.and_eq_true] at h
  rw[SV.dU h.1,SV.gb h.2]
 | [],_ :: _,h | _ :: _,[],h=>by simp[SV.jJ] at h
end

end
end

section
noncomputable section

def af.zS (σ:af):Operand→SV
 | .tmp t=>σ.tmp t
 | .const v=>oV v
 | .global _=>.cE
 | .func f=>.func (.func f) []

def af.ct (σ:af)(act:List (E×Bool))(x:Operand):SV:=(σ.zS x).strip act

def isAtom (ix:Nat):E→Bool
 | .sym k=>decide (k<ix)
 | .const _=>true
 | _=>false

def Hq (ops:Array Oper)(σ:af)(ix:Nat)(g:Option (Nat×Bool)):Option (List (E×Bool)):=
 match g with
 | none=>some []
 | some (j,want)=>match(ops[j]?).bind (·.dst) with
  | some d=>match σ.tmp d with
   | .e x _=>some [(x,want)]
   | .cond act (.e x _)=>if isAtom ix x then some (act++[(x,want)]) else none
   | _=>none
  | none=>none

def Gy (P:Program)(o:Oper)(ct:List (E×Bool)→Operand→SV)(act:List (E×Bool))(obj:Nat→Option bl)(ix:Nat):Option eV:=
 match o.op with
 | .move x | .assign x=>some { val:=ct act x }
 | .pick c a b=>match(ct act c).jx with
  | some c'=>match(ct (act++[(c',true)]) a).jx,(ct (act++[(c',false)]) b).jx with
   | some a',some b'=>some { val:=.e (.sym ix) false,bind:=some (.ev (.ite c' a' b')) }
   | _,_=>none
  | none=>none
 | .alloc t=>if CQ P t then Iw P t o.dst else none
 | .box t x=>NQ P t (ct act x) o.dst obj ix
 | .load t x=>GB P t (ct act x) obj ix
 | .store t x y=>AA P t (ct act x) (ct act y) obj ix
 | .nilCheck x=>aaF (ct act x) ix
 | .binOp op t x y _=>aaJ P op t (ct act x) (ct act y) ix
 | .unOp op _ x=>lun op (ct act x) ix
 | .convert src dst x=>UA P src dst (ct act x) ix
 | .fieldAddr s x f=>match xu P s (ct act x) f with
  | some r=>some r
  | none=>Ik P s (ct act x) f ix
 | .indexAddr t x i=>nv P t (ct act x) (ct act i) obj ix
 | .extract x i=>D7 (ct act x) i ix
 | .call c=>match c.callee with
  | .builtin .len=>match c.args.toList,c.argTypes.toList with
   | [x],[t]=>RD P t (ct act x) obj ix
   | _,_=>none
  | .value f=>match ct act f with
   | .func (.func f) []=>K0 P f (c.args.toList.map (ct act)) obj ix
   | .e x _=>Ip P x (c.args.toList.map (ct act)) o obj ix
   | _=>none
  | .invoke rc name=>linv P o (ct act rc) name (c.args.toList.map (ct act)) obj ix
  | _=>none
 | .makeFunc fn first bT=>Uw fn (first.toList.map (ct act)) (bT.toList.map (ct act)) ix
 | .build t parts=>Cy P t parts.toList (ct act) obj
 | _=>none

def Eu (act:List (E×Bool))(x:E):E:=act.foldr (fun p e=>.guard p.1 p.2 e) x

def rU (act:List (E×Bool)):Option Bind→Option Bind
 | none=>none
 | some (.ev x)=>some (.ev (Eu act x))
 | some (.call a f h args rs)=>some (.call (act++a) f h args rs)
 | some (.bQ a f h args rs)=>some (.bQ (act++a) f h args rs)
 | some (.fu a x h args rs)=>some (.fu (act++a) x h args rs)
 | some (.fC a x h args rs)=>some (.fC (act++a) x h args rs)

def Tm (act:List (E×Bool))(sv:SV):SV:=match act with | []=>sv | _=>.cond act sv

def af.Qrv (σ:af)(d:Nat):Bool:=SV.ee d σ.tmps&&(σ.mem.all fun x=>match x with | some y=>y.aT d | none=>true)&&match σ.hs with | some y=>y.aT d | none=>true

def qB (σ:af)(o:Oper):Bool:=vP o&&match o.dst with | some d=>decide (d<σ.tmps.length) | none=>true

theorem xM {σ:af}{o:Oper}(h:qB σ o=true):∀d,o.dst=some d→d<σ.tmps.length:=by
 intro d hd
 simp only[qB,hd,Bool.and_eq_true,decide_eq_true_eq] at h
 exact h.2

theorem vo {σ:af}{o:Oper}(h:qB σ o=true):vP o=true:=by
 simp only[qB,Bool.and_eq_true] at h
 exact h.1

section
variable {P:Program} {w w0:World} {X:kG} {a:Act} {σ:af} {env:List D} {ρ:dJ}

theorem Ar (h:cu w0 X w a σ env ρ)(x:Operand):ef w ρ env (a.eval x) (σ.zS x):=by
 cases x with
 | tmp t=>exact h.tmps t
 | const v=>exact ET v
 | global g=>exact .cE
 | func f=>exact .func (vs:=#[]) rfl (by simp)

theorem uC (h:cu w0 X w a σ env ρ){act:List (E×Bool)}(ha:bI env act)(x:Operand):ef w ρ env (a.eval x) (σ.ct act x):=SV.TC (Ar h x) ha

theorem wT:∀{act:List (E×Bool)} {x:E} {d:D},bI env act→(Eu act x).eval env=some d→x.eval env=some d
 | [],_,_,_,h=>h
 | p :: r,x,d,ha,h=>by
  have hp:=ha p (by simp)
  simp only[Eu,List.foldr_cons,E.eval,hp,if_true] at h
  exact wT (fun q hq=>ha q (by simp[hq])) h

theorem s_ {act:List (E×Bool)}{ix:Nat}{b:Option Bind}(ha:bI env act)(h:cn P env ix (rU act b)):cn P env ix b:=by
 cases b with
 | none=>trivial
 | some b=>
  cases b with
  | ev x=>obtain⟨d,h1,h2⟩:=h;exact⟨d,wT ha h1,h2⟩
  | bQ act' f hx args rs=>
   obtain⟨st,d,h',h0,h1,h2,h3⟩:=h
   have hiff:bI env (act++act')↔bI env act':=⟨fun hh p hp=>hh p (by simp[hp]),fun hh p hp=>(List.mem_append.1 hp).elim (ha p) (hh p)⟩
   exact⟨st,d,h',h0,h1,fun ha'=>h2 (hiff.2 ha'),fun hn=>h3 fun hh=>hn (hiff.1 hh)⟩
  | fC act' x hx args rs=>
   obtain⟨st,d,h',h0,h1,h2,h3⟩:=h
   have hiff:bI env (act++act')↔bI env act':=⟨fun hh p hp=>hh p (by simp[hp]),fun hh p hp=>(List.mem_append.1 hp).elim (ha p) (hh p)⟩
   exact⟨st,d,h',h0,h1,fun ha'=>h2 (hiff.2 ha'),fun hn=>h3 fun hh=>hn (hiff.1 hh)⟩
  | fu act' x hx args rs=>
   obtain⟨d,h1,h2⟩:=h
   refine⟨d,h1,fun ha'=>h2 fun p hp=>?_⟩
   rcases List.mem_append.1 hp with hp | hp
   ·exact ha p hp
   ·exact ha' p hp
  | call act' f hx args rs=>
   obtain⟨d,h1,h2⟩:=h
   refine⟨d,h1,fun ha'=>h2 fun p hp=>?_⟩
   rcases List.mem_append.1 hp with hp | hp
   ·exact ha p hp
   ·exact ha' p hp

theorem NW {ix:Nat}{x:E}(h:isAtom ix x=true)(cW:ix≤env.length):∃d,x.eval env=some d:=by
 unfold isAtom at h
 split at h
 ·rename_i k
  simp only[decide_eq_true_eq] at h
  have hk:k<env.length:=Nat.lt_of_lt_of_le h cW
  exact⟨env[k],by simp only[E.eval];exact List.getElem?_eq_getElem hk⟩
 ·exact⟨_,rfl⟩
 ·cases h

theorem Ew {a:Array Value}{d:Nat}(h:d<a.size):a[d]? = some (a.getD d undef):=by
 rw[Array.getD_eq_getD_getElem?,Array.getElem?_eq_getElem h]
 rfl

theorem Mi {x:E}{v:Value}{d:D}{want:Bool}(hx:x.eval env=some d)(hr:bU w ρ.S v d):v=.bool want↔x.eval env=some (.v (.bool want)):=by
 rw[hx]
 constructor
 ·rintro rfl
  cases hr
  rfl
 ·intro h
  cases h
  exact hr.v_eq

theorem ML {ops:Array Oper}{ix:Nat}{o:Oper}{act:List (E×Bool)}(h:cu w0 X w a σ env ρ)(cW:ix≤env.length)(hsz:∀(j d:Nat),(ops[j]?).bind (fun(o:Oper)=>o.dst)=some d→d<σ.tmps.length)(hact:Hq ops σ ix o.guard=some act) :
  (∀p,p∈act→∃d,p.1.eval env=some d)∧(Region.wanted o (yielded ops a.tmps)=true↔bI env act):=by
 unfold Hq at hact
 cases hg:o.guard with
 | none=>
  simp only[hg] at hact
  cases hact
  exact⟨fun p hp=>(by cases hp),(by simp[Region.wanted,hg,bI])⟩
 | some g=>
  obtain⟨j,want⟩:=g
  simp only[hg] at hact
  split at hact
  ·rename_i d hd
   have cP:=hsz j d hd
   have wN:=h.tmps d
   have hy:Region.wanted o (yielded ops a.tmps)=true↔a.tmps.getD d undef=.bool want:=by
    simp only[Region.wanted,hg,yielded,hd,Option.bind_some,Ew (show d<a.tmps.size by rw[h.size];exact cP)]
    cases a.tmps.getD d undef <;> simp
   split at hact
   ·rename_i x s hx
    cases hact
    rw[hx] at wN
    obtain⟨dx,pY,hrd,_⟩:=wN.kC
    refine⟨fun p hp=>by simp at hp;subst hp;exact⟨dx,pY⟩,?_⟩
    rw[hy,Mi pY hrd]
    simp[bI]
   ·rename_i act' x s hx
    split at hact
    ·rename_i xF
     cases hact
     rw[hx] at wN
     obtain⟨qW,ak5,hno⟩:=wN.L7
     obtain⟨dx,pY⟩:=NW (env:=env) xF cW
     refine⟨fun p hp=>?_,?_⟩
     ·rcases List.mem_append.1 hp with hp | hp
      ·exact qW p hp
      ·simp at hp;subst hp;exact⟨dx,pY⟩
     ·rw[hy]
      have hsplit:bI env (act'++[(x,want)])↔bI env act'∧x.eval env=some (.v (.bool want)):=by
       constructor
       ·intro hh
        exact⟨fun p hp=>hh p (by simp[hp]),hh (x,want) (by simp)⟩
       ·rintro⟨h1,h2⟩ p hp
        rcases List.mem_append.1 hp with hp | hp
        ·exact h1 p hp
        ·simp at hp;subst hp;exact h2
      rw[hsplit]
      by_cases ha:bI env act'
      ·obtain⟨dx',alS,hrd,_⟩:=(ak5 ha).kC
       rw[Mi alS hrd]
       simp[ha]
      ·rw[hno ha]
       simp[ha,undef]
    ·cases hact
   ·cases hact
  ·cases hact

theorem zH {d:Nat}(h:σ.Qrv d=true):σ.aT d:=by
 simp only[af.Qrv,Bool.and_eq_true] at h
 refine⟨fun t=>?_,fun o' x hx=>?_⟩
 ·simp only[af.gw]
  rw[List.getD_eq_getElem?_getD]
  cases ht:σ.tmps[t]? with
  | none=>rfl
  | some c=>exact SV.fw h.1.1 ht
 ·simp only[af.dV] at hx
  split at hx
  ·have h2:=h.2
   rw[hx] at h2
   exact h2
  ·rw[List.getD_eq_getElem?_getD] at hx
   cases ho:σ.mem[o']? with
   | none=>rw[ho] at hx;cases hx
   | some y=>
    rw[ho] at hx
    simp only[Option.getD_some] at hx
    subst hx
    have:=List.all_eq_true.1 h.1.2 _ (List.mem_of_getElem? ho)
    simpa using this

theorem Xd {act:List (E×Bool)}{sv:SV}{v:Value}(hd:∀p,p∈act→∃d,p.1.eval env=some d)(h:bI env act)(hv:ef w ρ env v sv):ef w ρ env v (Tm act sv):=by
 cases act with
 | nil=>exact hv
 | cons p r=>exact .cond hd (fun _=>hv) fun hn=>absurd h hn


def Qq (σ:af)(o:Oper)(eM:Option (Nat×bl)):Prop:=
 ∀ob x,eM=some (ob,x)→match o.op with
  | .alloc _=>σ.obj ob=none∧σ.aT ob
  | .box _ y=>σ.obj ob=none∧σ.aT ob∧(σ.ct [] y).aT ob=true
  | _=>True

theorem o4:bI env []:=fun p hp=>(by cases hp)

theorem KF {o:Oper} {act:List (E×Bool)} {ix:Nat} {r:eV} (h:cu w0 X w a σ env ρ) (ha:bI env act) (hl:Gy P o σ.ct act σ.obj ix=some r) (hd:∀d,o.dst=some d→d<σ.tmps.length) (hm:σ.mem.length=σ.tmps.length)
  (hb:cn P env ix r.bind) (hf:Qq σ o r.eM) (hact:(∃t x,o.op=.box t x)→r.eM≠none→act=[]):(r.eM=none∧gq P o a w w0 X (σ.put o.dst r.val) env)∨(∃ob x,r.eM=some (ob,x)∧gq P o a w w0 X ((σ.setObj ob (some x)).put o.dst r.val) env):=by
 have hv:=fun x=>uC (a:=a) h ha x
 have fP:∀ob y,σ.obj ob=some y→ob=bN∨ob<σ.mem.length:=by
  intro ob y hy
  simp only[af.dV] at hy
  split at hy
  ·exact .inl (by assumption)
  ·rw[List.getD_eq_getElem?_getD] at hy
   rcases Nat.lt_or_ge ob σ.mem.length with h1 | h1
   ·exact .inr h1
   ·rw[List.getElem?_eq_none h1] at hy;cases hy
 unfold Gy at hl
 split at hl
 ·rename_i x ho;cases hl;exact .inl ⟨rfl,Bu (.inl ho) (hv x) h hd⟩
 ·rename_i x ho;cases hl;exact .inl ⟨rfl,Bu (.inr ho) (hv x) h hd⟩
 ·rename_i c x y ho
  split at hl
  ·rename_i c' hc
   split at hl
   ·rename_i x' y' hx hy
    cases hl
    obtain⟨dc,hdc,hrc⟩:=SV.ck hc (hv c)
    obtain⟨dz,he,cW⟩:=hb
    simp only[E.eval,hdc] at he
    have hbr:∀b,dc=.v (.bool b)→bI env (act++[(c',b)]):=by
     intro b hb' p hp
     rcases List.mem_append.1 hp with hp | hp
     ·exact ha p hp
     ·simp at hp;subst hp;rw[hdc,hb']
    split at he
    ·rename_i heq
     cases heq
     have GP:=hrc.v_eq
     obtain⟨dx,pY,mT⟩:=SV.ck hx (uC (a:=a) h (hbr true rfl) x)
     rw[pY] at he
     cases he
     exact .inl ⟨rfl,bS h hd (v:=a.eval x) (by unfold execOp;simp[ho,GP,asBool]) (.e (by rw[E.eval,cW]) mT (by simp))⟩
    ·rename_i heq
     cases heq
     have GP:=hrc.v_eq
     obtain⟨dy,S4,hry⟩:=SV.ck hy (uC (a:=a) h (hbr false rfl) y)
     rw[S4] at he
     cases he
     exact .inl ⟨rfl,bS h hd (v:=a.eval y) (by unfold execOp;simp[ho,GP,asBool]) (.e (by rw[E.eval,cW]) hry (by simp))⟩
    ·cases he
   ·cases hl
  ·cases hl
 ·rename_i t ho
  split at hl
  ·rename_i hz
   have hd2:∃d x,o.dst=some d∧r.eM=some (d,x):=by
    unfold Iw at hl
    split at hl
    ·cases hl;exact⟨_,_,by assumption,rfl⟩
    ·cases hl
   obtain⟨d0,x0,hd0,hu0⟩:=hd2
   have hf':=hf d0 x0 hu0
   rw[ho] at hf'
   obtain⟨d,x,ig,hu,_,hok⟩:=Iv ho hz hl h hd hm (fun d fz=>by rw[hd0] at fz;cases fz;exact hf')
   exact .inr ⟨d,x,hu,hok⟩
  ·cases hl
 ·rename_i t x ho
  have hd2:∃d x,o.dst=some d∧r.eM=some (d,x):=by
   unfold NQ at hl
   split at hl
   ·obtain⟨_,_,rfl⟩:=Option.map_eq_some_iff.1 hl
    exact⟨_,_,by assumption,rfl⟩
   ·cases hl
  obtain⟨d0,x0,hd0,hu0⟩:=hd2
  have af9:act=[]:=hact ⟨_,_,ho⟩ (by rw[hu0];simp)
  subst af9
  have hf':=hf d0 x0 hu0
  rw[ho] at hf'
  obtain⟨d,y,ig,hu,hok⟩:=NO ho hl (hv x) h hd hm (fun d fz=>by rw[hd0] at fz;cases fz;exact hf') hb
  exact .inr ⟨d,y,hu,hok⟩
 ·rename_i t x ho;exact .inl (KQ ho hl (hv x) h hd hb)
 ·rename_i t x y ho
  obtain⟨ob,z,hu,_,hval,hok⟩:=Ia ho hl (hv x) (hv y) h hd fP hb
  rw[hval]
  exact .inr ⟨ob,z,hu,hok⟩
 ·rename_i x ho;exact .inl (NB ho hl (hv x) h hd hb)
 ·rename_i op t x y yt ho;exact .inl (NR ho hl (hv x) (hv y) h hd hb)
 ·rename_i op t x ho;exact .inl (Rz ho hl (hv x) h hd hb)
 ·rename_i src dst x ho;exact .inl (KY ho hl (hv x) h hd hb)
 ·rename_i s x f ho
  split at hl
  ·rename_i hr
   cases hl
   obtain⟨h1,_,h2⟩:=AG ho hr (hv x) h hd
   exact .inl ⟨h1,h2⟩
  ·exact .inl (FD ho hl (hv x) h hd hb)
 ·rename_i t x i ho;exact .inl (AE ho hl (hv x) (hv i) h hd hb)
 ·rename_i x i ho;exact .inl (D6 ho hl (hv x) h hd hb)
 ·rename_i c ho
  obtain⟨callee,args,ts⟩:=c
  simp only at hl
  split at hl
  ·split at hl
   ·rename_i x t hx ht
    have e1:args=#[x]:=by rw[←Array.toArray_toList (xs:=args),hx]
    have e2:ts=#[t]:=by rw[←Array.toArray_toList (xs:=ts),ht]
    subst e1 e2
    exact .inl (NH ho hl (hv x) h hd hb)
   ·cases hl
  ·rename_i c
   split at hl
   ·rename_i f hfv
    have hc:a.eval c=.func (.func f) #[] #[]:=by
     have:=hv c
     rw[hfv] at this
     obtain⟨vs,he,hl',_⟩:=this.rV
     rw[he]
     have:vs=#[]:=by simpa using hl'
     rw[this]
    exact(KZ ho hc hl (by simp) (fun i x s hi hs=>by
     simp only[List.getElem?_map,Array.getElem?_toList,hi,Option.map_some,Option.some.injEq] at hs
     subst hs
     exact hv x) h hd hb)
   ·rename_i x s hfv
    have hc:=hv c
    rw[hfv] at hc
    exact Io ho hc hl (by simp) (fun i x s hi hs=>by
     simp only[List.getElem?_map,Array.getElem?_toList,hi,Option.map_some,Option.some.injEq] at hs
     subst hs
     exact hv x) h hd hb
   ·cases hl
  ·rename_i rc name
   exact anZ ho hv hl h hd hb
  ·cases hl
 ·rename_i fn first bT ho
  exact .inl (KO ho hl (by simp) (by simp) (fun i x s hi hs=>by
     simp only[List.getElem?_map,Array.getElem?_toList,hi,Option.map_some,Option.some.injEq] at hs
     subst hs
     exact hv x) (fun i x s hi hs=>by
     simp only[List.getElem?_map,Array.getElem?_toList,hi,Option.map_some,Option.some.injEq] at hs
     subst hs
     exact hv x) h hd hb)
 ·rename_i t parts ho
  exact .inl (FF ho hv hl h hd)
 ·cases hl

end
end
end

section
noncomputable section

structure QH (w w':World)(row:Option Nat):Prop where
 os:w'.os=w.os
 tape:TL w' w
 output:w'.output=w.output
 size:w.heap.size≤w'.heap.size
 block:∀k,k<w.heap.size→some k≠row→w'.heap[k]? = w.heap[k]?

/-! ## append,with where Qiw new slice aBw -/

section
variable {P:Program} (w:World)

theorem kI (t ty e:TypeId) (i:TypeInfo) (z:Value) (size bytes:Nat) (ht:P.underlying t=some (.slice e)) (hi:P.info? e=some i) (hz:i.zero=some z)
  (hsize:i.size=size) (hby:i.bytes=bytes) (hzs:z.cells.size=size) (hsz:0<size)
  (v:Value) (n:Nat) (xs:List Value) (hown:w.ownsRow 0 e size v n xs)
  (a:Addr) (m c:Nat) (news:List Value) (hl:news.length=m*size) (hnews:∀j u,news[j]? = some u→w.cell? (a.add j)=some u) (h1:∀u∈news,u.oneCell'=true)
  (h63:n+m≤maxLen) (hbytes:(n+m)*bytes≤140737488355328) :
  ∃v' w',(Builtin.append_ #[t,t] ty #[v,.slice (some a) m c]).run P w=.ok v' w'∧w'.ownsRow 0 e size v' (n+m) (xs++news) ∧
   ((v'.ownBlock=v.ownBlock∧QH w w' v.ownBlock)∨(v'.ownBlock=some w.heap.size∧QH w w' none)):=by
 subst hsize
 subst hby
 have hsmall:n+m≤9223372036854775807:=by simp only[maxLen] at h63;omega
 have hlen:(xs++news).length=(n+m)*i.size:=by rw[List.length_append,hown.1,hl,Nat.add_mul]
 have grown:∀(old:Nat),old<n+m →
   (w.drew.alloc (.cells (xs.toArray++news.toArray++Builtin.zeroCells z.cells (grownCap w (n+m) old e-(n+m))) e)).ownsRow 0 e i.size
    (.slice (some ⟨w.heap.size,0,none⟩) (n+m) (grownCap w (n+m) old e)) (n+m) (xs++news) ∧
   QH w (w.drew.alloc (.cells (xs.toArray++news.toArray++Builtin.zeroCells z.cells (grownCap w (n+m) old e-(n+m))) e)) none:=by
  intro old ho
  have hge:=grownCap_ge w (n+m) old e
  have GR:grownCap w (n+m) old e≤maxLen:=grownCap_le_maxLen w (n+m) old e h63
  refine⟨⟨hlen,.inr ⟨w.heap.size,_,_,rfl,Nat.zero_le _,heap_alloc_new w.drew _,hge,GR,?_,?_⟩⟩,⟨rfl,⟨rfl,by simp⟩,rfl,by simp,fun k hk _=>Qcx w.drew _ k hk⟩⟩
  ·simp only[Array.size_append,List.size_toArray,size_zeroCells,hzs,hown.1,hl,←Nat.add_mul]
   congr 1
   omega
  ·simp only[Array.toList_append,List.append_assoc]
   rw[←List.append_assoc,←hlen]
   exact List.take_left
 rcases hown.2 with⟨rfl,rfl⟩ | ⟨g,cap,cur,rfl,hbg,hg,hnc,GR,hcs,Ek⟩
 ·have hx:xs=[]:=List.eq_nil_of_length_eq_zero (by simpa using hown.1)
  subst hx
  by_cases hm:m=0
  ·subst hm
   have hn:news=[]:=List.eq_nil_of_length_eq_zero (by simpa using hl)
   subst hn
   refine⟨.slice none 0 0,w,?_,World.ownsRow_nil w 0 e i.size,.inl ⟨rfl,⟨rfl,.refl _,rfl,Nat.le_refl _,fun _ _ _=>rfl⟩⟩⟩
   simp[Builtin.append_,run_underlying ht,sizeOf,typeInfo,hi,Builtin.lenOf,Builtin.firstCells,loadCells,loadCellsFrom]
  ·have hr:=run_append_nil (P:=P) w t ty e i z ht hi hz a m c news hl hnews (by omega) (by omega) (by have hb:=hbytes;simp only[Nat.zero_add] at hb;omega)
   have s8:=grown 0 (by omega)
   simp only[Nat.zero_add,List.nil_append,Array.empty_append] at s8 ⊢
   exact⟨_,_,hr,s8.1,.inr ⟨rfl,s8.2⟩⟩
 ·by_cases hroom:n+m≤cap
  ·have hfit:n*i.size+news.length≤cur.size:=by rw[hl,hcs,←Nat.add_mul];exact Nat.mul_le_mul_right _ hroom
   have hr:=run_append_room (P:=P) w t ty e i ht hi g n cap cur hg a m c news hl hnews h1 hroom hfit
   refine⟨_,_,hr,⟨hlen,.inr ⟨g,cap,_,rfl,hbg,setRow_heap w g cur _ e _ hg,hroom,GR,?_,?_⟩⟩,.inl ⟨rfl,⟨rfl,⟨rfl,Nat.le_refl _⟩,rfl,by simp,fun k _ hk=>setRow_other w g k _ (fun e=>hk (by simp[Value.ownBlock,e]))⟩⟩⟩
   ·simp only[List.size_toArray,List.length_append,List.length_take,List.length_drop,Array.length_toList]
    omega
   ·rw[Ek,←hlen]
    exact List.take_left
  ·have holds:∀j u,xs[j]? = some u→w.cell? ((⟨g,0,none⟩:Addr).add j)=some u:=hown.cells (g:=g) rfl
   have hr:=run_append_grow (P:=P) w t ty e i z ht hi hz ⟨g,0,none⟩ n cap xs hown.1 holds a m c news hl hnews (by omega) (by omega) (growslice_fits (by omega) hbytes)
   have s8:=grown cap (by omega)
   exact⟨_,_,hr,s8.1,.inr ⟨rfl,s8.2⟩⟩

theorem lT (t ty e:TypeId)(i:TypeInfo)(ht:P.underlying t=some (.slice e))(hi:P.info? e=some i)(ad:Option Addr)(n cap:Nat)(hn:n≤cap) :
  (Builtin.append_ #[t,t] ty #[.slice ad n cap,.slice none 0 0]).run P w=.ok (.slice ad n cap) w:=by
 cases ad <;> simp[Builtin.append_,run_underlying ht,sizeOf,typeInfo,hi,Builtin.lenOf,Builtin.firstCells,loadCells,hn,storeCells]

theorem B_ (t ty e:TypeId)(i:TypeInfo)(ht:P.underlying t=some (.slice e))(hi:P.info? e=some i)(ad:Option Addr)(n cap:Nat)(hn:n≤cap)(a:Addr)(c:Nat) :
  (Builtin.append_ #[t,t] ty #[.slice ad n cap,.slice (some a) 0 c]).run P w=.ok (.slice ad n cap) w:=by
 cases ad <;> simp[Builtin.append_,run_underlying ht,sizeOf,typeInfo,hi,Builtin.lenOf,Builtin.firstCells,loadCells,loadCellsFrom,hn,storeCells]

end

/-! ## a slice's right to grow is taken back: what is left can be read -/

mutual
def SV.down (k:Nat):SV→SV
 | .own x k'=>if k'=k then .e x true else .own x k'
 | .agg cs=>.agg (SV.mX k cs)
 | .bh cs=>.bh (SV.mX k cs)
 | .func fn cs=>.func fn (SV.mX k cs)
 | .cond act sv=>.cond act (sv.down k)
 | .cE=>.cE
 | .e x s=>.e x s
 | .iV x f=>.iV x f
 | .addr o f=>if o=k then .cE else .addr o f
 | .aj o x s f=>if o=k then .cE else .aj o x s f
 | .oc o=>if o=k then .cE else .oc o
def SV.mX (k:Nat):List SV→List SV
 | []=>[]
 | s :: r=>s.down k :: SV.mX k r
end

theorem SV.r7 {k:Nat}:∀{cs:List SV} {i:Nat} {c:SV},(SV.mX k cs)[i]? = some c→∃c',cs[i]? = some c'∧c=c'.down k
 | [],i,c,h=>by simp[SV.mX] at h
 | s :: r,0,c,h=>by simp[SV.mX] at h;exact⟨s,rfl,h.symm⟩
 | s :: r,i+1,c,h=>by
  simp[SV.mX] at h
  obtain⟨c',h1,h2⟩:=SV.r7 h
  exact⟨c',by simpa using h1,h2⟩

theorem SV.kN {k:Nat}:∀(cs:List SV),(SV.mX k cs).length=cs.length
 | []=>rfl
 | _ :: r=>by simp[SV.mX,SV.kN r]

mutual
theorem SV.kD {k:Nat}:∀(sv:SV),(sv.down k).aT k=true
 | .own x k'=>by
  simp only[SV.down]
  split
  ·rfl
  ·simpa[SV.aT] using(by assumption:¬k'=k)
 | .agg cs=>by simp only[SV.down,SV.aT];exact SV.mO cs
 | .bh cs=>by simp only[SV.down,SV.aT];exact SV.mO cs
 | .func fn cs=>by simp only[SV.down,SV.aT];exact SV.mO cs
 | .cond act sv=>by simp only[SV.down,SV.aT];exact SV.kD sv
 | .cE | .e x s | .iV x f=>rfl
 | .addr o f=>by
  simp only[SV.down]
  split
  ·rfl
  ·simpa[SV.aT] using(by assumption:¬o=k)
 | .aj o x s f=>by
  simp only[SV.down]
  split
  ·rfl
  ·simpa[SV.aT] using(by assumption:¬o=k)
 | .oc o=>by
  simp only[SV.down]
  split
  ·rfl
  ·simpa[SV.aT] using(by assumption:¬o=k)
theorem SV.mO {k:Nat}:∀(cs:List SV),SV.ee k (SV.mX k cs)=true
 | []=>rfl
 | s :: r=>by simp only[SV.mX,SV.ee,Bool.and_eq_true];exact⟨SV.kD s,SV.mO r⟩
end

theorem ef.down {w:World}{ρ:dJ}{env:List D}{v:Value}{sv:SV}(k:Nat)(h:ef w ρ env v sv):ef w ρ env v (sv.down k):=by
 induction h with
 | cE=>exact .cE
 | e hx h h1=>exact .e hx h h1
 | agg hl ho _ ih=>exact .agg (by rw[SV.kN];exact hl) ho fun i v c hv hc=>by obtain⟨c',h1,rfl⟩:=SV.r7 hc;exact ih i v c' hv h1
 | bh hl _ ih=>exact .bh (by rw[SV.kN];exact hl) fun i v c hv hc=>by obtain⟨c',h1,rfl⟩:=SV.r7 hc;exact ih i v c' hv h1
 | addr=>simp only[SV.down];split;exact .cE;exact .addr
 | aj hx=>simp only[SV.down];split;exact .cE;exact .aj hx
 | iV hx h=>exact .iV hx h
 | own hx h hv=>
  simp only[SV.down]
  split
  ·exact .e hx h fun _=>rfl
  ·exact .own hx h hv
 | oc=>simp only[SV.down];split;exact .cE;exact .oc
 | func hl _ ih=>exact .func (by rw[SV.kN];exact hl) fun i v c hv hc=>by obtain⟨c',h1,rfl⟩:=SV.r7 hc;exact ih i v c' hv h1
 | cond hd _ hn ih=>exact .cond hd ih hn

def bl.down (k:Nat):bl→bl
 | .box cs=>.box (SV.mX k cs)
 | x=>x

def af.down (k:Nat)(σ:af):af:={ tmps:=SV.mX k σ.tmps,mem:=(σ.mem.map fun x=>x.map (bl.down k)).set k none,hs:=if k=bN then none else σ.hs.map (bl.down k) }

theorem bl.YN {w:World}{ρ:dJ}{env:List D}{o:Nat}{x:bl}(k:Nat)(h:iB w ρ env o x):iB w ρ env o (x.down k):=by
 cases x with
 | box cs=>
  obtain⟨vs,ty,h1,h2,h3,h4,h5⟩:=h
  exact⟨vs,ty,h1,by rw[SV.kN];exact h2,h3,fun i v c hv hc=>by obtain⟨c',h6,rfl⟩:=SV.r7 hc;exact(h4 i v c' hv h6).down k,h5⟩
 | row y sz=>exact h
 | tok e sz=>exact h
 | store cf x=>exact h

theorem bl.EP (ρ:dJ)(o k:Nat)(x:bl):bY ρ o (x.down k)=bY ρ o x:=by cases x <;> rfl

theorem bl.kD (k:Nat)(x:bl):(x.down k).aT k=true:=by
 cases x with
 | box cs=>exact SV.mO cs
 | row y sz=>rfl
 | tok e sz=>rfl
 | store cf x=>rfl

theorem af.r8 {σ:af}{k o:Nat}{y:bl}(hy:(σ.down k).obj o=some y):o≠k∧∃x,σ.obj o=some x∧y=x.down k:=by
 simp only[af.dV,af.down] at hy ⊢
 split at hy
 ·rename_i ho
  subst ho
  split at hy
  ·cases hy
  ·rename_i hk
   obtain⟨x,hx,rfl⟩:=Option.map_eq_some_iff.1 hy
   exact⟨fun e=>hk e.symm,x,by simpa using hx,rfl⟩
 ·rename_i hh
  simp only[List.getD_eq_getElem?_getD,List.getElem?_set,List.getElem?_map,List.length_map] at hy
  rw[if_neg hh]
  simp only[List.getD_eq_getElem?_getD]
  split at hy
  ·split at hy <;> simp at hy
  ·rename_i hne
   refine⟨fun e=>hne e.symm,?_⟩
   cases ho:σ.mem[o]? with
   | none=>rw[ho] at hy;simp at hy
   | some z=>
    rw[ho] at hy
    cases z with
    | none=>simp at hy
    | some x=>simp at hy;exact⟨x,rfl,hy.symm⟩

theorem af.LR {σ:af}{k:Nat}(t:Nat):(σ.down k).tmp t=(σ.tmp t).down k:=by
 have go:∀(l:List SV) (t:Nat),(SV.mX k l).getD t .cE=(l.getD t .cE).down k:=by
  intro l
  induction l with
  | nil=>intro t;simp[SV.mX,SV.down]
  | cons s r ih=>
   intro t
   cases t with
   | zero=>simp[SV.mX]
   | succ t=>simpa[SV.mX] using ih t
 rw[af.gw,af.gw];exact go σ.tmps t

theorem af.kD (σ:af)(k:Nat):(σ.down k).aT k:=by
 refine⟨fun t=>?_,fun o y hy=>?_⟩
 ·rw[af.LR];exact SV.kD _
 ·obtain⟨_,x,_,rfl⟩:=af.r8 hy
  exact bl.kD k x

theorem af.zn (σ:af)(k:Nat):(σ.down k).tmps.length=σ.tmps.length∧(σ.down k).mem.length=σ.mem.length:=by
 simp[af.down,SV.kN]

section
variable {P:Program} {w w' w0:World} {X:kG} {a:Act} {σ:af} {env:List D} {ρ:dJ}

theorem cu.down (h:cu w0 X w a σ env ρ)(k:Nat):cu w0 X w a (σ.down k) env ρ:=by
 refine⟨by rw[(σ.zn k).1];exact h.size,fun t=>by rw[af.LR];exact(h.tmps t).down k,fun o y hy=>?_,?_,?_,h.cells,h.os,h.tape,h.output,h.grown,h.old,h.sub,h.new,h.zT,h.hold⟩
 ·obtain⟨_,x,hx,rfl⟩:=af.r8 hy
  exact bl.YN k (h.dO o x hx)
 ·intro o o' y y' b h1 h2 h3 h4
  obtain⟨_,x,hx,rfl⟩:=af.r8 h1
  obtain⟨_,x',hx',rfl⟩:=af.r8 h2
  rw[bl.EP] at h3 h4
  exact h.inj o o' x x' b hx hx' h3 h4
 ·intro o y b h1 h2
  obtain⟨_,x,hx,rfl⟩:=af.r8 h1
  rw[bl.EP] at h2
  exact(by have:=h.own o x b hx h2;cases x <;> exact this)

def dJ.lR (ρ:dJ)(k:Nat)(v:Value)(cells:Nat):dJ:={ ρ with val:=fun x=>if x=k then v else ρ.val x,S:=ρ.S.or fun b i=>v.ownBlock=some b∧i<cells }

theorem dJ.Hu (ρ:dJ)(k:Nat)(v:Value)(c:Nat):ρ.vB (ρ.lR k v c) (·=k):=
 ⟨⟨fun _ _=>rfl,fun x hx=>by simp[dJ.lR,hx],ρ.S.rN _⟩,fun _=>rfl,fun _=>rfl⟩

theorem cu.Fl (h:cu w0 X w a σ env ρ) {k:Nat} (hk:k<σ.mem.length) (hfree:σ.obj k=none) (ox:σ.aT k) {e:TypeId} {size:Nat} {v:Value} {n:Nat} {xs:List Value} (hown:w'.ownsRow 0 e size v n xs)
  (hK:bW ρ.S w w') (hb:∀o x b,σ.obj o=some x→bY ρ o x b→w'.heap[b]? = w.heap[b]?∧v.ownBlock≠some b) (hB:∀b,v.ownBlock=some b→w0.heap.size≤b∨X.may b)
  (hS:∀b,v.ownBlock=some b→∀off,n*size≤off→¬ρ.S b off) (hos:w'.os=w.os) (ht:TL w' w) (hout:w'.output=w.output) (hsz:w.heap.size≤w'.heap.size)
  (hold:∀b,b<w0.heap.size→¬X.may b→w'.heap[b]? = w.heap[b]?):cu w0 X w' a (σ.setObj k (some (.tok e size))) env (ρ.lR k v (n*size)):=by
 have hm:=ρ.Hu k v (n*size)
 have hne:∀o y,σ.obj o=some y→o≠k:=fun o y hy e=>by rw[e,hfree] at hy;cases hy
 have hlt:∀b,v.ownBlock=some b→b<w'.heap.size:=fun b hb'=>(hown.lt b hb').2
 have hval:(ρ.lR k v (n*size)).val k=v:=by simp[dJ.lR]
 refine⟨by rw[af.aZ];exact h.size,fun t=>by rw[af.ga];exact(h.tmps t).keep hK hm fun o' e'=>by subst e';exact ox.1 t,?_,?_,?_,?_,hos.trans h.os,ht.trans h.tape,hout.trans h.output,Nat.le_trans h.grown hsz,fun b h1 h2=>(hold b h1 h2).trans (h.old b h1 h2),Sets.le_trans h.sub (ρ.S.rN _),?_,h.zT,h.hold⟩
 ·intro o y hy
  rw[af.nh hk] at hy
  by_cases e':o=k
  ·subst e'
   simp at hy
   subst hy
   refine⟨n,xs,by rw[hval];exact hown,fun b hb' off hoff hs=>?_⟩
   rw[hval] at hb'
   rcases hs with hs | ⟨_,hs⟩
   ·exact hS b hb' off hoff hs
   ·omega
  ·simp[e'] at hy
   refine(h.dO o y hy).keep hK hm e' (fun o'' e''=>by subst e'';exact ox.2 o y hy) (fun b hb'=>(hb o y b hy hb').1) fun b off hb' hs=>?_
   rcases hs with hs | ⟨hs,_⟩
   ·exact hs
   ·exact absurd hs (hb o y b hy hb').2
 ·intro o1 o2 y1 y2 b h1 h2 h3 h4
  rw[af.nh hk] at h1 h2
  by_cases e1:o1=k <;> by_cases e2:o2=k
  ·rw[e1,e2]
  ·subst e1;simp at h1;subst h1
   simp[e2] at h2
   rw[fF hm e2 (h.dO _ _ h2)] at h4
   simp only[bY,hval] at h3
   exact absurd h3 (hb o2 y2 b h2 h4).2
  ·subst e2;simp at h2;subst h2
   simp[e1] at h1
   rw[fF hm e1 (h.dO _ _ h1)] at h3
   simp only[bY,hval] at h4
   exact absurd h4 (hb o1 y1 b h1 h3).2
  ·simp[e1] at h1;simp[e2] at h2
   rw[fF hm e1 (h.dO _ _ h1)] at h3
   rw[fF hm e2 (h.dO _ _ h2)] at h4
   exact h.inj o1 o2 y1 y2 b h1 h2 h3 h4
 ·intro o y b hy hb'
  rw[af.nh hk] at hy
  by_cases e':o=k
  ·subst e';simp at hy;subst hy
   simp only[bY,hval] at hb'
   exact⟨.inr (hB b hb'),hlt b hb'⟩
  ·simp[e'] at hy
   rw[fF hm e' (h.dO _ _ hy)] at hb'
   obtain⟨h1,h2⟩:=h.own o y b hy hb'
   exact⟨h1,Nat.lt_of_lt_of_le h2 hsz⟩
 ·intro b o hs
  rcases hs with hs | ⟨hs,_⟩
  ·exact Nat.lt_of_lt_of_le (h.cells b o hs) hsz
  ·exact hlt b hs
 ·intro b o hs
  rcases hs with hs | ⟨hs,_⟩
  ·exact h.new b o hs
  ·exact .inr (hB b hs)

def mj (w:World)(S:Sets)(size:Nat)(xs:List Value)(es:List D):Prop:=
 xs.length=es.length*size∧(∀(i:Nat) (e:D),es[i]? = some e→e.cells.length=size) ∧
 ∀(i:Nat) (e:D) (j:Nat) (d:D),es[i]? = some e→e.cells[j]? = some d→d.one=true∧∃v,xs[i*size+j]? = some v∧bU w S v d

theorem mj.keep {S S':Sets}{size:Nat}{xs:List Value}{es:List D}(h:mj w S size xs es)(hk:bW S w w')(hS:S≤S'):mj w' S' size xs es:=
 ⟨h.1,h.2.1,fun i e j d he hd=>let ⟨h1,v,h2,h3⟩:=h.2.2 i e j d he hd;⟨h1,v,h2,h3.keep hk hS⟩⟩

theorem uP {es:List D}{size i j:Nat}{e d:D}(hz:∀(i:Nat) (e:D),es[i]? = some e→e.cells.length=size)(he:es[i]? = some e)(hd:e.cells[j]? = some d):i*size+j<es.length*size∧j<size:=by
 have hi:i<es.length:=(List.getElem?_eq_some_iff.1 he).1
 have hj:j<size:=by rw[←hz i e he];exact(List.getElem?_eq_some_iff.1 hd).1
 refine⟨?_,hj⟩
 have:(i+1)*size≤es.length*size:=Nat.mul_le_mul_right _ hi
 rw[Nat.add_mul,Nat.one_mul] at this
 omega

theorem HX {S:Sets}{e:TypeId}{size n:Nat}{v:Value}{xs:List Value}{es:List D}(hown:w.ownsRow 0 e size v n xs)(hn:es.length=n)(hrow:mj w S size xs es)(hS:∀b,v.ownBlock=some b→∀i,i<n*size→S b i):bU w S v (.bq es):=by
 rcases hown.2 with⟨rfl,rfl⟩ | ⟨g,cap,cur,rfl,_,hg,hnc,GR,hcs,Ek⟩
 ·have:es=[]:=List.eq_nil_of_length_eq_zero hn
  subst this
  exact .nil
 ·refine .bq (size:=size) (val:=fun i j=>xs.getD (i*size+j) undef) hn.symm hnc GR hrow.2.1 (fun i e j d he hd=>(hrow.2.2 i e j d he hd).1) (fun i e j d he hd=>?_) (fun i e j d he hd=>?_) fun i e j d he hd=>?_
  ·refine hS g rfl _ ?_
   have:=(uP hrow.2.1 he hd).1
   rw[hn] at this
   omega
  ·obtain⟨_,v,hv,_⟩:=hrow.2.2 i e j d he hd
   have:=hown.cells (g:=g) rfl (i*size+j) v hv
   rw[iR] at this
   simp only[List.getD_eq_getElem?_getD,hv,Option.getD_some]
   rw[show 0+i*size+j=0+(i*size+j) from by omega]
   exact this
  ·obtain⟨_,v,hv,hr⟩:=hrow.2.2 i e j d he hd
   simp only[List.getD_eq_getElem?_getD,hv,Option.getD_some]
   exact hr

theorem XO {S:Sets}{e:TypeId}{size n:Nat}{v:Value}{xs:List Value}{es:List D}(hown:w.ownsRow 0 e size v n xs)(h:bU w S v (.bq es))(hz:bK size es=true):es.length=n∧mj w S size xs es:=by
 have Mx:∀(i:Nat) (e:D),es[i]? = some e→e.cells.length=size:=fun i e he=>oZ hz he
 rcases hown.2 with⟨rfl,rfl⟩ | ⟨g,cap,cur,rfl,_,hg,hnc,GR,hcs,Ek⟩
 ·cases h
  have:xs=[]:=List.eq_nil_of_length_eq_zero (by simpa using hown.1)
  subst this
  exact⟨rfl,by simp,Mx,by simp⟩
 ·cases h with
  | emp _=>
   have:xs=[]:=List.eq_nil_of_length_eq_zero (by simpa using hown.1)
   subst this
   exact⟨rfl,by simp,Mx,by simp⟩
  | bq hl hc hm My ho hS hw hr=>
   refine⟨hl.symm,by rw[hown.1,hl],Mx,fun i e j d he hd=>⟨ho i e j d he hd,?_⟩⟩
   obtain⟨hlt,hj⟩:=uP Mx he hd
   have hsz:=(My i e he).symm.trans (Mx i e he)
   have hx:i*size+j<xs.length:=by rw[hown.1,hl];exact hlt
   refine⟨xs[i*size+j],List.getElem?_eq_getElem hx,?_⟩
   have h1:=hown.cells (g:=g) rfl _ _ (List.getElem?_eq_getElem hx)
   have h2:=hw i e j d he hd
   rw[iR] at h1
   rw[hsz,show 0+i*size+j=0+(i*size+j) from by omega,h1] at h2
   rw[Option.some.inj h2]
   exact hr i e j d he hd

end
end
end
end Go.Am
